/- What is said of SameDeed (written by stmts.py). -/
import Derived.Test.YtnkelipioodhjaaTypes
import Derived.Test.YtnkelipioodhjaaWalk
set_option linter.unusedVariables false
set_option linter.unusedSimpArgs false
set_option maxRecDepth 100000
namespace Go.Proofs.Ytnkelipioodhjaa.Abs
open Go
def vIn (x lo hi : Int) : Bool := decide (lo ≤ x) && decide (x ≤ hi)
theorem l1SameF (n : Nat) (ty : Nat) (s t : ByteArray) : tree E0 (n + 1) ty 107 [bytesC s, bytesC t] = some (.sc (.bool (s.toList == t.toList))) := by
  rw [tree_def, f107_eq, f107]
  have e : ∀ u : ByteArray, content [] 1 (.ro u.size (bytesAV u)) = some (bytesAV u) := by
    intro u
    simp [content, bytesAV_len]
  have eb : ∀ u : ByteArray, (bytesAV u).mapM byteOf = some u.data.toList := fun u => byteOf_bytes _
  simp only [PR_cvBS, PR_bin, pCvBS, e, eb, Option.bind_some, pBin, binS]
  simp
theorem bytesEqualF (n : Nat) (ty : Nat) (s t : ByteArray) : tree E0 (n + 1) ty 109 [bytesC s, bytesC t] = some (.sc (.bool (s.toList == t.toList))) := by
  rw [tree_def, f109_eq, f109]
  have e : ∀ u : ByteArray, content [] 1 (.ro u.size (bytesAV u)) = some (bytesAV u) := by
    intro u
    simp [content, bytesAV_len]
  have eb : ∀ u : ByteArray, (bytesAV u).mapM byteOf = some u.data.toList := fun u => byteOf_bytes _
  simp only [PR_cvBS, PR_bin, pCvBS, e, eb, Option.bind_some, pBin, binS]
  simp
def eqSub (x y : SubV) : Bool := x.fClient.toList == y.fClient.toList && (x.fQos == y.fQos && x.fBorn == y.fBorn)
theorem cellsSub (x y : SubV) : eqCells [1, 0, 0] (encSub x) (encSub y) = some (eqSub x y) := by
  simp only [encSub, eqCells, eqCell, eqSub, if_true, Option.bind_some]
  generalize (x.fClient.toList == y.fClient.toList) = b0
  generalize (x.fQos == y.fQos) = b1
  generalize (x.fBorn == y.fBorn) = b2
  cases b0 <;> cases b1 <;> cases b2 <;> rfl
theorem l19SubsF (n : Nat) (hn : 1048576 < n) (ty : Nat) (l q : List SubV) (hl : l.length ≤ 1048576) : tree E0 (n + 1) ty 79 [rowsC encSub l, rowsC encSub q] = some (.sc (.bool (eqList eqSub l q))) := by
  rw [tree_def, f79_eq, f79]
  simp only [PR_len, PR_bin, PR_cond]
  rw [len_ro, len_ro, neq_nat, cond_b, eqList]
  by_cases h : l.length = q.length
  · rw [if_neg (by simpa using h), if_pos h]
    have key := eqv_loop (β := AV) encSub (lenSub) (by decide) (fun x => .agg (encSub x)) (fun p k => pLoad true 3 p [] k) (fun x r k => ld_rp 3 _ _ [] k (lenSub x)) (fun x y k => pBinA .neq [1, 0, 0] x y k) eqSub (fun x y k => binA_ne _ _ _ _ (cellsSub x y) k) l q h hl (fun m i => f79_l0 (PR n AV) n (fun x H => ownTree ti0 E0.tp ty H x) m (rowsC encSub l) (rowsC encSub q) i []) (some (.sc (.bool false))) (some (.sc (.bool true))) (fun m i => rfl) l q [] [] n rfl rfl rfl (by omega)
    simp only [List.length_nil, Int.natCast_zero] at key
    refine key.trans ?_
    cases all2 eqSub l q <;> rfl
  · rw [if_pos (by simpa using h), if_neg h]
    rfl
theorem l19IntsF (n : Nat) (hn : 1048576 < n) (ty : Nat) (l q : List Int) (hl : l.length ≤ 1048576) : tree E0 (n + 1) ty 80 [intsC l, intsC q] = some (.sc (.bool (eqList eqI l q))) := by
  rw [ints_rows, ints_rows]
  rw [tree_def, f80_eq, f80]
  simp only [PR_len, PR_bin, PR_cond]
  rw [len_ro, len_ro, neq_nat, cond_b, eqList]
  by_cases h : l.length = q.length
  · rw [if_neg (by simpa using h), if_pos h]
    have key := eqv_loop (β := AV) encI (fun _ => rfl) (by decide) (fun z => .sc (.int .i64 z)) (fun p k => pLoad false 1 p [] k) (fun x r k => ldI x r [] k) (fun x y k => pBin .neq x y k) eqI (fun x y k => neI x y k) l q h hl (fun m i => f80_l0 (PR n AV) n (fun x H => ownTree ti0 E0.tp ty H x) m (rowsC encI l) (rowsC encI q) i []) (some (.sc (.bool false))) (some (.sc (.bool true))) (fun m i => rfl) l q [] [] n rfl rfl rfl (by omega)
    simp only [List.length_nil, Int.natCast_zero] at key
    refine key.trans ?_
    cases all2 eqI l q <;> rfl
  · rw [if_pos (by simpa using h), if_neg h]
    rfl
theorem equalSubs (n : Nat) (hn : 1048576 < n) (ty : Nat) (l q : List SubV) (hl : l.length ≤ 1048576) : tree E0 (n + 1) ty 83 [rowsC encSub l, rowsC encSub q] = some (.sc (.bool (eqList eqSub l q))) := by
  rw [tree_def, f83_eq, f83]
  simp only [PR_len, PR_bin, PR_cond]
  rw [len_ro, len_ro, neq_nat, cond_b, eqList]
  by_cases h : l.length = q.length
  · rw [if_neg (by simpa using h), if_pos h]
    rw [len_ro]
    have key := eqv_loop (β := AV) encSub (lenSub) (by decide) (fun x => .agg (encSub x)) (fun p k => pLoad true 3 p [] k) (fun x r k => ld_rp 3 _ _ [] k (lenSub x)) (fun x y k => pBinA .neq [1, 0, 0] x y k) eqSub (fun x y k => binA_ne _ _ _ _ (cellsSub x y) k) l q h hl (fun m i => f83_l0 (PR n AV) n (fun x H => ownTree ti0 E0.tp ty H x) m (rowsC encSub l) (rowsC encSub q) (.sc (.int .i64 l.length)) i []) (some (.sc (.bool false))) (some (.sc (.bool true))) (fun m i => rfl) l q [] [] n rfl rfl rfl (by omega)
    simp only [List.length_nil, Int.natCast_zero] at key
    refine key.trans ?_
    cases all2 eqSub l q <;> rfl
  · rw [if_pos (by simpa using h), if_neg h]
    rfl
theorem equalInts (n : Nat) (hn : 1048576 < n) (ty : Nat) (l q : List Int) (hl : l.length ≤ 1048576) : tree E0 (n + 1) ty 84 [intsC l, intsC q] = some (.sc (.bool (eqList eqI l q))) := by
  rw [ints_rows, ints_rows]
  rw [tree_def, f84_eq, f84]
  simp only [PR_len, PR_bin, PR_cond]
  rw [len_ro, len_ro, neq_nat, cond_b, eqList]
  by_cases h : l.length = q.length
  · rw [if_neg (by simpa using h), if_pos h]
    rw [len_ro]
    have key := eqv_loop (β := AV) encI (fun _ => rfl) (by decide) (fun z => .sc (.int .i64 z)) (fun p k => pLoad false 1 p [] k) (fun x r k => ldI x r [] k) (fun x y k => pBin .neq x y k) eqI (fun x y k => neI x y k) l q h hl (fun m i => f84_l0 (PR n AV) n (fun x H => ownTree ti0 E0.tp ty H x) m (rowsC encI l) (rowsC encI q) (.sc (.int .i64 l.length)) i []) (some (.sc (.bool false))) (some (.sc (.bool true))) (fun m i => rfl) l q [] [] n rfl rfl rfl (by omega)
    simp only [List.length_nil, Int.natCast_zero] at key
    refine key.trans ?_
    cases all2 eqI l q <;> rfl
  · rw [if_pos (by simpa using h), if_neg h]
    rfl
def eqWant (x y : WantV) : Bool := x.fFilter.toList == y.fFilter.toList && x.fQos == y.fQos
theorem cellsWant (x y : WantV) : eqCells [1, 0] (encWant x) (encWant y) = some (eqWant x y) := by
  simp only [encWant, eqCells, eqCell, eqWant, if_true, Option.bind_some]
  generalize (x.fFilter.toList == y.fFilter.toList) = b0
  generalize (x.fQos == y.fQos) = b1
  cases b0 <;> cases b1 <;> rfl
theorem equalWants (n : Nat) (hn : 1048576 < n) (ty : Nat) (l q : List WantV) (hl : l.length ≤ 1048576) : tree E0 (n + 1) ty 110 [rowsC encWant l, rowsC encWant q] = some (.sc (.bool (eqList eqWant l q))) := by
  rw [tree_def, f110_eq, f110]
  simp only [PR_len, PR_bin, PR_cond]
  rw [len_ro, len_ro, neq_nat, cond_b, eqList]
  by_cases h : l.length = q.length
  · rw [if_neg (by simpa using h), if_pos h]
    rw [len_ro]
    have key := eqv_loop (β := AV) encWant (lenWant) (by decide) (fun x => .agg (encWant x)) (fun p k => pLoad true 2 p [] k) (fun x r k => ld_rp 2 _ _ [] k (lenWant x)) (fun x y k => pBinA .neq [1, 0] x y k) eqWant (fun x y k => binA_ne _ _ _ _ (cellsWant x y) k) l q h hl (fun m i => f110_l0 (PR n AV) n (fun x H => ownTree ti0 E0.tp ty H x) m (rowsC encWant l) (rowsC encWant q) (.sc (.int .i64 l.length)) i []) (some (.sc (.bool false))) (some (.sc (.bool true))) (fun m i => rfl) l q [] [] n rfl rfl rfl (by omega)
    simp only [List.length_nil, Int.natCast_zero] at key
    refine key.trans ?_
    cases all2 eqWant l q <;> rfl
  · rw [if_pos (by simpa using h), if_neg h]
    rfl
theorem equalStrs (n : Nat) (hn : 1048576 < n) (ty : Nat) (l q : List ByteArray) (hl : l.length ≤ 1048576) : tree E0 (n + 1) ty 111 [strsC l, strsC q] = some (.sc (.bool (eqList eqSt l q))) := by
  rw [strs_rows, strs_rows]
  rw [tree_def, f111_eq, f111]
  simp only [PR_len, PR_bin, PR_cond]
  rw [len_ro, len_ro, neq_nat, cond_b, eqList]
  by_cases h : l.length = q.length
  · rw [if_neg (by simpa using h), if_pos h]
    rw [len_ro]
    have key := eqv_loop (β := AV) encS (fun _ => rfl) (by decide) (fun z => .sc (.string z)) (fun p k => pLoad false 1 p [] k) (fun x r k => ldS x r [] k) (fun x y k => pBin .neq x y k) eqSt (fun x y k => neS x y k) l q h hl (fun m i => f111_l0 (PR n AV) n (fun x H => ownTree ti0 E0.tp ty H x) m (rowsC encS l) (rowsC encS q) (.sc (.int .i64 l.length)) i []) (some (.sc (.bool false))) (some (.sc (.bool true))) (fun m i => rfl) l q [] [] n rfl rfl rfl (by omega)
    simp only [List.length_nil, Int.natCast_zero] at key
    refine key.trans ?_
    cases all2 eqSt l q <;> rfl
  · rw [if_pos (by simpa using h), if_neg h]
    rfl
def vPkChain (a b : PacketV) : Bool := (a.fType == b.fType) && (a.fDup == b.fDup) && (a.fQos == b.fQos) && (a.fRetain == b.fRetain) && (a.fId == b.fId) && (a.fTopic.toList == b.fTopic.toList) && (a.fBody.toList == b.fBody.toList) && (a.fClient.toList == b.fClient.toList) && (a.fLevel == b.fLevel) && (a.fClean == b.fClean) && (a.fKeep == b.fKeep) && (a.fHasWill == b.fHasWill) && (a.fWTopic.toList == b.fWTopic.toList) && (a.fWBody.toList == b.fWBody.toList) && (a.fWQos == b.fWQos) && (a.fWRetain == b.fWRetain) && (a.fHasUser == b.fHasUser) && (a.fUser.toList == b.fUser.toList) && (a.fHasPass == b.fHasPass) && (a.fPass.toList == b.fPass.toList) && (a.fCode == b.fCode) && (a.fPresent == b.fPresent)
def vPkLists (a b : PacketV) : Bool := eqList eqWant a.fWants b.fWants && eqList eqSt a.fNames b.fNames && eqList eqI a.fCodes b.fCodes
def vSamePacket (a b : PacketV) : Bool := vPkLists a b && vPkChain a b
theorem pkLoop2 (n : Nat) (hn : 1048576 < n) (ty : Nat) (a b : PacketV) (H : Heap) (i1 i2 : Nat) (B1 : H[i1]? = some ⟨encPacket a, true, true⟩) (B2 : H[i2]? = some ⟨encPacket b, true, true⟩) (hl2 : a.fCodes.length ≤ 1048576) (hq2 : a.fCodes.length = b.fCodes.length) : f78_l2 (PR (n + 1) AV) (n + 1) (fun x H => ownTree ti0 E0.tp ty H x) (n + 1) (.ptr i1 0) (.ptr i2 0) (.sc (.int .i64 0)) H = some (.sc (.bool (if all2 eqI a.fCodes b.fCodes then (vPkChain a b) else false))) := by
  have hL : ∀ m i, f78_l2 (PR (n + 1) AV) (n + 1) (fun x H => ownTree ti0 E0.tp ty H x) (m + 1) (.ptr i1 0) (.ptr i2 0) i H = pBin .lss i (.sc (.int .i64 a.fCodes.length)) fun t14 => pCond t14 (pIadr 1 (rowsC encI a.fCodes) i fun t19 => pLoad false 1 t19 H fun t20 => pIadr 1 (rowsC encI b.fCodes) i fun t23 => pLoad false 1 t23 H fun t24 => (fun x y k => pBin .neq x y k) t20 t24 fun t25 => pCond t25 (some (.sc (.bool false))) (pBin .add i (.sc (.int .i64 1)) fun t16 => f78_l2 (PR (n + 1) AV) (n + 1) (fun x H => ownTree ti0 E0.tp ty H x) m (.ptr i1 0) (.ptr i2 0) t16 H)) (some (.sc (.bool (vPkChain a b)))) := by
    intro m i
    show (PR (n + 1) AV).fadr 24 (.ptr i1 0) _ = _
    simp only [PR_fadr, PR_load, PR_bin, PR_binB, PR_binA, PR_cond, PR_guard, PR_pick, PR_len, PR_iadr]
    refine w_fadr ?_
    refine w_ld (c := intsC a.fCodes) B1 (Nat.le_of_ble_eq_true rfl) rfl ?_
    refine w_len ?_
    congr 1
    funext t
    congr 1
    · refine w_fadr ?_
      refine w_ld (c := intsC a.fCodes) B1 (Nat.le_of_ble_eq_true rfl) rfl ?_
      rw [ints_rows]
      congr 1
      funext t2
      congr 1
      funext t3
      refine w_fadr ?_
      refine w_ld (c := intsC b.fCodes) B2 (Nat.le_of_ble_eq_true rfl) rfl ?_
      rw [ints_rows]
      rfl
    · skip
      refine w_fadr ?_
      refine w_ld (c := .sc (.int .i64 a.fType)) B1 (Nat.le_of_ble_eq_true rfl) rfl ?_
      refine w_fadr ?_
      refine w_ld (c := .sc (.int .i64 b.fType)) B2 (Nat.le_of_ble_eq_true rfl) rfl ?_
      refine w_bin (v := .sc (.bool (a.fType == b.fType))) (fun k => rfl) ?_
      apply w_merge ((a.fType == b.fType) && (a.fDup == b.fDup))
      · intro b1 q1
        refine w_split ((a.fType == b.fType)) (fun h1 => ?_) (fun h1 => ?_)
        · refine w_gT h1 ?_
          refine w_fadr ?_
          refine w_gT h1 ?_
          refine w_ld (c := .sc (.bool a.fDup)) B1 (Nat.le_of_ble_eq_true rfl) rfl ?_
          refine w_gT h1 ?_
          refine w_fadr ?_
          refine w_gT h1 ?_
          refine w_ld (c := .sc (.bool b.fDup)) B2 (Nat.le_of_ble_eq_true rfl) rfl ?_
          refine w_gT h1 ?_
          refine w_binB (v := .sc (.bool (a.fDup == b.fDup))) (fun k => rfl) ?_
          refine w_pTb h1 (mAT q1 h1) ?_
          exact rfl
        · refine w_gF h1 ?_
          refine w_gF h1 ?_
          refine w_gF h1 ?_
          refine w_gF h1 ?_
          refine w_gF h1 ?_
          refine w_pFb h1 (mAF q1 h1) ?_
          exact rfl
      intro b1 q1
      apply w_merge (b1 && (a.fQos == b.fQos))
      · intro b2 q2
        refine w_split (b1) (fun h2 => ?_) (fun h2 => ?_)
        · refine w_gT h2 ?_
          refine w_fadr ?_
          refine w_gT h2 ?_
          refine w_ld (c := .sc (.int .i64 a.fQos)) B1 (Nat.le_of_ble_eq_true rfl) rfl ?_
          refine w_gT h2 ?_
          refine w_fadr ?_
          refine w_gT h2 ?_
          refine w_ld (c := .sc (.int .i64 b.fQos)) B2 (Nat.le_of_ble_eq_true rfl) rfl ?_
          refine w_gT h2 ?_
          refine w_bin (v := .sc (.bool (a.fQos == b.fQos))) (fun k => rfl) ?_
          refine w_pTb h2 (mAT q2 h2) ?_
          exact rfl
        · refine w_gF h2 ?_
          refine w_gF h2 ?_
          refine w_gF h2 ?_
          refine w_gF h2 ?_
          refine w_gF h2 ?_
          refine w_pFb h2 (mAF q2 h2) ?_
          exact rfl
      intro b2 q2
      apply w_merge (b2 && (a.fRetain == b.fRetain))
      · intro b3 q3
        refine w_split (b2) (fun h3 => ?_) (fun h3 => ?_)
        · refine w_gT h3 ?_
          refine w_fadr ?_
          refine w_gT h3 ?_
          refine w_ld (c := .sc (.bool a.fRetain)) B1 (Nat.le_of_ble_eq_true rfl) rfl ?_
          refine w_gT h3 ?_
          refine w_fadr ?_
          refine w_gT h3 ?_
          refine w_ld (c := .sc (.bool b.fRetain)) B2 (Nat.le_of_ble_eq_true rfl) rfl ?_
          refine w_gT h3 ?_
          refine w_binB (v := .sc (.bool (a.fRetain == b.fRetain))) (fun k => rfl) ?_
          refine w_pTb h3 (mAT q3 h3) ?_
          exact rfl
        · refine w_gF h3 ?_
          refine w_gF h3 ?_
          refine w_gF h3 ?_
          refine w_gF h3 ?_
          refine w_gF h3 ?_
          refine w_pFb h3 (mAF q3 h3) ?_
          exact rfl
      intro b3 q3
      apply w_merge (b3 && (a.fId == b.fId))
      · intro b4 q4
        refine w_split (b3) (fun h4 => ?_) (fun h4 => ?_)
        · refine w_gT h4 ?_
          refine w_fadr ?_
          refine w_gT h4 ?_
          refine w_ld (c := .sc (.int .i64 a.fId)) B1 (Nat.le_of_ble_eq_true rfl) rfl ?_
          refine w_gT h4 ?_
          refine w_fadr ?_
          refine w_gT h4 ?_
          refine w_ld (c := .sc (.int .i64 b.fId)) B2 (Nat.le_of_ble_eq_true rfl) rfl ?_
          refine w_gT h4 ?_
          refine w_bin (v := .sc (.bool (a.fId == b.fId))) (fun k => rfl) ?_
          refine w_pTb h4 (mAT q4 h4) ?_
          exact rfl
        · refine w_gF h4 ?_
          refine w_gF h4 ?_
          refine w_gF h4 ?_
          refine w_gF h4 ?_
          refine w_gF h4 ?_
          refine w_pFb h4 (mAF q4 h4) ?_
          exact rfl
      intro b4 q4
      apply w_merge (b4 && (a.fTopic.toList == b.fTopic.toList))
      · intro b5 q5
        refine w_split (b4) (fun h5 => ?_) (fun h5 => ?_)
        · refine w_gT h5 ?_
          refine w_fadr ?_
          refine w_gT h5 ?_
          refine w_ld (c := .sc (.string a.fTopic)) B1 (Nat.le_of_ble_eq_true rfl) rfl ?_
          refine w_gT h5 ?_
          refine w_fadr ?_
          refine w_gT h5 ?_
          refine w_ld (c := .sc (.string b.fTopic)) B2 (Nat.le_of_ble_eq_true rfl) rfl ?_
          refine w_gT h5 ?_
          refine w_bin (v := .sc (.bool (a.fTopic.toList == b.fTopic.toList))) (fun k => rfl) ?_
          refine w_pTb h5 (mAT q5 h5) ?_
          exact rfl
        · refine w_gF h5 ?_
          refine w_gF h5 ?_
          refine w_gF h5 ?_
          refine w_gF h5 ?_
          refine w_gF h5 ?_
          refine w_pFb h5 (mAF q5 h5) ?_
          exact rfl
      intro b5 q5
      apply w_merge (b5 && (a.fBody.toList == b.fBody.toList))
      · intro b6 q6
        refine w_split (b5) (fun h6 => ?_) (fun h6 => ?_)
        · refine w_gT h6 ?_
          refine w_fadr ?_
          refine w_gT h6 ?_
          refine w_ld (c := bytesC a.fBody) B1 (Nat.le_of_ble_eq_true rfl) rfl ?_
          refine w_gT h6 ?_
          refine w_fadr ?_
          refine w_gT h6 ?_
          refine w_ld (c := bytesC b.fBody) B2 (Nat.le_of_ble_eq_true rfl) rfl ?_
          refine w_gT h6 ?_
          refine lw_sc rfl (vcons (Vw_ro _ _ _) (vcons (Vw_ro _ _ _) vnil)) (l1SameF (n + 0) _ a.fBody b.fBody) ?_
          refine w_pTb h6 (mAT q6 h6) ?_
          exact rfl
        · refine w_gF h6 ?_
          refine w_gF h6 ?_
          refine w_gF h6 ?_
          refine w_gF h6 ?_
          refine w_gF h6 ?_
          refine w_pFb h6 (mAF q6 h6) ?_
          exact rfl
      intro b6 q6
      apply w_merge (b6 && (a.fClient.toList == b.fClient.toList))
      · intro b7 q7
        refine w_split (b6) (fun h7 => ?_) (fun h7 => ?_)
        · refine w_gT h7 ?_
          refine w_fadr ?_
          refine w_gT h7 ?_
          refine w_ld (c := .sc (.string a.fClient)) B1 (Nat.le_of_ble_eq_true rfl) rfl ?_
          refine w_gT h7 ?_
          refine w_fadr ?_
          refine w_gT h7 ?_
          refine w_ld (c := .sc (.string b.fClient)) B2 (Nat.le_of_ble_eq_true rfl) rfl ?_
          refine w_gT h7 ?_
          refine w_bin (v := .sc (.bool (a.fClient.toList == b.fClient.toList))) (fun k => rfl) ?_
          refine w_pTb h7 (mAT q7 h7) ?_
          exact rfl
        · refine w_gF h7 ?_
          refine w_gF h7 ?_
          refine w_gF h7 ?_
          refine w_gF h7 ?_
          refine w_gF h7 ?_
          refine w_pFb h7 (mAF q7 h7) ?_
          exact rfl
      intro b7 q7
      apply w_merge (b7 && (a.fLevel == b.fLevel))
      · intro b8 q8
        refine w_split (b7) (fun h8 => ?_) (fun h8 => ?_)
        · refine w_gT h8 ?_
          refine w_fadr ?_
          refine w_gT h8 ?_
          refine w_ld (c := .sc (.int .i64 a.fLevel)) B1 (Nat.le_of_ble_eq_true rfl) rfl ?_
          refine w_gT h8 ?_
          refine w_fadr ?_
          refine w_gT h8 ?_
          refine w_ld (c := .sc (.int .i64 b.fLevel)) B2 (Nat.le_of_ble_eq_true rfl) rfl ?_
          refine w_gT h8 ?_
          refine w_bin (v := .sc (.bool (a.fLevel == b.fLevel))) (fun k => rfl) ?_
          refine w_pTb h8 (mAT q8 h8) ?_
          exact rfl
        · refine w_gF h8 ?_
          refine w_gF h8 ?_
          refine w_gF h8 ?_
          refine w_gF h8 ?_
          refine w_gF h8 ?_
          refine w_pFb h8 (mAF q8 h8) ?_
          exact rfl
      intro b8 q8
      apply w_merge (b8 && (a.fClean == b.fClean))
      · intro b9 q9
        refine w_split (b8) (fun h9 => ?_) (fun h9 => ?_)
        · refine w_gT h9 ?_
          refine w_fadr ?_
          refine w_gT h9 ?_
          refine w_ld (c := .sc (.bool a.fClean)) B1 (Nat.le_of_ble_eq_true rfl) rfl ?_
          refine w_gT h9 ?_
          refine w_fadr ?_
          refine w_gT h9 ?_
          refine w_ld (c := .sc (.bool b.fClean)) B2 (Nat.le_of_ble_eq_true rfl) rfl ?_
          refine w_gT h9 ?_
          refine w_binB (v := .sc (.bool (a.fClean == b.fClean))) (fun k => rfl) ?_
          refine w_pTb h9 (mAT q9 h9) ?_
          exact rfl
        · refine w_gF h9 ?_
          refine w_gF h9 ?_
          refine w_gF h9 ?_
          refine w_gF h9 ?_
          refine w_gF h9 ?_
          refine w_pFb h9 (mAF q9 h9) ?_
          exact rfl
      intro b9 q9
      apply w_merge (b9 && (a.fKeep == b.fKeep))
      · intro b10 q10
        refine w_split (b9) (fun h10 => ?_) (fun h10 => ?_)
        · refine w_gT h10 ?_
          refine w_fadr ?_
          refine w_gT h10 ?_
          refine w_ld (c := .sc (.int .i64 a.fKeep)) B1 (Nat.le_of_ble_eq_true rfl) rfl ?_
          refine w_gT h10 ?_
          refine w_fadr ?_
          refine w_gT h10 ?_
          refine w_ld (c := .sc (.int .i64 b.fKeep)) B2 (Nat.le_of_ble_eq_true rfl) rfl ?_
          refine w_gT h10 ?_
          refine w_bin (v := .sc (.bool (a.fKeep == b.fKeep))) (fun k => rfl) ?_
          refine w_pTb h10 (mAT q10 h10) ?_
          exact rfl
        · refine w_gF h10 ?_
          refine w_gF h10 ?_
          refine w_gF h10 ?_
          refine w_gF h10 ?_
          refine w_gF h10 ?_
          refine w_pFb h10 (mAF q10 h10) ?_
          exact rfl
      intro b10 q10
      apply w_merge (b10 && (a.fHasWill == b.fHasWill))
      · intro b11 q11
        refine w_split (b10) (fun h11 => ?_) (fun h11 => ?_)
        · refine w_gT h11 ?_
          refine w_fadr ?_
          refine w_gT h11 ?_
          refine w_ld (c := .sc (.bool a.fHasWill)) B1 (Nat.le_of_ble_eq_true rfl) rfl ?_
          refine w_gT h11 ?_
          refine w_fadr ?_
          refine w_gT h11 ?_
          refine w_ld (c := .sc (.bool b.fHasWill)) B2 (Nat.le_of_ble_eq_true rfl) rfl ?_
          refine w_gT h11 ?_
          refine w_binB (v := .sc (.bool (a.fHasWill == b.fHasWill))) (fun k => rfl) ?_
          refine w_pTb h11 (mAT q11 h11) ?_
          exact rfl
        · refine w_gF h11 ?_
          refine w_gF h11 ?_
          refine w_gF h11 ?_
          refine w_gF h11 ?_
          refine w_gF h11 ?_
          refine w_pFb h11 (mAF q11 h11) ?_
          exact rfl
      intro b11 q11
      apply w_merge (b11 && (a.fWTopic.toList == b.fWTopic.toList))
      · intro b12 q12
        refine w_split (b11) (fun h12 => ?_) (fun h12 => ?_)
        · refine w_gT h12 ?_
          refine w_fadr ?_
          refine w_gT h12 ?_
          refine w_ld (c := .sc (.string a.fWTopic)) B1 (Nat.le_of_ble_eq_true rfl) rfl ?_
          refine w_gT h12 ?_
          refine w_fadr ?_
          refine w_gT h12 ?_
          refine w_ld (c := .sc (.string b.fWTopic)) B2 (Nat.le_of_ble_eq_true rfl) rfl ?_
          refine w_gT h12 ?_
          refine w_bin (v := .sc (.bool (a.fWTopic.toList == b.fWTopic.toList))) (fun k => rfl) ?_
          refine w_pTb h12 (mAT q12 h12) ?_
          exact rfl
        · refine w_gF h12 ?_
          refine w_gF h12 ?_
          refine w_gF h12 ?_
          refine w_gF h12 ?_
          refine w_gF h12 ?_
          refine w_pFb h12 (mAF q12 h12) ?_
          exact rfl
      intro b12 q12
      apply w_merge (b12 && (a.fWBody.toList == b.fWBody.toList))
      · intro b13 q13
        refine w_split (b12) (fun h13 => ?_) (fun h13 => ?_)
        · refine w_gT h13 ?_
          refine w_fadr ?_
          refine w_gT h13 ?_
          refine w_ld (c := bytesC a.fWBody) B1 (Nat.le_of_ble_eq_true rfl) rfl ?_
          refine w_gT h13 ?_
          refine w_fadr ?_
          refine w_gT h13 ?_
          refine w_ld (c := bytesC b.fWBody) B2 (Nat.le_of_ble_eq_true rfl) rfl ?_
          refine w_gT h13 ?_
          refine lw_sc rfl (vcons (Vw_ro _ _ _) (vcons (Vw_ro _ _ _) vnil)) (l1SameF (n + 0) _ a.fWBody b.fWBody) ?_
          refine w_pTb h13 (mAT q13 h13) ?_
          exact rfl
        · refine w_gF h13 ?_
          refine w_gF h13 ?_
          refine w_gF h13 ?_
          refine w_gF h13 ?_
          refine w_gF h13 ?_
          refine w_pFb h13 (mAF q13 h13) ?_
          exact rfl
      intro b13 q13
      apply w_merge (b13 && (a.fWQos == b.fWQos))
      · intro b14 q14
        refine w_split (b13) (fun h14 => ?_) (fun h14 => ?_)
        · refine w_gT h14 ?_
          refine w_fadr ?_
          refine w_gT h14 ?_
          refine w_ld (c := .sc (.int .i64 a.fWQos)) B1 (Nat.le_of_ble_eq_true rfl) rfl ?_
          refine w_gT h14 ?_
          refine w_fadr ?_
          refine w_gT h14 ?_
          refine w_ld (c := .sc (.int .i64 b.fWQos)) B2 (Nat.le_of_ble_eq_true rfl) rfl ?_
          refine w_gT h14 ?_
          refine w_bin (v := .sc (.bool (a.fWQos == b.fWQos))) (fun k => rfl) ?_
          refine w_pTb h14 (mAT q14 h14) ?_
          exact rfl
        · refine w_gF h14 ?_
          refine w_gF h14 ?_
          refine w_gF h14 ?_
          refine w_gF h14 ?_
          refine w_gF h14 ?_
          refine w_pFb h14 (mAF q14 h14) ?_
          exact rfl
      intro b14 q14
      apply w_merge (b14 && (a.fWRetain == b.fWRetain))
      · intro b15 q15
        refine w_split (b14) (fun h15 => ?_) (fun h15 => ?_)
        · refine w_gT h15 ?_
          refine w_fadr ?_
          refine w_gT h15 ?_
          refine w_ld (c := .sc (.bool a.fWRetain)) B1 (Nat.le_of_ble_eq_true rfl) rfl ?_
          refine w_gT h15 ?_
          refine w_fadr ?_
          refine w_gT h15 ?_
          refine w_ld (c := .sc (.bool b.fWRetain)) B2 (Nat.le_of_ble_eq_true rfl) rfl ?_
          refine w_gT h15 ?_
          refine w_binB (v := .sc (.bool (a.fWRetain == b.fWRetain))) (fun k => rfl) ?_
          refine w_pTb h15 (mAT q15 h15) ?_
          exact rfl
        · refine w_gF h15 ?_
          refine w_gF h15 ?_
          refine w_gF h15 ?_
          refine w_gF h15 ?_
          refine w_gF h15 ?_
          refine w_pFb h15 (mAF q15 h15) ?_
          exact rfl
      intro b15 q15
      apply w_merge (b15 && (a.fHasUser == b.fHasUser))
      · intro b16 q16
        refine w_split (b15) (fun h16 => ?_) (fun h16 => ?_)
        · refine w_gT h16 ?_
          refine w_fadr ?_
          refine w_gT h16 ?_
          refine w_ld (c := .sc (.bool a.fHasUser)) B1 (Nat.le_of_ble_eq_true rfl) rfl ?_
          refine w_gT h16 ?_
          refine w_fadr ?_
          refine w_gT h16 ?_
          refine w_ld (c := .sc (.bool b.fHasUser)) B2 (Nat.le_of_ble_eq_true rfl) rfl ?_
          refine w_gT h16 ?_
          refine w_binB (v := .sc (.bool (a.fHasUser == b.fHasUser))) (fun k => rfl) ?_
          refine w_pTb h16 (mAT q16 h16) ?_
          exact rfl
        · refine w_gF h16 ?_
          refine w_gF h16 ?_
          refine w_gF h16 ?_
          refine w_gF h16 ?_
          refine w_gF h16 ?_
          refine w_pFb h16 (mAF q16 h16) ?_
          exact rfl
      intro b16 q16
      apply w_merge (b16 && (a.fUser.toList == b.fUser.toList))
      · intro b17 q17
        refine w_split (b16) (fun h17 => ?_) (fun h17 => ?_)
        · refine w_gT h17 ?_
          refine w_fadr ?_
          refine w_gT h17 ?_
          refine w_ld (c := .sc (.string a.fUser)) B1 (Nat.le_of_ble_eq_true rfl) rfl ?_
          refine w_gT h17 ?_
          refine w_fadr ?_
          refine w_gT h17 ?_
          refine w_ld (c := .sc (.string b.fUser)) B2 (Nat.le_of_ble_eq_true rfl) rfl ?_
          refine w_gT h17 ?_
          refine w_bin (v := .sc (.bool (a.fUser.toList == b.fUser.toList))) (fun k => rfl) ?_
          refine w_pTb h17 (mAT q17 h17) ?_
          exact rfl
        · refine w_gF h17 ?_
          refine w_gF h17 ?_
          refine w_gF h17 ?_
          refine w_gF h17 ?_
          refine w_gF h17 ?_
          refine w_pFb h17 (mAF q17 h17) ?_
          exact rfl
      intro b17 q17
      apply w_merge (b17 && (a.fHasPass == b.fHasPass))
      · intro b18 q18
        refine w_split (b17) (fun h18 => ?_) (fun h18 => ?_)
        · refine w_gT h18 ?_
          refine w_fadr ?_
          refine w_gT h18 ?_
          refine w_ld (c := .sc (.bool a.fHasPass)) B1 (Nat.le_of_ble_eq_true rfl) rfl ?_
          refine w_gT h18 ?_
          refine w_fadr ?_
          refine w_gT h18 ?_
          refine w_ld (c := .sc (.bool b.fHasPass)) B2 (Nat.le_of_ble_eq_true rfl) rfl ?_
          refine w_gT h18 ?_
          refine w_binB (v := .sc (.bool (a.fHasPass == b.fHasPass))) (fun k => rfl) ?_
          refine w_pTb h18 (mAT q18 h18) ?_
          exact rfl
        · refine w_gF h18 ?_
          refine w_gF h18 ?_
          refine w_gF h18 ?_
          refine w_gF h18 ?_
          refine w_gF h18 ?_
          refine w_pFb h18 (mAF q18 h18) ?_
          exact rfl
      intro b18 q18
      apply w_merge (b18 && (a.fPass.toList == b.fPass.toList))
      · intro b19 q19
        refine w_split (b18) (fun h19 => ?_) (fun h19 => ?_)
        · refine w_gT h19 ?_
          refine w_fadr ?_
          refine w_gT h19 ?_
          refine w_ld (c := bytesC a.fPass) B1 (Nat.le_of_ble_eq_true rfl) rfl ?_
          refine w_gT h19 ?_
          refine w_fadr ?_
          refine w_gT h19 ?_
          refine w_ld (c := bytesC b.fPass) B2 (Nat.le_of_ble_eq_true rfl) rfl ?_
          refine w_gT h19 ?_
          refine lw_sc rfl (vcons (Vw_ro _ _ _) (vcons (Vw_ro _ _ _) vnil)) (l1SameF (n + 0) _ a.fPass b.fPass) ?_
          refine w_pTb h19 (mAT q19 h19) ?_
          exact rfl
        · refine w_gF h19 ?_
          refine w_gF h19 ?_
          refine w_gF h19 ?_
          refine w_gF h19 ?_
          refine w_gF h19 ?_
          refine w_pFb h19 (mAF q19 h19) ?_
          exact rfl
      intro b19 q19
      apply w_merge (b19 && (a.fCode == b.fCode))
      · intro b20 q20
        refine w_split (b19) (fun h20 => ?_) (fun h20 => ?_)
        · refine w_gT h20 ?_
          refine w_fadr ?_
          refine w_gT h20 ?_
          refine w_ld (c := .sc (.int .i64 a.fCode)) B1 (Nat.le_of_ble_eq_true rfl) rfl ?_
          refine w_gT h20 ?_
          refine w_fadr ?_
          refine w_gT h20 ?_
          refine w_ld (c := .sc (.int .i64 b.fCode)) B2 (Nat.le_of_ble_eq_true rfl) rfl ?_
          refine w_gT h20 ?_
          refine w_bin (v := .sc (.bool (a.fCode == b.fCode))) (fun k => rfl) ?_
          refine w_pTb h20 (mAT q20 h20) ?_
          exact rfl
        · refine w_gF h20 ?_
          refine w_gF h20 ?_
          refine w_gF h20 ?_
          refine w_gF h20 ?_
          refine w_gF h20 ?_
          refine w_pFb h20 (mAF q20 h20) ?_
          exact rfl
      intro b20 q20
      apply w_merge (b20 && (a.fPresent == b.fPresent))
      · intro b21 q21
        refine w_split (b20) (fun h21 => ?_) (fun h21 => ?_)
        · refine w_gT h21 ?_
          refine w_fadr ?_
          refine w_gT h21 ?_
          refine w_ld (c := .sc (.bool a.fPresent)) B1 (Nat.le_of_ble_eq_true rfl) rfl ?_
          refine w_gT h21 ?_
          refine w_fadr ?_
          refine w_gT h21 ?_
          refine w_ld (c := .sc (.bool b.fPresent)) B2 (Nat.le_of_ble_eq_true rfl) rfl ?_
          refine w_gT h21 ?_
          refine w_binB (v := .sc (.bool (a.fPresent == b.fPresent))) (fun k => rfl) ?_
          refine w_pTb h21 (mAT q21 h21) ?_
          exact rfl
        · refine w_gF h21 ?_
          refine w_gF h21 ?_
          refine w_gF h21 ?_
          refine w_gF h21 ?_
          refine w_gF h21 ?_
          refine w_pFb h21 (mAF q21 h21) ?_
          exact rfl
      intro b21 q21
      subst_vars; rfl
  have key := eqv_loop (β := AV) encI (fun _ => rfl) (by decide) (fun z => .sc (.int .i64 z)) (fun p k => pLoad false 1 p H k) (fun x r k => ldI x r H k) (fun x y k => pBin .neq x y k) eqI (fun x y k => neI x y k) a.fCodes b.fCodes hq2 hl2 (fun m i => f78_l2 (PR (n + 1) AV) (n + 1) (fun x H => ownTree ti0 E0.tp ty H x) m (.ptr i1 0) (.ptr i2 0) i H) (some (.sc (.bool false))) (some (.sc (.bool (vPkChain a b)))) hL a.fCodes b.fCodes [] [] (n + 1) rfl rfl rfl (by omega)
  simp only [List.length_nil, Int.natCast_zero] at key
  refine key.trans ?_
  cases all2 eqI a.fCodes b.fCodes <;> rfl
theorem pkLoop1 (n : Nat) (hn : 1048576 < n) (ty : Nat) (a b : PacketV) (H : Heap) (i1 i2 : Nat) (B1 : H[i1]? = some ⟨encPacket a, true, true⟩) (B2 : H[i2]? = some ⟨encPacket b, true, true⟩) (hl1 : a.fNames.length ≤ 1048576) (hq1 : a.fNames.length = b.fNames.length) (hl2 : a.fCodes.length ≤ 1048576) (hq2 : a.fCodes.length = b.fCodes.length) : f78_l1 (PR (n + 1) AV) (n + 1) (fun x H => ownTree ti0 E0.tp ty H x) (n + 1) (.ptr i1 0) (.ptr i2 0) (.sc (.int .i64 0)) H = some (.sc (.bool (if all2 eqSt a.fNames b.fNames then (if all2 eqI a.fCodes b.fCodes then (vPkChain a b) else false) else false))) := by
  have hL : ∀ m i, f78_l1 (PR (n + 1) AV) (n + 1) (fun x H => ownTree ti0 E0.tp ty H x) (m + 1) (.ptr i1 0) (.ptr i2 0) i H = pBin .lss i (.sc (.int .i64 a.fNames.length)) fun t14 => pCond t14 (pIadr 1 (rowsC encS a.fNames) i fun t19 => pLoad false 1 t19 H fun t20 => pIadr 1 (rowsC encS b.fNames) i fun t23 => pLoad false 1 t23 H fun t24 => (fun x y k => pBin .neq x y k) t20 t24 fun t25 => pCond t25 (some (.sc (.bool false))) (pBin .add i (.sc (.int .i64 1)) fun t16 => f78_l1 (PR (n + 1) AV) (n + 1) (fun x H => ownTree ti0 E0.tp ty H x) m (.ptr i1 0) (.ptr i2 0) t16 H)) (some (.sc (.bool (if all2 eqI a.fCodes b.fCodes then (vPkChain a b) else false)))) := by
    intro m i
    show (PR (n + 1) AV).fadr 23 (.ptr i1 0) _ = _
    simp only [PR_fadr, PR_load, PR_bin, PR_binB, PR_binA, PR_cond, PR_guard, PR_pick, PR_len, PR_iadr]
    refine w_fadr ?_
    refine w_ld (c := strsC a.fNames) B1 (Nat.le_of_ble_eq_true rfl) rfl ?_
    refine w_len ?_
    congr 1
    funext t
    congr 1
    · refine w_fadr ?_
      refine w_ld (c := strsC a.fNames) B1 (Nat.le_of_ble_eq_true rfl) rfl ?_
      rw [strs_rows]
      congr 1
      funext t2
      congr 1
      funext t3
      refine w_fadr ?_
      refine w_ld (c := strsC b.fNames) B2 (Nat.le_of_ble_eq_true rfl) rfl ?_
      rw [strs_rows]
      rfl
    · skip
      exact pkLoop2 n hn ty a b H i1 i2 B1 B2 hl2 hq2 
  have key := eqv_loop (β := AV) encS (fun _ => rfl) (by decide) (fun z => .sc (.string z)) (fun p k => pLoad false 1 p H k) (fun x r k => ldS x r H k) (fun x y k => pBin .neq x y k) eqSt (fun x y k => neS x y k) a.fNames b.fNames hq1 hl1 (fun m i => f78_l1 (PR (n + 1) AV) (n + 1) (fun x H => ownTree ti0 E0.tp ty H x) m (.ptr i1 0) (.ptr i2 0) i H) (some (.sc (.bool false))) (some (.sc (.bool (if all2 eqI a.fCodes b.fCodes then (vPkChain a b) else false)))) hL a.fNames b.fNames [] [] (n + 1) rfl rfl rfl (by omega)
  simp only [List.length_nil, Int.natCast_zero] at key
  refine key.trans ?_
  cases all2 eqSt a.fNames b.fNames <;> rfl
theorem pkLoop0 (n : Nat) (hn : 1048576 < n) (ty : Nat) (a b : PacketV) (H : Heap) (i1 i2 : Nat) (B1 : H[i1]? = some ⟨encPacket a, true, true⟩) (B2 : H[i2]? = some ⟨encPacket b, true, true⟩) (hl0 : a.fWants.length ≤ 1048576) (hq0 : a.fWants.length = b.fWants.length) (hl1 : a.fNames.length ≤ 1048576) (hq1 : a.fNames.length = b.fNames.length) (hl2 : a.fCodes.length ≤ 1048576) (hq2 : a.fCodes.length = b.fCodes.length) : f78_l0 (PR (n + 1) AV) (n + 1) (fun x H => ownTree ti0 E0.tp ty H x) (n + 1) (.ptr i1 0) (.ptr i2 0) (.sc (.int .i64 0)) H = some (.sc (.bool (if all2 eqWant a.fWants b.fWants then (if all2 eqSt a.fNames b.fNames then (if all2 eqI a.fCodes b.fCodes then (vPkChain a b) else false) else false) else false))) := by
  have hL : ∀ m i, f78_l0 (PR (n + 1) AV) (n + 1) (fun x H => ownTree ti0 E0.tp ty H x) (m + 1) (.ptr i1 0) (.ptr i2 0) i H = pBin .lss i (.sc (.int .i64 a.fWants.length)) fun t14 => pCond t14 (pIadr 2 (rowsC encWant a.fWants) i fun t19 => pLoad true 2 t19 H fun t20 => pIadr 2 (rowsC encWant b.fWants) i fun t23 => pLoad true 2 t23 H fun t24 => (fun x y k => pBinA .neq [1, 0] x y k) t20 t24 fun t25 => pCond t25 (some (.sc (.bool false))) (pBin .add i (.sc (.int .i64 1)) fun t16 => f78_l0 (PR (n + 1) AV) (n + 1) (fun x H => ownTree ti0 E0.tp ty H x) m (.ptr i1 0) (.ptr i2 0) t16 H)) (some (.sc (.bool (if all2 eqSt a.fNames b.fNames then (if all2 eqI a.fCodes b.fCodes then (vPkChain a b) else false) else false)))) := by
    intro m i
    show (PR (n + 1) AV).fadr 22 (.ptr i1 0) _ = _
    simp only [PR_fadr, PR_load, PR_bin, PR_binB, PR_binA, PR_cond, PR_guard, PR_pick, PR_len, PR_iadr]
    refine w_fadr ?_
    refine w_ld (c := rowsC encWant a.fWants) B1 (Nat.le_of_ble_eq_true rfl) rfl ?_
    refine w_len ?_
    congr 1
    funext t
    congr 1
    · refine w_fadr ?_
      refine w_ld (c := rowsC encWant a.fWants) B1 (Nat.le_of_ble_eq_true rfl) rfl ?_
      congr 1
      funext t2
      congr 1
      funext t3
      refine w_fadr ?_
      refine w_ld (c := rowsC encWant b.fWants) B2 (Nat.le_of_ble_eq_true rfl) rfl ?_
      rfl
    · skip
      exact pkLoop1 n hn ty a b H i1 i2 B1 B2 hl1 hq1 hl2 hq2 
  have key := eqv_loop (β := AV) encWant (lenWant) (by decide) (fun x => .agg (encWant x)) (fun p k => pLoad true 2 p H k) (fun x r k => ld_rp 2 _ _ H k (lenWant x)) (fun x y k => pBinA .neq [1, 0] x y k) eqWant (fun x y k => binA_ne _ _ _ _ (cellsWant x y) k) a.fWants b.fWants hq0 hl0 (fun m i => f78_l0 (PR (n + 1) AV) (n + 1) (fun x H => ownTree ti0 E0.tp ty H x) m (.ptr i1 0) (.ptr i2 0) i H) (some (.sc (.bool false))) (some (.sc (.bool (if all2 eqSt a.fNames b.fNames then (if all2 eqI a.fCodes b.fCodes then (vPkChain a b) else false) else false)))) hL a.fWants b.fWants [] [] (n + 1) rfl rfl rfl (by omega)
  simp only [List.length_nil, Int.natCast_zero] at key
  refine key.trans ?_
  cases all2 eqWant a.fWants b.fWants <;> rfl
theorem specSamePacketF (n : Nat) (hn : 1048576 < n) (ty : Nat) (a : PacketV) (b : PacketV) (hl0 : a.fWants.length ≤ 1048576) (hl1 : a.fNames.length ≤ 1048576) (hl2 : a.fCodes.length ≤ 1048576) : tree E0 (n + 2) ty 78 [.agg (encPacket a), .agg (encPacket b)] = some (.sc (.bool (vSamePacket a b))) := by
  rw [tree_def, f78_eq, f78]
  simp only [PR_box, PR_new, PR_fadr, PR_load, PR_store, PR_bin, PR_binB, PR_binA, PR_un, PR_cond, PR_guard, PR_pick, PR_len, PR_lenS, PR_iadr, PR_idx, PR_slice, PR_sliceS, PR_newSl, PR_fill, PR_make, PR_app, PR_cvI, PR_cvBS]
  refine w_box (flPacket _) fun iB1 eB1 B1 => ?_
  refine w_box (flPacket _) fun iB2 eB2 B2 => ?_
  replace B1 := blk_grow B1 [⟨encPacket b, true, true⟩]
  refine w_fadr ?_
  refine w_ld (c := rowsC encWant a.fWants) B1 (Nat.le_of_ble_eq_true rfl) rfl ?_
  refine w_len ?_
  refine w_fadr ?_
  refine w_ld (c := rowsC encWant b.fWants) B2 (Nat.le_of_ble_eq_true rfl) rfl ?_
  refine w_len ?_
  refine w_bin (v := .sc (.bool ((a.fWants.length : Int) != (b.fWants.length : Int)))) (fun k => rfl) ?_
  apply w_merge (((a.fWants.length : Int) != (b.fWants.length : Int)) || ((a.fNames.length : Int) != (b.fNames.length : Int)))
  · intro b3 q3
    refine w_split (((a.fWants.length : Int) != (b.fWants.length : Int))) (fun h3 => ?_) (fun h3 => ?_)
    · refine w_hF h3 ?_
      refine w_hF h3 ?_
      refine w_hF h3 ?_
      refine w_hF h3 ?_
      refine w_hF h3 ?_
      refine w_hF h3 ?_
      refine w_hF h3 ?_
      refine w_pTb h3 (mOT q3 h3) ?_
      exact rfl
    · refine w_hT h3 ?_
      refine w_fadr ?_
      refine w_hT h3 ?_
      refine w_ld (c := strsC a.fNames) B1 (Nat.le_of_ble_eq_true rfl) rfl ?_
      refine w_hT h3 ?_
      refine w_len ?_
      refine w_hT h3 ?_
      refine w_fadr ?_
      refine w_hT h3 ?_
      refine w_ld (c := strsC b.fNames) B2 (Nat.le_of_ble_eq_true rfl) rfl ?_
      refine w_hT h3 ?_
      refine w_len ?_
      refine w_hT h3 ?_
      refine w_bin (v := .sc (.bool ((a.fNames.length : Int) != (b.fNames.length : Int)))) (fun k => rfl) ?_
      refine w_pFb h3 (mOF q3 h3) ?_
      exact rfl
  intro b3 q3
  apply w_merge (b3 || ((a.fCodes.length : Int) != (b.fCodes.length : Int)))
  · intro b4 q4
    refine w_split (b3) (fun h4 => ?_) (fun h4 => ?_)
    · refine w_hF h4 ?_
      refine w_hF h4 ?_
      refine w_hF h4 ?_
      refine w_hF h4 ?_
      refine w_hF h4 ?_
      refine w_hF h4 ?_
      refine w_hF h4 ?_
      refine w_pTb h4 (mOT q4 h4) ?_
      exact rfl
    · refine w_hT h4 ?_
      refine w_fadr ?_
      refine w_hT h4 ?_
      refine w_ld (c := intsC a.fCodes) B1 (Nat.le_of_ble_eq_true rfl) rfl ?_
      refine w_hT h4 ?_
      refine w_len ?_
      refine w_hT h4 ?_
      refine w_fadr ?_
      refine w_hT h4 ?_
      refine w_ld (c := intsC b.fCodes) B2 (Nat.le_of_ble_eq_true rfl) rfl ?_
      refine w_hT h4 ?_
      refine w_len ?_
      refine w_hT h4 ?_
      refine w_bin (v := .sc (.bool ((a.fCodes.length : Int) != (b.fCodes.length : Int)))) (fun k => rfl) ?_
      refine w_pFb h4 (mOF q4 h4) ?_
      exact rfl
  intro b4 q4
  refine w_split (b4) (fun h5 => ?_) (fun h5 => ?_)
  · refine w_cT h5 ?_
    exact w_endB (by subst_vars; simp only [vSamePacket, vPkLists, eqList]; by_cases e0 : a.fWants.length = b.fWants.length <;> by_cases e1 : a.fNames.length = b.fNames.length <;> by_cases e2 : a.fCodes.length = b.fCodes.length <;> simp_all)
  · refine w_cF h5 ?_
    have l0 : a.fWants.length = b.fWants.length := by (subst_vars; simp at *; omega)
    have l1 : a.fNames.length = b.fNames.length := by (subst_vars; simp at *; omega)
    have l2 : a.fCodes.length = b.fCodes.length := by (subst_vars; simp at *; omega)
    refine (pkLoop0 n hn ty a b _ _ _ B1 B2 hl0 l0 hl1 l1 hl2 l2).trans ?_
    simp only [vSamePacket, vPkLists, eqList, l0, l1, l2, if_true]
    cases all2 eqWant a.fWants b.fWants <;> cases all2 eqSt a.fNames b.fNames <;> cases all2 eqI a.fCodes b.fCodes <;> simp
theorem implSamePacketF (n : Nat) (hn : 1048576 < n) (ty : Nat) (a : PacketV) (b : PacketV) (hl0 : a.fWants.length ≤ 1048576) (hl1 : a.fNames.length ≤ 1048576) (hl2 : a.fCodes.length ≤ 1048576) : tree E0 (n + 2) ty 82 [.agg (encPacket a), .agg (encPacket b)] = some (.sc (.bool (vSamePacket a b))) := by
  rw [tree_def, f82_eq, f82]
  simp only [PR_box, PR_new, PR_fadr, PR_load, PR_store, PR_bin, PR_binB, PR_binA, PR_un, PR_cond, PR_guard, PR_pick, PR_len, PR_lenS, PR_iadr, PR_idx, PR_slice, PR_sliceS, PR_newSl, PR_fill, PR_make, PR_app, PR_cvI, PR_cvBS]
  refine w_box (flPacket _) fun iB1 eB1 B1 => ?_
  refine w_box (flPacket _) fun iB2 eB2 B2 => ?_
  replace B1 := blk_grow B1 [⟨encPacket b, true, true⟩]
  refine w_fadr ?_
  refine w_ld (c := .sc (.int .i64 a.fType)) B1 (Nat.le_of_ble_eq_true rfl) rfl ?_
  refine w_fadr ?_
  refine w_ld (c := .sc (.int .i64 b.fType)) B2 (Nat.le_of_ble_eq_true rfl) rfl ?_
  refine w_bin (v := .sc (.bool (a.fType == b.fType))) (fun k => rfl) ?_
  apply w_merge ((a.fType == b.fType) && (a.fDup == b.fDup))
  · intro b3 q3
    refine w_split ((a.fType == b.fType)) (fun h3 => ?_) (fun h3 => ?_)
    · refine w_gT h3 ?_
      refine w_fadr ?_
      refine w_gT h3 ?_
      refine w_ld (c := .sc (.bool a.fDup)) B1 (Nat.le_of_ble_eq_true rfl) rfl ?_
      refine w_gT h3 ?_
      refine w_fadr ?_
      refine w_gT h3 ?_
      refine w_ld (c := .sc (.bool b.fDup)) B2 (Nat.le_of_ble_eq_true rfl) rfl ?_
      refine w_gT h3 ?_
      refine w_binB (v := .sc (.bool (a.fDup == b.fDup))) (fun k => rfl) ?_
      refine w_pTb h3 (mAT q3 h3) ?_
      exact rfl
    · refine w_gF h3 ?_
      refine w_gF h3 ?_
      refine w_gF h3 ?_
      refine w_gF h3 ?_
      refine w_gF h3 ?_
      refine w_pFb h3 (mAF q3 h3) ?_
      exact rfl
  intro b3 q3
  apply w_merge (b3 && (a.fQos == b.fQos))
  · intro b4 q4
    refine w_split (b3) (fun h4 => ?_) (fun h4 => ?_)
    · refine w_gT h4 ?_
      refine w_fadr ?_
      refine w_gT h4 ?_
      refine w_ld (c := .sc (.int .i64 a.fQos)) B1 (Nat.le_of_ble_eq_true rfl) rfl ?_
      refine w_gT h4 ?_
      refine w_fadr ?_
      refine w_gT h4 ?_
      refine w_ld (c := .sc (.int .i64 b.fQos)) B2 (Nat.le_of_ble_eq_true rfl) rfl ?_
      refine w_gT h4 ?_
      refine w_bin (v := .sc (.bool (a.fQos == b.fQos))) (fun k => rfl) ?_
      refine w_pTb h4 (mAT q4 h4) ?_
      exact rfl
    · refine w_gF h4 ?_
      refine w_gF h4 ?_
      refine w_gF h4 ?_
      refine w_gF h4 ?_
      refine w_gF h4 ?_
      refine w_pFb h4 (mAF q4 h4) ?_
      exact rfl
  intro b4 q4
  apply w_merge (b4 && (a.fRetain == b.fRetain))
  · intro b5 q5
    refine w_split (b4) (fun h5 => ?_) (fun h5 => ?_)
    · refine w_gT h5 ?_
      refine w_fadr ?_
      refine w_gT h5 ?_
      refine w_ld (c := .sc (.bool a.fRetain)) B1 (Nat.le_of_ble_eq_true rfl) rfl ?_
      refine w_gT h5 ?_
      refine w_fadr ?_
      refine w_gT h5 ?_
      refine w_ld (c := .sc (.bool b.fRetain)) B2 (Nat.le_of_ble_eq_true rfl) rfl ?_
      refine w_gT h5 ?_
      refine w_binB (v := .sc (.bool (a.fRetain == b.fRetain))) (fun k => rfl) ?_
      refine w_pTb h5 (mAT q5 h5) ?_
      exact rfl
    · refine w_gF h5 ?_
      refine w_gF h5 ?_
      refine w_gF h5 ?_
      refine w_gF h5 ?_
      refine w_gF h5 ?_
      refine w_pFb h5 (mAF q5 h5) ?_
      exact rfl
  intro b5 q5
  apply w_merge (b5 && (a.fId == b.fId))
  · intro b6 q6
    refine w_split (b5) (fun h6 => ?_) (fun h6 => ?_)
    · refine w_gT h6 ?_
      refine w_fadr ?_
      refine w_gT h6 ?_
      refine w_ld (c := .sc (.int .i64 a.fId)) B1 (Nat.le_of_ble_eq_true rfl) rfl ?_
      refine w_gT h6 ?_
      refine w_fadr ?_
      refine w_gT h6 ?_
      refine w_ld (c := .sc (.int .i64 b.fId)) B2 (Nat.le_of_ble_eq_true rfl) rfl ?_
      refine w_gT h6 ?_
      refine w_bin (v := .sc (.bool (a.fId == b.fId))) (fun k => rfl) ?_
      refine w_pTb h6 (mAT q6 h6) ?_
      exact rfl
    · refine w_gF h6 ?_
      refine w_gF h6 ?_
      refine w_gF h6 ?_
      refine w_gF h6 ?_
      refine w_gF h6 ?_
      refine w_pFb h6 (mAF q6 h6) ?_
      exact rfl
  intro b6 q6
  apply w_merge (b6 && (a.fTopic.toList == b.fTopic.toList))
  · intro b7 q7
    refine w_split (b6) (fun h7 => ?_) (fun h7 => ?_)
    · refine w_gT h7 ?_
      refine w_fadr ?_
      refine w_gT h7 ?_
      refine w_ld (c := .sc (.string a.fTopic)) B1 (Nat.le_of_ble_eq_true rfl) rfl ?_
      refine w_gT h7 ?_
      refine w_fadr ?_
      refine w_gT h7 ?_
      refine w_ld (c := .sc (.string b.fTopic)) B2 (Nat.le_of_ble_eq_true rfl) rfl ?_
      refine w_gT h7 ?_
      refine w_bin (v := .sc (.bool (a.fTopic.toList == b.fTopic.toList))) (fun k => rfl) ?_
      refine w_pTb h7 (mAT q7 h7) ?_
      exact rfl
    · refine w_gF h7 ?_
      refine w_gF h7 ?_
      refine w_gF h7 ?_
      refine w_gF h7 ?_
      refine w_gF h7 ?_
      refine w_pFb h7 (mAF q7 h7) ?_
      exact rfl
  intro b7 q7
  apply w_merge (b7 && (a.fBody.toList == b.fBody.toList))
  · intro b8 q8
    refine w_split (b7) (fun h8 => ?_) (fun h8 => ?_)
    · refine w_gT h8 ?_
      refine w_fadr ?_
      refine w_gT h8 ?_
      refine w_ld (c := bytesC a.fBody) B1 (Nat.le_of_ble_eq_true rfl) rfl ?_
      refine w_gT h8 ?_
      refine w_fadr ?_
      refine w_gT h8 ?_
      refine w_ld (c := bytesC b.fBody) B2 (Nat.le_of_ble_eq_true rfl) rfl ?_
      refine w_gT h8 ?_
      refine lw_sc rfl (vcons (Vw_ro _ _ _) (vcons (Vw_ro _ _ _) vnil)) (bytesEqualF (n + 0) _ a.fBody b.fBody) ?_
      refine w_pTb h8 (mAT q8 h8) ?_
      exact rfl
    · refine w_gF h8 ?_
      refine w_gF h8 ?_
      refine w_gF h8 ?_
      refine w_gF h8 ?_
      refine w_gF h8 ?_
      refine w_pFb h8 (mAF q8 h8) ?_
      exact rfl
  intro b8 q8
  refine w_fadr ?_
  refine w_ld (c := .sc (.string a.fClient)) B1 (Nat.le_of_ble_eq_true rfl) rfl ?_
  refine w_fadr ?_
  refine w_ld (c := .sc (.string b.fClient)) B2 (Nat.le_of_ble_eq_true rfl) rfl ?_
  refine w_bin (v := .sc (.bool (a.fClient.toList == b.fClient.toList))) (fun k => rfl) ?_
  apply w_merge ((a.fClient.toList == b.fClient.toList) && (a.fLevel == b.fLevel))
  · intro b9 q9
    refine w_split ((a.fClient.toList == b.fClient.toList)) (fun h9 => ?_) (fun h9 => ?_)
    · refine w_gT h9 ?_
      refine w_fadr ?_
      refine w_gT h9 ?_
      refine w_ld (c := .sc (.int .i64 a.fLevel)) B1 (Nat.le_of_ble_eq_true rfl) rfl ?_
      refine w_gT h9 ?_
      refine w_fadr ?_
      refine w_gT h9 ?_
      refine w_ld (c := .sc (.int .i64 b.fLevel)) B2 (Nat.le_of_ble_eq_true rfl) rfl ?_
      refine w_gT h9 ?_
      refine w_bin (v := .sc (.bool (a.fLevel == b.fLevel))) (fun k => rfl) ?_
      refine w_pTb h9 (mAT q9 h9) ?_
      exact rfl
    · refine w_gF h9 ?_
      refine w_gF h9 ?_
      refine w_gF h9 ?_
      refine w_gF h9 ?_
      refine w_gF h9 ?_
      refine w_pFb h9 (mAF q9 h9) ?_
      exact rfl
  intro b9 q9
  apply w_merge (b9 && (a.fClean == b.fClean))
  · intro b10 q10
    refine w_split (b9) (fun h10 => ?_) (fun h10 => ?_)
    · refine w_gT h10 ?_
      refine w_fadr ?_
      refine w_gT h10 ?_
      refine w_ld (c := .sc (.bool a.fClean)) B1 (Nat.le_of_ble_eq_true rfl) rfl ?_
      refine w_gT h10 ?_
      refine w_fadr ?_
      refine w_gT h10 ?_
      refine w_ld (c := .sc (.bool b.fClean)) B2 (Nat.le_of_ble_eq_true rfl) rfl ?_
      refine w_gT h10 ?_
      refine w_binB (v := .sc (.bool (a.fClean == b.fClean))) (fun k => rfl) ?_
      refine w_pTb h10 (mAT q10 h10) ?_
      exact rfl
    · refine w_gF h10 ?_
      refine w_gF h10 ?_
      refine w_gF h10 ?_
      refine w_gF h10 ?_
      refine w_gF h10 ?_
      refine w_pFb h10 (mAF q10 h10) ?_
      exact rfl
  intro b10 q10
  apply w_merge (b10 && (a.fKeep == b.fKeep))
  · intro b11 q11
    refine w_split (b10) (fun h11 => ?_) (fun h11 => ?_)
    · refine w_gT h11 ?_
      refine w_fadr ?_
      refine w_gT h11 ?_
      refine w_ld (c := .sc (.int .i64 a.fKeep)) B1 (Nat.le_of_ble_eq_true rfl) rfl ?_
      refine w_gT h11 ?_
      refine w_fadr ?_
      refine w_gT h11 ?_
      refine w_ld (c := .sc (.int .i64 b.fKeep)) B2 (Nat.le_of_ble_eq_true rfl) rfl ?_
      refine w_gT h11 ?_
      refine w_bin (v := .sc (.bool (a.fKeep == b.fKeep))) (fun k => rfl) ?_
      refine w_pTb h11 (mAT q11 h11) ?_
      exact rfl
    · refine w_gF h11 ?_
      refine w_gF h11 ?_
      refine w_gF h11 ?_
      refine w_gF h11 ?_
      refine w_gF h11 ?_
      refine w_pFb h11 (mAF q11 h11) ?_
      exact rfl
  intro b11 q11
  apply w_merge (b11 && (a.fHasUser == b.fHasUser))
  · intro b12 q12
    refine w_split (b11) (fun h12 => ?_) (fun h12 => ?_)
    · refine w_gT h12 ?_
      refine w_fadr ?_
      refine w_gT h12 ?_
      refine w_ld (c := .sc (.bool a.fHasUser)) B1 (Nat.le_of_ble_eq_true rfl) rfl ?_
      refine w_gT h12 ?_
      refine w_fadr ?_
      refine w_gT h12 ?_
      refine w_ld (c := .sc (.bool b.fHasUser)) B2 (Nat.le_of_ble_eq_true rfl) rfl ?_
      refine w_gT h12 ?_
      refine w_binB (v := .sc (.bool (a.fHasUser == b.fHasUser))) (fun k => rfl) ?_
      refine w_pTb h12 (mAT q12 h12) ?_
      exact rfl
    · refine w_gF h12 ?_
      refine w_gF h12 ?_
      refine w_gF h12 ?_
      refine w_gF h12 ?_
      refine w_gF h12 ?_
      refine w_pFb h12 (mAF q12 h12) ?_
      exact rfl
  intro b12 q12
  apply w_merge (b12 && (a.fUser.toList == b.fUser.toList))
  · intro b13 q13
    refine w_split (b12) (fun h13 => ?_) (fun h13 => ?_)
    · refine w_gT h13 ?_
      refine w_fadr ?_
      refine w_gT h13 ?_
      refine w_ld (c := .sc (.string a.fUser)) B1 (Nat.le_of_ble_eq_true rfl) rfl ?_
      refine w_gT h13 ?_
      refine w_fadr ?_
      refine w_gT h13 ?_
      refine w_ld (c := .sc (.string b.fUser)) B2 (Nat.le_of_ble_eq_true rfl) rfl ?_
      refine w_gT h13 ?_
      refine w_bin (v := .sc (.bool (a.fUser.toList == b.fUser.toList))) (fun k => rfl) ?_
      refine w_pTb h13 (mAT q13 h13) ?_
      exact rfl
    · refine w_gF h13 ?_
      refine w_gF h13 ?_
      refine w_gF h13 ?_
      refine w_gF h13 ?_
      refine w_gF h13 ?_
      refine w_pFb h13 (mAF q13 h13) ?_
      exact rfl
  intro b13 q13
  apply w_merge (b13 && (a.fHasPass == b.fHasPass))
  · intro b14 q14
    refine w_split (b13) (fun h14 => ?_) (fun h14 => ?_)
    · refine w_gT h14 ?_
      refine w_fadr ?_
      refine w_gT h14 ?_
      refine w_ld (c := .sc (.bool a.fHasPass)) B1 (Nat.le_of_ble_eq_true rfl) rfl ?_
      refine w_gT h14 ?_
      refine w_fadr ?_
      refine w_gT h14 ?_
      refine w_ld (c := .sc (.bool b.fHasPass)) B2 (Nat.le_of_ble_eq_true rfl) rfl ?_
      refine w_gT h14 ?_
      refine w_binB (v := .sc (.bool (a.fHasPass == b.fHasPass))) (fun k => rfl) ?_
      refine w_pTb h14 (mAT q14 h14) ?_
      exact rfl
    · refine w_gF h14 ?_
      refine w_gF h14 ?_
      refine w_gF h14 ?_
      refine w_gF h14 ?_
      refine w_gF h14 ?_
      refine w_pFb h14 (mAF q14 h14) ?_
      exact rfl
  intro b14 q14
  apply w_merge (b14 && (a.fPass.toList == b.fPass.toList))
  · intro b15 q15
    refine w_split (b14) (fun h15 => ?_) (fun h15 => ?_)
    · refine w_gT h15 ?_
      refine w_fadr ?_
      refine w_gT h15 ?_
      refine w_ld (c := bytesC a.fPass) B1 (Nat.le_of_ble_eq_true rfl) rfl ?_
      refine w_gT h15 ?_
      refine w_fadr ?_
      refine w_gT h15 ?_
      refine w_ld (c := bytesC b.fPass) B2 (Nat.le_of_ble_eq_true rfl) rfl ?_
      refine w_gT h15 ?_
      refine lw_sc rfl (vcons (Vw_ro _ _ _) (vcons (Vw_ro _ _ _) vnil)) (bytesEqualF (n + 0) _ a.fPass b.fPass) ?_
      refine w_pTb h15 (mAT q15 h15) ?_
      exact rfl
    · refine w_gF h15 ?_
      refine w_gF h15 ?_
      refine w_gF h15 ?_
      refine w_gF h15 ?_
      refine w_gF h15 ?_
      refine w_pFb h15 (mAF q15 h15) ?_
      exact rfl
  intro b15 q15
  refine w_fadr ?_
  refine w_ld (c := .sc (.bool a.fHasWill)) B1 (Nat.le_of_ble_eq_true rfl) rfl ?_
  refine w_fadr ?_
  refine w_ld (c := .sc (.bool b.fHasWill)) B2 (Nat.le_of_ble_eq_true rfl) rfl ?_
  refine w_binB (v := .sc (.bool (a.fHasWill == b.fHasWill))) (fun k => rfl) ?_
  apply w_merge ((a.fHasWill == b.fHasWill) && (a.fWTopic.toList == b.fWTopic.toList))
  · intro b16 q16
    refine w_split ((a.fHasWill == b.fHasWill)) (fun h16 => ?_) (fun h16 => ?_)
    · refine w_gT h16 ?_
      refine w_fadr ?_
      refine w_gT h16 ?_
      refine w_ld (c := .sc (.string a.fWTopic)) B1 (Nat.le_of_ble_eq_true rfl) rfl ?_
      refine w_gT h16 ?_
      refine w_fadr ?_
      refine w_gT h16 ?_
      refine w_ld (c := .sc (.string b.fWTopic)) B2 (Nat.le_of_ble_eq_true rfl) rfl ?_
      refine w_gT h16 ?_
      refine w_bin (v := .sc (.bool (a.fWTopic.toList == b.fWTopic.toList))) (fun k => rfl) ?_
      refine w_pTb h16 (mAT q16 h16) ?_
      exact rfl
    · refine w_gF h16 ?_
      refine w_gF h16 ?_
      refine w_gF h16 ?_
      refine w_gF h16 ?_
      refine w_gF h16 ?_
      refine w_pFb h16 (mAF q16 h16) ?_
      exact rfl
  intro b16 q16
  apply w_merge (b16 && (a.fWBody.toList == b.fWBody.toList))
  · intro b17 q17
    refine w_split (b16) (fun h17 => ?_) (fun h17 => ?_)
    · refine w_gT h17 ?_
      refine w_fadr ?_
      refine w_gT h17 ?_
      refine w_ld (c := bytesC a.fWBody) B1 (Nat.le_of_ble_eq_true rfl) rfl ?_
      refine w_gT h17 ?_
      refine w_fadr ?_
      refine w_gT h17 ?_
      refine w_ld (c := bytesC b.fWBody) B2 (Nat.le_of_ble_eq_true rfl) rfl ?_
      refine w_gT h17 ?_
      refine lw_sc rfl (vcons (Vw_ro _ _ _) (vcons (Vw_ro _ _ _) vnil)) (bytesEqualF (n + 0) _ a.fWBody b.fWBody) ?_
      refine w_pTb h17 (mAT q17 h17) ?_
      exact rfl
    · refine w_gF h17 ?_
      refine w_gF h17 ?_
      refine w_gF h17 ?_
      refine w_gF h17 ?_
      refine w_gF h17 ?_
      refine w_pFb h17 (mAF q17 h17) ?_
      exact rfl
  intro b17 q17
  apply w_merge (b17 && (a.fWQos == b.fWQos))
  · intro b18 q18
    refine w_split (b17) (fun h18 => ?_) (fun h18 => ?_)
    · refine w_gT h18 ?_
      refine w_fadr ?_
      refine w_gT h18 ?_
      refine w_ld (c := .sc (.int .i64 a.fWQos)) B1 (Nat.le_of_ble_eq_true rfl) rfl ?_
      refine w_gT h18 ?_
      refine w_fadr ?_
      refine w_gT h18 ?_
      refine w_ld (c := .sc (.int .i64 b.fWQos)) B2 (Nat.le_of_ble_eq_true rfl) rfl ?_
      refine w_gT h18 ?_
      refine w_bin (v := .sc (.bool (a.fWQos == b.fWQos))) (fun k => rfl) ?_
      refine w_pTb h18 (mAT q18 h18) ?_
      exact rfl
    · refine w_gF h18 ?_
      refine w_gF h18 ?_
      refine w_gF h18 ?_
      refine w_gF h18 ?_
      refine w_gF h18 ?_
      refine w_pFb h18 (mAF q18 h18) ?_
      exact rfl
  intro b18 q18
  apply w_merge (b18 && (a.fWRetain == b.fWRetain))
  · intro b19 q19
    refine w_split (b18) (fun h19 => ?_) (fun h19 => ?_)
    · refine w_gT h19 ?_
      refine w_fadr ?_
      refine w_gT h19 ?_
      refine w_ld (c := .sc (.bool a.fWRetain)) B1 (Nat.le_of_ble_eq_true rfl) rfl ?_
      refine w_gT h19 ?_
      refine w_fadr ?_
      refine w_gT h19 ?_
      refine w_ld (c := .sc (.bool b.fWRetain)) B2 (Nat.le_of_ble_eq_true rfl) rfl ?_
      refine w_gT h19 ?_
      refine w_binB (v := .sc (.bool (a.fWRetain == b.fWRetain))) (fun k => rfl) ?_
      refine w_pTb h19 (mAT q19 h19) ?_
      exact rfl
    · refine w_gF h19 ?_
      refine w_gF h19 ?_
      refine w_gF h19 ?_
      refine w_gF h19 ?_
      refine w_gF h19 ?_
      refine w_pFb h19 (mAF q19 h19) ?_
      exact rfl
  intro b19 q19
  refine w_fadr ?_
  refine w_ld (c := rowsC encWant a.fWants) B1 (Nat.le_of_ble_eq_true rfl) rfl ?_
  refine w_fadr ?_
  refine w_ld (c := rowsC encWant b.fWants) B2 (Nat.le_of_ble_eq_true rfl) rfl ?_
  refine lw_sc rfl (vcons (Vw_ro _ _ _) (vcons (Vw_ro _ _ _) vnil)) (equalWants (n + 0) (by omega) _ a.fWants b.fWants (by omega)) ?_
  apply w_merge ((eqList eqWant a.fWants b.fWants) && (eqList eqSt a.fNames b.fNames))
  · intro b20 q20
    refine w_split ((eqList eqWant a.fWants b.fWants)) (fun h20 => ?_) (fun h20 => ?_)
    · refine w_gT h20 ?_
      refine w_fadr ?_
      refine w_gT h20 ?_
      refine w_ld (c := strsC a.fNames) B1 (Nat.le_of_ble_eq_true rfl) rfl ?_
      refine w_gT h20 ?_
      refine w_fadr ?_
      refine w_gT h20 ?_
      refine w_ld (c := strsC b.fNames) B2 (Nat.le_of_ble_eq_true rfl) rfl ?_
      refine w_gT h20 ?_
      refine lw_sc rfl (vcons (Vw_ro _ _ _) (vcons (Vw_ro _ _ _) vnil)) (equalStrs (n + 0) (by omega) _ a.fNames b.fNames (by omega)) ?_
      refine w_pTb h20 (mAT q20 h20) ?_
      exact rfl
    · refine w_gF h20 ?_
      refine w_gF h20 ?_
      refine w_gF h20 ?_
      refine w_gF h20 ?_
      refine w_gF h20 ?_
      refine w_pFb h20 (mAF q20 h20) ?_
      exact rfl
  intro b20 q20
  apply w_merge (b20 && (eqList eqI a.fCodes b.fCodes))
  · intro b21 q21
    refine w_split (b20) (fun h21 => ?_) (fun h21 => ?_)
    · refine w_gT h21 ?_
      refine w_fadr ?_
      refine w_gT h21 ?_
      refine w_ld (c := intsC a.fCodes) B1 (Nat.le_of_ble_eq_true rfl) rfl ?_
      refine w_gT h21 ?_
      refine w_fadr ?_
      refine w_gT h21 ?_
      refine w_ld (c := intsC b.fCodes) B2 (Nat.le_of_ble_eq_true rfl) rfl ?_
      refine w_gT h21 ?_
      refine lw_sc rfl (vcons (Vw_ro _ _ _) (vcons (Vw_ro _ _ _) vnil)) (equalInts (n + 0) (by omega) _ a.fCodes b.fCodes (by omega)) ?_
      refine w_pTb h21 (mAT q21 h21) ?_
      exact rfl
    · refine w_gF h21 ?_
      refine w_gF h21 ?_
      refine w_gF h21 ?_
      refine w_gF h21 ?_
      refine w_gF h21 ?_
      refine w_pFb h21 (mAF q21 h21) ?_
      exact rfl
  intro b21 q21
  apply w_merge (b8 && b15)
  · intro b22 q22
    refine w_split (b8) (fun h22 => ?_) (fun h22 => ?_)
    · refine w_gT h22 ?_
      refine w_pTb h22 (mAT q22 h22) ?_
      exact rfl
    · refine w_gF h22 ?_
      refine w_pFb h22 (mAF q22 h22) ?_
      exact rfl
  intro b22 q22
  apply w_merge (b22 && b19)
  · intro b23 q23
    refine w_split (b22) (fun h23 => ?_) (fun h23 => ?_)
    · refine w_gT h23 ?_
      refine w_pTb h23 (mAT q23 h23) ?_
      exact rfl
    · refine w_gF h23 ?_
      refine w_pFb h23 (mAF q23 h23) ?_
      exact rfl
  intro b23 q23
  apply w_merge (b23 && b21)
  · intro b24 q24
    refine w_split (b23) (fun h24 => ?_) (fun h24 => ?_)
    · refine w_gT h24 ?_
      refine w_pTb h24 (mAT q24 h24) ?_
      exact rfl
    · refine w_gF h24 ?_
      refine w_pFb h24 (mAF q24 h24) ?_
      exact rfl
  intro b24 q24
  apply w_merge (b24 && (a.fCode == b.fCode))
  · intro b25 q25
    refine w_split (b24) (fun h25 => ?_) (fun h25 => ?_)
    · refine w_gT h25 ?_
      refine w_fadr ?_
      refine w_gT h25 ?_
      refine w_ld (c := .sc (.int .i64 a.fCode)) B1 (Nat.le_of_ble_eq_true rfl) rfl ?_
      refine w_gT h25 ?_
      refine w_fadr ?_
      refine w_gT h25 ?_
      refine w_ld (c := .sc (.int .i64 b.fCode)) B2 (Nat.le_of_ble_eq_true rfl) rfl ?_
      refine w_gT h25 ?_
      refine w_bin (v := .sc (.bool (a.fCode == b.fCode))) (fun k => rfl) ?_
      refine w_pTb h25 (mAT q25 h25) ?_
      exact rfl
    · refine w_gF h25 ?_
      refine w_gF h25 ?_
      refine w_gF h25 ?_
      refine w_gF h25 ?_
      refine w_gF h25 ?_
      refine w_pFb h25 (mAF q25 h25) ?_
      exact rfl
  intro b25 q25
  apply w_merge (b25 && (a.fPresent == b.fPresent))
  · intro b26 q26
    refine w_split (b25) (fun h26 => ?_) (fun h26 => ?_)
    · refine w_gT h26 ?_
      refine w_fadr ?_
      refine w_gT h26 ?_
      refine w_ld (c := .sc (.bool a.fPresent)) B1 (Nat.le_of_ble_eq_true rfl) rfl ?_
      refine w_gT h26 ?_
      refine w_fadr ?_
      refine w_gT h26 ?_
      refine w_ld (c := .sc (.bool b.fPresent)) B2 (Nat.le_of_ble_eq_true rfl) rfl ?_
      refine w_gT h26 ?_
      refine w_binB (v := .sc (.bool (a.fPresent == b.fPresent))) (fun k => rfl) ?_
      refine w_pTb h26 (mAT q26 h26) ?_
      exact rfl
    · refine w_gF h26 ?_
      refine w_gF h26 ?_
      refine w_gF h26 ?_
      refine w_gF h26 ?_
      refine w_gF h26 ?_
      refine w_pFb h26 (mAF q26 h26) ?_
      exact rfl
  intro b26 q26
  exact w_endB (by subst_vars; simp only [vSamePacket, vPkLists, vPkChain]; ac_rfl)
def vSameMsg (a b : MsgV) : Bool := a.fTopic.toList == b.fTopic.toList && a.fBody.toList == b.fBody.toList && a.fQos == b.fQos && a.fRetain == b.fRetain
theorem specSameMsgF (n : Nat) (ty : Nat) (a : MsgV) (b : MsgV) : tree E0 (n + 2) ty 125 [.agg (encMsg a), .agg (encMsg b)] = some (.sc (.bool (vSameMsg a b))) := by
  rw [tree_def, f125_eq, f125]
  simp only [PR_box, PR_new, PR_fadr, PR_load, PR_store, PR_bin, PR_binB, PR_binA, PR_un, PR_cond, PR_guard, PR_pick, PR_len, PR_lenS, PR_iadr, PR_idx, PR_slice, PR_sliceS, PR_newSl, PR_fill, PR_make, PR_app, PR_cvI, PR_cvBS]
  refine w_box (flMsg _) fun iB1 eB1 B1 => ?_
  refine w_box (flMsg _) fun iB2 eB2 B2 => ?_
  replace B1 := blk_grow B1 [⟨encMsg b, true, true⟩]
  refine w_fadr ?_
  refine w_ld (c := .sc (.string a.fTopic)) B1 (Nat.le_of_ble_eq_true rfl) rfl ?_
  refine w_fadr ?_
  refine w_ld (c := .sc (.string b.fTopic)) B2 (Nat.le_of_ble_eq_true rfl) rfl ?_
  refine w_bin (v := .sc (.bool (a.fTopic.toList == b.fTopic.toList))) (fun k => rfl) ?_
  apply w_merge ((a.fTopic.toList == b.fTopic.toList) && (a.fBody.toList == b.fBody.toList))
  · intro b3 q3
    refine w_split ((a.fTopic.toList == b.fTopic.toList)) (fun h3 => ?_) (fun h3 => ?_)
    · refine w_gT h3 ?_
      refine w_fadr ?_
      refine w_gT h3 ?_
      refine w_ld (c := bytesC a.fBody) B1 (Nat.le_of_ble_eq_true rfl) rfl ?_
      refine w_gT h3 ?_
      refine w_fadr ?_
      refine w_gT h3 ?_
      refine w_ld (c := bytesC b.fBody) B2 (Nat.le_of_ble_eq_true rfl) rfl ?_
      refine w_gT h3 ?_
      refine lw_sc rfl (vcons (Vw_ro _ _ _) (vcons (Vw_ro _ _ _) vnil)) (l1SameF (n + 0) _ a.fBody b.fBody) ?_
      refine w_pTb h3 (mAT q3 h3) ?_
      exact rfl
    · refine w_gF h3 ?_
      refine w_gF h3 ?_
      refine w_gF h3 ?_
      refine w_gF h3 ?_
      refine w_gF h3 ?_
      refine w_pFb h3 (mAF q3 h3) ?_
      exact rfl
  intro b3 q3
  apply w_merge (b3 && (a.fQos == b.fQos))
  · intro b4 q4
    refine w_split (b3) (fun h4 => ?_) (fun h4 => ?_)
    · refine w_gT h4 ?_
      refine w_fadr ?_
      refine w_gT h4 ?_
      refine w_ld (c := .sc (.int .i64 a.fQos)) B1 (Nat.le_of_ble_eq_true rfl) rfl ?_
      refine w_gT h4 ?_
      refine w_fadr ?_
      refine w_gT h4 ?_
      refine w_ld (c := .sc (.int .i64 b.fQos)) B2 (Nat.le_of_ble_eq_true rfl) rfl ?_
      refine w_gT h4 ?_
      refine w_bin (v := .sc (.bool (a.fQos == b.fQos))) (fun k => rfl) ?_
      refine w_pTb h4 (mAT q4 h4) ?_
      exact rfl
    · refine w_gF h4 ?_
      refine w_gF h4 ?_
      refine w_gF h4 ?_
      refine w_gF h4 ?_
      refine w_gF h4 ?_
      refine w_pFb h4 (mAF q4 h4) ?_
      exact rfl
  intro b4 q4
  apply w_merge (b4 && (a.fRetain == b.fRetain))
  · intro b5 q5
    refine w_split (b4) (fun h5 => ?_) (fun h5 => ?_)
    · refine w_gT h5 ?_
      refine w_fadr ?_
      refine w_gT h5 ?_
      refine w_ld (c := .sc (.bool a.fRetain)) B1 (Nat.le_of_ble_eq_true rfl) rfl ?_
      refine w_gT h5 ?_
      refine w_fadr ?_
      refine w_gT h5 ?_
      refine w_ld (c := .sc (.bool b.fRetain)) B2 (Nat.le_of_ble_eq_true rfl) rfl ?_
      refine w_gT h5 ?_
      refine w_binB (v := .sc (.bool (a.fRetain == b.fRetain))) (fun k => rfl) ?_
      refine w_pTb h5 (mAT q5 h5) ?_
      exact rfl
    · refine w_gF h5 ?_
      refine w_gF h5 ?_
      refine w_gF h5 ?_
      refine w_gF h5 ?_
      refine w_gF h5 ?_
      refine w_pFb h5 (mAF q5 h5) ?_
      exact rfl
  intro b5 q5
  exact w_endB (by first | (simp_all [vIn, eqSub, eqWant, vSamePacket, vPkChain, vPkLists, vSameMsg]; done) | (rw [Bool.eq_iff_iff]; simp [vIn, eqSub, eqWant, vSamePacket, vPkChain, vPkLists, vSameMsg] at *; omega))
theorem implSameMsgF (n : Nat) (ty : Nat) (a : MsgV) (b : MsgV) : tree E0 (n + 2) ty 113 [.agg (encMsg a), .agg (encMsg b)] = some (.sc (.bool (vSameMsg a b))) := by
  rw [tree_def, f113_eq, f113]
  simp only [PR_box, PR_new, PR_fadr, PR_load, PR_store, PR_bin, PR_binB, PR_binA, PR_un, PR_cond, PR_guard, PR_pick, PR_len, PR_lenS, PR_iadr, PR_idx, PR_slice, PR_sliceS, PR_newSl, PR_fill, PR_make, PR_app, PR_cvI, PR_cvBS]
  refine w_box (flMsg _) fun iB1 eB1 B1 => ?_
  refine w_box (flMsg _) fun iB2 eB2 B2 => ?_
  replace B1 := blk_grow B1 [⟨encMsg b, true, true⟩]
  refine w_fadr ?_
  refine w_ld (c := .sc (.string a.fTopic)) B1 (Nat.le_of_ble_eq_true rfl) rfl ?_
  refine w_fadr ?_
  refine w_ld (c := .sc (.string b.fTopic)) B2 (Nat.le_of_ble_eq_true rfl) rfl ?_
  refine w_bin (v := .sc (.bool (a.fTopic.toList == b.fTopic.toList))) (fun k => rfl) ?_
  apply w_merge ((a.fTopic.toList == b.fTopic.toList) && (a.fBody.toList == b.fBody.toList))
  · intro b3 q3
    refine w_split ((a.fTopic.toList == b.fTopic.toList)) (fun h3 => ?_) (fun h3 => ?_)
    · refine w_gT h3 ?_
      refine w_fadr ?_
      refine w_gT h3 ?_
      refine w_ld (c := bytesC a.fBody) B1 (Nat.le_of_ble_eq_true rfl) rfl ?_
      refine w_gT h3 ?_
      refine w_fadr ?_
      refine w_gT h3 ?_
      refine w_ld (c := bytesC b.fBody) B2 (Nat.le_of_ble_eq_true rfl) rfl ?_
      refine w_gT h3 ?_
      refine lw_sc rfl (vcons (Vw_ro _ _ _) (vcons (Vw_ro _ _ _) vnil)) (bytesEqualF (n + 0) _ a.fBody b.fBody) ?_
      refine w_pTb h3 (mAT q3 h3) ?_
      exact rfl
    · refine w_gF h3 ?_
      refine w_gF h3 ?_
      refine w_gF h3 ?_
      refine w_gF h3 ?_
      refine w_gF h3 ?_
      refine w_pFb h3 (mAF q3 h3) ?_
      exact rfl
  intro b3 q3
  apply w_merge (b3 && (a.fQos == b.fQos))
  · intro b4 q4
    refine w_split (b3) (fun h4 => ?_) (fun h4 => ?_)
    · refine w_gT h4 ?_
      refine w_fadr ?_
      refine w_gT h4 ?_
      refine w_ld (c := .sc (.int .i64 a.fQos)) B1 (Nat.le_of_ble_eq_true rfl) rfl ?_
      refine w_gT h4 ?_
      refine w_fadr ?_
      refine w_gT h4 ?_
      refine w_ld (c := .sc (.int .i64 b.fQos)) B2 (Nat.le_of_ble_eq_true rfl) rfl ?_
      refine w_gT h4 ?_
      refine w_bin (v := .sc (.bool (a.fQos == b.fQos))) (fun k => rfl) ?_
      refine w_pTb h4 (mAT q4 h4) ?_
      exact rfl
    · refine w_gF h4 ?_
      refine w_gF h4 ?_
      refine w_gF h4 ?_
      refine w_gF h4 ?_
      refine w_gF h4 ?_
      refine w_pFb h4 (mAF q4 h4) ?_
      exact rfl
  intro b4 q4
  apply w_merge (b4 && (a.fRetain == b.fRetain))
  · intro b5 q5
    refine w_split (b4) (fun h5 => ?_) (fun h5 => ?_)
    · refine w_gT h5 ?_
      refine w_fadr ?_
      refine w_gT h5 ?_
      refine w_ld (c := .sc (.bool a.fRetain)) B1 (Nat.le_of_ble_eq_true rfl) rfl ?_
      refine w_gT h5 ?_
      refine w_fadr ?_
      refine w_gT h5 ?_
      refine w_ld (c := .sc (.bool b.fRetain)) B2 (Nat.le_of_ble_eq_true rfl) rfl ?_
      refine w_gT h5 ?_
      refine w_binB (v := .sc (.bool (a.fRetain == b.fRetain))) (fun k => rfl) ?_
      refine w_pTb h5 (mAT q5 h5) ?_
      exact rfl
    · refine w_gF h5 ?_
      refine w_gF h5 ?_
      refine w_gF h5 ?_
      refine w_gF h5 ?_
      refine w_gF h5 ?_
      refine w_pFb h5 (mAF q5 h5) ?_
      exact rfl
  intro b5 q5
  exact w_endB (by first | (simp_all [vIn, eqSub, eqWant, vSamePacket, vPkChain, vPkLists, vSameMsg]; done) | (rw [Bool.eq_iff_iff]; simp [vIn, eqSub, eqWant, vSamePacket, vPkChain, vPkLists, vSameMsg] at *; omega))
def vSameMsgs (a b : List MsgV) : Bool := if a.length = b.length then all2 vSameMsg a b else false
def vEnds (l q : List MsgV) : Bool := if q.length ≤ l.length then all2 vSameMsg (l.drop (l.length - q.length)) q else false
theorem specEndsF (n : Nat) (hn : 1048576 < n) (ty : Nat) (l q : List MsgV) (hl : l.length ≤ 1048576) (hq : q.length ≤ 1048576) : tree E0 (n + 4) ty 108 [rowsC encMsg l, rowsC encMsg q] = some (.sc (.bool (vEnds l q))) := by
  rw [tree_def, f108_eq, f108]
  simp only [PR_len, PR_bin, PR_cond]
  rw [len_ro, len_ro, gtr64, cond_b, vEnds]
  by_cases h : q.length ≤ l.length
  · rw [if_neg (by simp; omega), if_pos h]
    have key := ends_loop (n := n + 3) (tb := 4) (g := 125) encMsg vSameMsg (fun x H => ownTree ti0 E0.tp ty H x) lenMsg (by decide) flMsg rfl (fun m a b i H => f108_l0 (PR (n + 3) AV) (n + 3) (fun x H => ownTree ti0 E0.tp ty H x) m a b i H) (fun m a b i H => rfl) l q (fun x y _ _ => specSameMsgF (n + 1) _ x y) h (by omega) [] q (l.drop (l.length - q.length)) [] (l.take (l.length - q.length)) (n + 3) (by rw [List.take_append_drop]) rfl (by simp) (by omega)
    simp only [List.length_nil, Int.natCast_zero] at key
    rw [key]
    rfl
  · rw [if_pos (by simp; omega), if_neg h]
    rfl
theorem equalFuncF (n : Nat) (hn : 1048576 < n) (ty : Nat) (l q : List MsgV) (hl : l.length ≤ 1048576) (hq : q.length ≤ 1048576) : tree E0 (n + 4) ty 112 [rowsC encMsg l, rowsC encMsg q, .fn 113 [] []] = some (.sc (.bool (vSameMsgs l q))) := by
  rw [tree_def, f112_eq, f112]
  simp only [PR_len, PR_bin, PR_cond]
  rw [len_ro, len_ro, neq_nat, cond_b, vSameMsgs]
  by_cases h : l.length = q.length
  · rw [if_neg (by simpa using h), if_pos h]
    have key := eqfunc_loop (n := n + 3) (tb := 4) (g := 113) encMsg vSameMsg (fun x H => ownTree ti0 E0.tp ty H x) (fun _ _ _ => rfl) zzMsg rfl lenMsg (by decide) flMsg rfl (fun m b f a c i H => f112_l0 (PR (n + 3) AV) (n + 3) (fun x H => ownTree ti0 E0.tp ty H x) m b f a c i H) (fun m b f a c i H => rfl) l q (fun x y _ _ => implSameMsgF (n + 1) _ x y) h hl l q [] [] (n + 3) [] rfl rfl rfl (by omega)
    simp only [List.length_nil, Int.natCast_zero] at key
    rw [len_ro, key]
    rfl
  · rw [if_pos (by simpa using h), if_neg h]
    rfl
theorem implSameMsgsF (n : Nat) (hn : 1048576 < n) (ty : Nat) (l q : List MsgV) (hl : l.length ≤ 1048576) (hq : q.length ≤ 1048576) : tree E0 (n + 5) ty 85 [rowsC encMsg l, rowsC encMsg q] = some (.sc (.bool (vSameMsgs l q))) := by
  rw [tree_def, f85_eq, f85]
  refine lw_sc rfl (vcons (Vw_ro _ _ _) (vcons (Vw_ro _ _ _) (vcons (fun _ => rfl) vnil))) (equalFuncF n hn _ l q hl hq) ?_
  rfl
theorem l19MsgsF (n : Nat) (hn : 1048576 < n) (ty : Nat) (l : List MsgV) (q : List MsgV) (hl : l.length ≤ 1048576) (hq : q.length ≤ 1048576) : tree E0 (n + 5) ty 81 [rowsC encMsg l, rowsC encMsg q] = some (.sc (.bool (vSameMsgs l q))) := by
  rw [tree_def, f81_eq, f81]
  simp only [PR_box, PR_new, PR_fadr, PR_load, PR_store, PR_bin, PR_binB, PR_binA, PR_un, PR_cond, PR_guard, PR_pick, PR_len, PR_lenS, PR_iadr, PR_idx, PR_slice, PR_sliceS, PR_newSl, PR_fill, PR_make, PR_app, PR_cvI, PR_cvBS]
  refine w_len ?_
  refine w_len ?_
  refine w_bin (v := .sc (.bool ((l.length : Int) == (q.length : Int)))) (fun k => rfl) ?_
  apply w_merge (((l.length : Int) == (q.length : Int)) && (vEnds l q))
  · intro b1 q1
    refine w_split (((l.length : Int) == (q.length : Int))) (fun h1 => ?_) (fun h1 => ?_)
    · refine w_gT h1 ?_
      refine w_gT h1 ?_
      refine w_gT h1 ?_
      refine lw_sc rfl (vcons (Vw_ro _ _ _) (vcons (Vw_ro _ _ _) vnil)) (specEndsF (n + 0) (by omega) _ l q (by assumption) (by assumption)) ?_
      refine w_pTb h1 (mAT q1 h1) ?_
      exact rfl
    · refine w_gF h1 ?_
      refine w_gF h1 ?_
      refine w_gF h1 ?_
      refine w_pFb h1 (mAF q1 h1) ?_
      exact rfl
  intro b1 q1
  exact w_endB (by subst_vars; simp only [vSameMsgs, vEnds]; by_cases e : l.length = q.length <;> simp_all <;> (intro h; omega))
def vSameDeed (a b : DeedV) : Bool := (a.fOp == b.fOp) && (a.fConn == b.fConn) && (a.fGen == b.fGen) && (a.fInv == b.fInv) && (a.fLin == b.fLin) && (a.fRes == b.fRes) && (a.fCode == b.fCode) && (a.fBorn == b.fBorn) && (a.fVoid == b.fVoid) && (a.fPresent == b.fPresent) && (a.fHand == b.fHand) && (a.fClient.toList == b.fClient.toList) && vSamePacket a.fP b.fP && eqList eqSub a.fTo b.fTo && eqList eqI a.fCodes b.fCodes && vSameMsgs a.fKs b.fKs
theorem deed_lens (x : DeedV) (h : wtDeed x ≤ 1048576) : x.fP.fWants.length ≤ 1048576 ∧ x.fP.fNames.length ≤ 1048576 ∧ x.fP.fCodes.length ≤ 1048576 ∧ x.fTo.length ≤ 1048576 ∧ x.fCodes.length ≤ 1048576 ∧ x.fKs.length ≤ 1048576 := by
  unfold wtDeed wtPacket at h
  have e1 := wtL_eq wtWant x.fP.fWants
  have e2 := wtL_eq ByteArray.size x.fP.fNames
  have e3 := wtL_eq wtSub x.fTo
  have e4 := wtL_eq wtMsg x.fKs
  omega
theorem specF_SameDeed (n : Nat) (hn : 1048576 < n) (a : DeedV) (b : DeedV) (k0 : okDeed a) (k1 : okDeed b) (b0 : wtDeed a ≤ 1048576) (b1 : wtDeed b ≤ 1048576) : tree E0 (n + 7) 4 39 [.agg (encDeed a), .agg (encDeed b)] = some (.sc (.bool (vSameDeed a b))) := by
  rw [tree_def, f39_eq, f39]
  simp only [PR_box, PR_new, PR_fadr, PR_load, PR_store, PR_bin, PR_binB, PR_binA, PR_un, PR_cond, PR_guard, PR_pick, PR_len, PR_lenS, PR_iadr, PR_idx, PR_slice, PR_sliceS, PR_newSl, PR_fill, PR_make, PR_app, PR_cvI, PR_cvBS]
  obtain ⟨la1, la2, la3, la4, la5, la6⟩ := deed_lens a b0
  obtain ⟨lb1, lb2, lb3, lb4, lb5, lb6⟩ := deed_lens b b1
  refine w_box (flDeed _) fun iB1 eB1 B1 => ?_
  refine w_box (flDeed _) fun iB2 eB2 B2 => ?_
  replace B1 := blk_grow B1 [⟨encDeed b, true, true⟩]
  refine w_fadr ?_
  refine w_ld (c := .sc (.int .i64 a.fOp)) B1 (Nat.le_of_ble_eq_true rfl) rfl ?_
  refine w_fadr ?_
  refine w_ld (c := .sc (.int .i64 b.fOp)) B2 (Nat.le_of_ble_eq_true rfl) rfl ?_
  refine w_bin (v := .sc (.bool (a.fOp == b.fOp))) (fun k => rfl) ?_
  apply w_merge ((a.fOp == b.fOp) && (a.fConn == b.fConn))
  · intro b3 q3
    refine w_split ((a.fOp == b.fOp)) (fun h3 => ?_) (fun h3 => ?_)
    · refine w_gT h3 ?_
      refine w_fadr ?_
      refine w_gT h3 ?_
      refine w_ld (c := .sc (.int .i64 a.fConn)) B1 (Nat.le_of_ble_eq_true rfl) rfl ?_
      refine w_gT h3 ?_
      refine w_fadr ?_
      refine w_gT h3 ?_
      refine w_ld (c := .sc (.int .i64 b.fConn)) B2 (Nat.le_of_ble_eq_true rfl) rfl ?_
      refine w_gT h3 ?_
      refine w_bin (v := .sc (.bool (a.fConn == b.fConn))) (fun k => rfl) ?_
      refine w_pTb h3 (mAT q3 h3) ?_
      exact rfl
    · refine w_gF h3 ?_
      refine w_gF h3 ?_
      refine w_gF h3 ?_
      refine w_gF h3 ?_
      refine w_gF h3 ?_
      refine w_pFb h3 (mAF q3 h3) ?_
      exact rfl
  intro b3 q3
  apply w_merge (b3 && (a.fGen == b.fGen))
  · intro b4 q4
    refine w_split (b3) (fun h4 => ?_) (fun h4 => ?_)
    · refine w_gT h4 ?_
      refine w_fadr ?_
      refine w_gT h4 ?_
      refine w_ld (c := .sc (.int .i64 a.fGen)) B1 (Nat.le_of_ble_eq_true rfl) rfl ?_
      refine w_gT h4 ?_
      refine w_fadr ?_
      refine w_gT h4 ?_
      refine w_ld (c := .sc (.int .i64 b.fGen)) B2 (Nat.le_of_ble_eq_true rfl) rfl ?_
      refine w_gT h4 ?_
      refine w_bin (v := .sc (.bool (a.fGen == b.fGen))) (fun k => rfl) ?_
      refine w_pTb h4 (mAT q4 h4) ?_
      exact rfl
    · refine w_gF h4 ?_
      refine w_gF h4 ?_
      refine w_gF h4 ?_
      refine w_gF h4 ?_
      refine w_gF h4 ?_
      refine w_pFb h4 (mAF q4 h4) ?_
      exact rfl
  intro b4 q4
  apply w_merge (b4 && (a.fClient.toList == b.fClient.toList))
  · intro b5 q5
    refine w_split (b4) (fun h5 => ?_) (fun h5 => ?_)
    · refine w_gT h5 ?_
      refine w_fadr ?_
      refine w_gT h5 ?_
      refine w_ld (c := .sc (.string a.fClient)) B1 (Nat.le_of_ble_eq_true rfl) rfl ?_
      refine w_gT h5 ?_
      refine w_fadr ?_
      refine w_gT h5 ?_
      refine w_ld (c := .sc (.string b.fClient)) B2 (Nat.le_of_ble_eq_true rfl) rfl ?_
      refine w_gT h5 ?_
      refine w_bin (v := .sc (.bool (a.fClient.toList == b.fClient.toList))) (fun k => rfl) ?_
      refine w_pTb h5 (mAT q5 h5) ?_
      exact rfl
    · refine w_gF h5 ?_
      refine w_gF h5 ?_
      refine w_gF h5 ?_
      refine w_gF h5 ?_
      refine w_gF h5 ?_
      refine w_pFb h5 (mAF q5 h5) ?_
      exact rfl
  intro b5 q5
  apply w_merge (b5 && (vSamePacket a.fP b.fP))
  · intro b6 q6
    refine w_split (b5) (fun h6 => ?_) (fun h6 => ?_)
    · refine w_gT h6 ?_
      refine w_fadr ?_
      refine w_gT h6 ?_
      refine w_ldA (ds := encPacket a.fP) B1 (Nat.le_of_ble_eq_true rfl) rfl ?_
      refine w_gT h6 ?_
      refine w_fadr ?_
      refine w_gT h6 ?_
      refine w_ldA (ds := encPacket b.fP) B2 (Nat.le_of_ble_eq_true rfl) rfl ?_
      refine w_gT h6 ?_
      refine lw_sc rfl (vcons (Vw_agg _ (flPacket _)) (vcons (Vw_agg _ (flPacket _)) vnil)) (specSamePacketF (n + 4) (by omega) _ a.fP b.fP (by assumption) (by assumption) (by assumption)) ?_
      refine w_pTb h6 (mAT q6 h6) ?_
      exact rfl
    · refine w_gF h6 ?_
      refine w_gF h6 ?_
      refine w_gF h6 ?_
      refine w_gF h6 ?_
      refine w_gF h6 ?_
      refine w_pFb h6 (mAF q6 h6) ?_
      exact rfl
  intro b6 q6
  apply w_merge (b6 && (a.fInv == b.fInv))
  · intro b7 q7
    refine w_split (b6) (fun h7 => ?_) (fun h7 => ?_)
    · refine w_gT h7 ?_
      refine w_fadr ?_
      refine w_gT h7 ?_
      refine w_ld (c := .sc (.int .i64 a.fInv)) B1 (Nat.le_of_ble_eq_true rfl) rfl ?_
      refine w_gT h7 ?_
      refine w_fadr ?_
      refine w_gT h7 ?_
      refine w_ld (c := .sc (.int .i64 b.fInv)) B2 (Nat.le_of_ble_eq_true rfl) rfl ?_
      refine w_gT h7 ?_
      refine w_bin (v := .sc (.bool (a.fInv == b.fInv))) (fun k => rfl) ?_
      refine w_pTb h7 (mAT q7 h7) ?_
      exact rfl
    · refine w_gF h7 ?_
      refine w_gF h7 ?_
      refine w_gF h7 ?_
      refine w_gF h7 ?_
      refine w_gF h7 ?_
      refine w_pFb h7 (mAF q7 h7) ?_
      exact rfl
  intro b7 q7
  apply w_merge (b7 && (a.fLin == b.fLin))
  · intro b8 q8
    refine w_split (b7) (fun h8 => ?_) (fun h8 => ?_)
    · refine w_gT h8 ?_
      refine w_fadr ?_
      refine w_gT h8 ?_
      refine w_ld (c := .sc (.int .i64 a.fLin)) B1 (Nat.le_of_ble_eq_true rfl) rfl ?_
      refine w_gT h8 ?_
      refine w_fadr ?_
      refine w_gT h8 ?_
      refine w_ld (c := .sc (.int .i64 b.fLin)) B2 (Nat.le_of_ble_eq_true rfl) rfl ?_
      refine w_gT h8 ?_
      refine w_bin (v := .sc (.bool (a.fLin == b.fLin))) (fun k => rfl) ?_
      refine w_pTb h8 (mAT q8 h8) ?_
      exact rfl
    · refine w_gF h8 ?_
      refine w_gF h8 ?_
      refine w_gF h8 ?_
      refine w_gF h8 ?_
      refine w_gF h8 ?_
      refine w_pFb h8 (mAF q8 h8) ?_
      exact rfl
  intro b8 q8
  apply w_merge (b8 && (a.fRes == b.fRes))
  · intro b9 q9
    refine w_split (b8) (fun h9 => ?_) (fun h9 => ?_)
    · refine w_gT h9 ?_
      refine w_fadr ?_
      refine w_gT h9 ?_
      refine w_ld (c := .sc (.int .i64 a.fRes)) B1 (Nat.le_of_ble_eq_true rfl) rfl ?_
      refine w_gT h9 ?_
      refine w_fadr ?_
      refine w_gT h9 ?_
      refine w_ld (c := .sc (.int .i64 b.fRes)) B2 (Nat.le_of_ble_eq_true rfl) rfl ?_
      refine w_gT h9 ?_
      refine w_bin (v := .sc (.bool (a.fRes == b.fRes))) (fun k => rfl) ?_
      refine w_pTb h9 (mAT q9 h9) ?_
      exact rfl
    · refine w_gF h9 ?_
      refine w_gF h9 ?_
      refine w_gF h9 ?_
      refine w_gF h9 ?_
      refine w_gF h9 ?_
      refine w_pFb h9 (mAF q9 h9) ?_
      exact rfl
  intro b9 q9
  apply w_merge (b9 && (a.fVoid == b.fVoid))
  · intro b10 q10
    refine w_split (b9) (fun h10 => ?_) (fun h10 => ?_)
    · refine w_gT h10 ?_
      refine w_fadr ?_
      refine w_gT h10 ?_
      refine w_ld (c := .sc (.bool a.fVoid)) B1 (Nat.le_of_ble_eq_true rfl) rfl ?_
      refine w_gT h10 ?_
      refine w_fadr ?_
      refine w_gT h10 ?_
      refine w_ld (c := .sc (.bool b.fVoid)) B2 (Nat.le_of_ble_eq_true rfl) rfl ?_
      refine w_gT h10 ?_
      refine w_binB (v := .sc (.bool (a.fVoid == b.fVoid))) (fun k => rfl) ?_
      refine w_pTb h10 (mAT q10 h10) ?_
      exact rfl
    · refine w_gF h10 ?_
      refine w_gF h10 ?_
      refine w_gF h10 ?_
      refine w_gF h10 ?_
      refine w_gF h10 ?_
      refine w_pFb h10 (mAF q10 h10) ?_
      exact rfl
  intro b10 q10
  apply w_merge (b10 && (a.fCode == b.fCode))
  · intro b11 q11
    refine w_split (b10) (fun h11 => ?_) (fun h11 => ?_)
    · refine w_gT h11 ?_
      refine w_fadr ?_
      refine w_gT h11 ?_
      refine w_ld (c := .sc (.int .i64 a.fCode)) B1 (Nat.le_of_ble_eq_true rfl) rfl ?_
      refine w_gT h11 ?_
      refine w_fadr ?_
      refine w_gT h11 ?_
      refine w_ld (c := .sc (.int .i64 b.fCode)) B2 (Nat.le_of_ble_eq_true rfl) rfl ?_
      refine w_gT h11 ?_
      refine w_bin (v := .sc (.bool (a.fCode == b.fCode))) (fun k => rfl) ?_
      refine w_pTb h11 (mAT q11 h11) ?_
      exact rfl
    · refine w_gF h11 ?_
      refine w_gF h11 ?_
      refine w_gF h11 ?_
      refine w_gF h11 ?_
      refine w_gF h11 ?_
      refine w_pFb h11 (mAF q11 h11) ?_
      exact rfl
  intro b11 q11
  apply w_merge (b11 && (a.fBorn == b.fBorn))
  · intro b12 q12
    refine w_split (b11) (fun h12 => ?_) (fun h12 => ?_)
    · refine w_gT h12 ?_
      refine w_fadr ?_
      refine w_gT h12 ?_
      refine w_ld (c := .sc (.int .i64 a.fBorn)) B1 (Nat.le_of_ble_eq_true rfl) rfl ?_
      refine w_gT h12 ?_
      refine w_fadr ?_
      refine w_gT h12 ?_
      refine w_ld (c := .sc (.int .i64 b.fBorn)) B2 (Nat.le_of_ble_eq_true rfl) rfl ?_
      refine w_gT h12 ?_
      refine w_bin (v := .sc (.bool (a.fBorn == b.fBorn))) (fun k => rfl) ?_
      refine w_pTb h12 (mAT q12 h12) ?_
      exact rfl
    · refine w_gF h12 ?_
      refine w_gF h12 ?_
      refine w_gF h12 ?_
      refine w_gF h12 ?_
      refine w_gF h12 ?_
      refine w_pFb h12 (mAF q12 h12) ?_
      exact rfl
  intro b12 q12
  apply w_merge (b12 && (a.fPresent == b.fPresent))
  · intro b13 q13
    refine w_split (b12) (fun h13 => ?_) (fun h13 => ?_)
    · refine w_gT h13 ?_
      refine w_fadr ?_
      refine w_gT h13 ?_
      refine w_ld (c := .sc (.bool a.fPresent)) B1 (Nat.le_of_ble_eq_true rfl) rfl ?_
      refine w_gT h13 ?_
      refine w_fadr ?_
      refine w_gT h13 ?_
      refine w_ld (c := .sc (.bool b.fPresent)) B2 (Nat.le_of_ble_eq_true rfl) rfl ?_
      refine w_gT h13 ?_
      refine w_binB (v := .sc (.bool (a.fPresent == b.fPresent))) (fun k => rfl) ?_
      refine w_pTb h13 (mAT q13 h13) ?_
      exact rfl
    · refine w_gF h13 ?_
      refine w_gF h13 ?_
      refine w_gF h13 ?_
      refine w_gF h13 ?_
      refine w_gF h13 ?_
      refine w_pFb h13 (mAF q13 h13) ?_
      exact rfl
  intro b13 q13
  apply w_merge (b13 && (a.fHand == b.fHand))
  · intro b14 q14
    refine w_split (b13) (fun h14 => ?_) (fun h14 => ?_)
    · refine w_gT h14 ?_
      refine w_fadr ?_
      refine w_gT h14 ?_
      refine w_ld (c := .sc (.bool a.fHand)) B1 (Nat.le_of_ble_eq_true rfl) rfl ?_
      refine w_gT h14 ?_
      refine w_fadr ?_
      refine w_gT h14 ?_
      refine w_ld (c := .sc (.bool b.fHand)) B2 (Nat.le_of_ble_eq_true rfl) rfl ?_
      refine w_gT h14 ?_
      refine w_binB (v := .sc (.bool (a.fHand == b.fHand))) (fun k => rfl) ?_
      refine w_pTb h14 (mAT q14 h14) ?_
      exact rfl
    · refine w_gF h14 ?_
      refine w_gF h14 ?_
      refine w_gF h14 ?_
      refine w_gF h14 ?_
      refine w_gF h14 ?_
      refine w_pFb h14 (mAF q14 h14) ?_
      exact rfl
  intro b14 q14
  apply w_merge (b14 && (eqList eqSub a.fTo b.fTo))
  · intro b15 q15
    refine w_split (b14) (fun h15 => ?_) (fun h15 => ?_)
    · refine w_gT h15 ?_
      refine w_fadr ?_
      refine w_gT h15 ?_
      refine w_ld (c := rowsC encSub a.fTo) B1 (Nat.le_of_ble_eq_true rfl) rfl ?_
      refine w_gT h15 ?_
      refine w_fadr ?_
      refine w_gT h15 ?_
      refine w_ld (c := rowsC encSub b.fTo) B2 (Nat.le_of_ble_eq_true rfl) rfl ?_
      refine w_gT h15 ?_
      refine lw_sc rfl (vcons (Vw_ro _ _ _) (vcons (Vw_ro _ _ _) vnil)) (l19SubsF (n + 5) (by omega) _ a.fTo b.fTo (by omega)) ?_
      refine w_pTb h15 (mAT q15 h15) ?_
      exact rfl
    · refine w_gF h15 ?_
      refine w_gF h15 ?_
      refine w_gF h15 ?_
      refine w_gF h15 ?_
      refine w_gF h15 ?_
      refine w_pFb h15 (mAF q15 h15) ?_
      exact rfl
  intro b15 q15
  apply w_merge (b15 && (eqList eqI a.fCodes b.fCodes))
  · intro b16 q16
    refine w_split (b15) (fun h16 => ?_) (fun h16 => ?_)
    · refine w_gT h16 ?_
      refine w_fadr ?_
      refine w_gT h16 ?_
      refine w_ld (c := intsC a.fCodes) B1 (Nat.le_of_ble_eq_true rfl) rfl ?_
      refine w_gT h16 ?_
      refine w_fadr ?_
      refine w_gT h16 ?_
      refine w_ld (c := intsC b.fCodes) B2 (Nat.le_of_ble_eq_true rfl) rfl ?_
      refine w_gT h16 ?_
      refine lw_sc rfl (vcons (Vw_ro _ _ _) (vcons (Vw_ro _ _ _) vnil)) (l19IntsF (n + 5) (by omega) _ a.fCodes b.fCodes (by omega)) ?_
      refine w_pTb h16 (mAT q16 h16) ?_
      exact rfl
    · refine w_gF h16 ?_
      refine w_gF h16 ?_
      refine w_gF h16 ?_
      refine w_gF h16 ?_
      refine w_gF h16 ?_
      refine w_pFb h16 (mAF q16 h16) ?_
      exact rfl
  intro b16 q16
  apply w_merge (b16 && (vSameMsgs a.fKs b.fKs))
  · intro b17 q17
    refine w_split (b16) (fun h17 => ?_) (fun h17 => ?_)
    · refine w_gT h17 ?_
      refine w_fadr ?_
      refine w_gT h17 ?_
      refine w_ld (c := rowsC encMsg a.fKs) B1 (Nat.le_of_ble_eq_true rfl) rfl ?_
      refine w_gT h17 ?_
      refine w_fadr ?_
      refine w_gT h17 ?_
      refine w_ld (c := rowsC encMsg b.fKs) B2 (Nat.le_of_ble_eq_true rfl) rfl ?_
      refine w_gT h17 ?_
      refine lw_sc rfl (vcons (Vw_ro _ _ _) (vcons (Vw_ro _ _ _) vnil)) (l19MsgsF (n + 1) (by omega) _ a.fKs b.fKs (by assumption) (by assumption)) ?_
      refine w_pTb h17 (mAT q17 h17) ?_
      exact rfl
    · refine w_gF h17 ?_
      refine w_gF h17 ?_
      refine w_gF h17 ?_
      refine w_gF h17 ?_
      refine w_gF h17 ?_
      refine w_pFb h17 (mAF q17 h17) ?_
      exact rfl
  intro b17 q17
  exact w_endB (by subst_vars; simp only [vSameDeed]; ac_rfl)
theorem implF_SameDeed (n : Nat) (hn : 1048576 < n) (a : DeedV) (b : DeedV) (k0 : okDeed a) (k1 : okDeed b) (b0 : wtDeed a ≤ 1048576) (b1 : wtDeed b ≤ 1048576) : tree E0 (n + 7) 4 40 [.agg (encDeed a), .agg (encDeed b)] = some (.sc (.bool (vSameDeed a b))) := by
  rw [tree_def, f40_eq, f40]
  simp only [PR_box, PR_new, PR_fadr, PR_load, PR_store, PR_bin, PR_binB, PR_binA, PR_un, PR_cond, PR_guard, PR_pick, PR_len, PR_lenS, PR_iadr, PR_idx, PR_slice, PR_sliceS, PR_newSl, PR_fill, PR_make, PR_app, PR_cvI, PR_cvBS]
  obtain ⟨la1, la2, la3, la4, la5, la6⟩ := deed_lens a b0
  obtain ⟨lb1, lb2, lb3, lb4, lb5, lb6⟩ := deed_lens b b1
  refine w_box (flDeed _) fun iB1 eB1 B1 => ?_
  refine w_box (flDeed _) fun iB2 eB2 B2 => ?_
  replace B1 := blk_grow B1 [⟨encDeed b, true, true⟩]
  refine w_fadr ?_
  refine w_ld (c := .sc (.int .i64 a.fOp)) B1 (Nat.le_of_ble_eq_true rfl) rfl ?_
  refine w_fadr ?_
  refine w_ld (c := .sc (.int .i64 b.fOp)) B2 (Nat.le_of_ble_eq_true rfl) rfl ?_
  refine w_bin (v := .sc (.bool (a.fOp == b.fOp))) (fun k => rfl) ?_
  apply w_merge ((a.fOp == b.fOp) && (a.fConn == b.fConn))
  · intro b3 q3
    refine w_split ((a.fOp == b.fOp)) (fun h3 => ?_) (fun h3 => ?_)
    · refine w_gT h3 ?_
      refine w_fadr ?_
      refine w_gT h3 ?_
      refine w_ld (c := .sc (.int .i64 a.fConn)) B1 (Nat.le_of_ble_eq_true rfl) rfl ?_
      refine w_gT h3 ?_
      refine w_fadr ?_
      refine w_gT h3 ?_
      refine w_ld (c := .sc (.int .i64 b.fConn)) B2 (Nat.le_of_ble_eq_true rfl) rfl ?_
      refine w_gT h3 ?_
      refine w_bin (v := .sc (.bool (a.fConn == b.fConn))) (fun k => rfl) ?_
      refine w_pTb h3 (mAT q3 h3) ?_
      exact rfl
    · refine w_gF h3 ?_
      refine w_gF h3 ?_
      refine w_gF h3 ?_
      refine w_gF h3 ?_
      refine w_gF h3 ?_
      refine w_pFb h3 (mAF q3 h3) ?_
      exact rfl
  intro b3 q3
  apply w_merge (b3 && (a.fGen == b.fGen))
  · intro b4 q4
    refine w_split (b3) (fun h4 => ?_) (fun h4 => ?_)
    · refine w_gT h4 ?_
      refine w_fadr ?_
      refine w_gT h4 ?_
      refine w_ld (c := .sc (.int .i64 a.fGen)) B1 (Nat.le_of_ble_eq_true rfl) rfl ?_
      refine w_gT h4 ?_
      refine w_fadr ?_
      refine w_gT h4 ?_
      refine w_ld (c := .sc (.int .i64 b.fGen)) B2 (Nat.le_of_ble_eq_true rfl) rfl ?_
      refine w_gT h4 ?_
      refine w_bin (v := .sc (.bool (a.fGen == b.fGen))) (fun k => rfl) ?_
      refine w_pTb h4 (mAT q4 h4) ?_
      exact rfl
    · refine w_gF h4 ?_
      refine w_gF h4 ?_
      refine w_gF h4 ?_
      refine w_gF h4 ?_
      refine w_gF h4 ?_
      refine w_pFb h4 (mAF q4 h4) ?_
      exact rfl
  intro b4 q4
  apply w_merge (b4 && (a.fInv == b.fInv))
  · intro b5 q5
    refine w_split (b4) (fun h5 => ?_) (fun h5 => ?_)
    · refine w_gT h5 ?_
      refine w_fadr ?_
      refine w_gT h5 ?_
      refine w_ld (c := .sc (.int .i64 a.fInv)) B1 (Nat.le_of_ble_eq_true rfl) rfl ?_
      refine w_gT h5 ?_
      refine w_fadr ?_
      refine w_gT h5 ?_
      refine w_ld (c := .sc (.int .i64 b.fInv)) B2 (Nat.le_of_ble_eq_true rfl) rfl ?_
      refine w_gT h5 ?_
      refine w_bin (v := .sc (.bool (a.fInv == b.fInv))) (fun k => rfl) ?_
      refine w_pTb h5 (mAT q5 h5) ?_
      exact rfl
    · refine w_gF h5 ?_
      refine w_gF h5 ?_
      refine w_gF h5 ?_
      refine w_gF h5 ?_
      refine w_gF h5 ?_
      refine w_pFb h5 (mAF q5 h5) ?_
      exact rfl
  intro b5 q5
  apply w_merge (b5 && (a.fLin == b.fLin))
  · intro b6 q6
    refine w_split (b5) (fun h6 => ?_) (fun h6 => ?_)
    · refine w_gT h6 ?_
      refine w_fadr ?_
      refine w_gT h6 ?_
      refine w_ld (c := .sc (.int .i64 a.fLin)) B1 (Nat.le_of_ble_eq_true rfl) rfl ?_
      refine w_gT h6 ?_
      refine w_fadr ?_
      refine w_gT h6 ?_
      refine w_ld (c := .sc (.int .i64 b.fLin)) B2 (Nat.le_of_ble_eq_true rfl) rfl ?_
      refine w_gT h6 ?_
      refine w_bin (v := .sc (.bool (a.fLin == b.fLin))) (fun k => rfl) ?_
      refine w_pTb h6 (mAT q6 h6) ?_
      exact rfl
    · refine w_gF h6 ?_
      refine w_gF h6 ?_
      refine w_gF h6 ?_
      refine w_gF h6 ?_
      refine w_gF h6 ?_
      refine w_pFb h6 (mAF q6 h6) ?_
      exact rfl
  intro b6 q6
  apply w_merge (b6 && (a.fRes == b.fRes))
  · intro b7 q7
    refine w_split (b6) (fun h7 => ?_) (fun h7 => ?_)
    · refine w_gT h7 ?_
      refine w_fadr ?_
      refine w_gT h7 ?_
      refine w_ld (c := .sc (.int .i64 a.fRes)) B1 (Nat.le_of_ble_eq_true rfl) rfl ?_
      refine w_gT h7 ?_
      refine w_fadr ?_
      refine w_gT h7 ?_
      refine w_ld (c := .sc (.int .i64 b.fRes)) B2 (Nat.le_of_ble_eq_true rfl) rfl ?_
      refine w_gT h7 ?_
      refine w_bin (v := .sc (.bool (a.fRes == b.fRes))) (fun k => rfl) ?_
      refine w_pTb h7 (mAT q7 h7) ?_
      exact rfl
    · refine w_gF h7 ?_
      refine w_gF h7 ?_
      refine w_gF h7 ?_
      refine w_gF h7 ?_
      refine w_gF h7 ?_
      refine w_pFb h7 (mAF q7 h7) ?_
      exact rfl
  intro b7 q7
  apply w_merge (b7 && (a.fCode == b.fCode))
  · intro b8 q8
    refine w_split (b7) (fun h8 => ?_) (fun h8 => ?_)
    · refine w_gT h8 ?_
      refine w_fadr ?_
      refine w_gT h8 ?_
      refine w_ld (c := .sc (.int .i64 a.fCode)) B1 (Nat.le_of_ble_eq_true rfl) rfl ?_
      refine w_gT h8 ?_
      refine w_fadr ?_
      refine w_gT h8 ?_
      refine w_ld (c := .sc (.int .i64 b.fCode)) B2 (Nat.le_of_ble_eq_true rfl) rfl ?_
      refine w_gT h8 ?_
      refine w_bin (v := .sc (.bool (a.fCode == b.fCode))) (fun k => rfl) ?_
      refine w_pTb h8 (mAT q8 h8) ?_
      exact rfl
    · refine w_gF h8 ?_
      refine w_gF h8 ?_
      refine w_gF h8 ?_
      refine w_gF h8 ?_
      refine w_gF h8 ?_
      refine w_pFb h8 (mAF q8 h8) ?_
      exact rfl
  intro b8 q8
  apply w_merge (b8 && (a.fBorn == b.fBorn))
  · intro b9 q9
    refine w_split (b8) (fun h9 => ?_) (fun h9 => ?_)
    · refine w_gT h9 ?_
      refine w_fadr ?_
      refine w_gT h9 ?_
      refine w_ld (c := .sc (.int .i64 a.fBorn)) B1 (Nat.le_of_ble_eq_true rfl) rfl ?_
      refine w_gT h9 ?_
      refine w_fadr ?_
      refine w_gT h9 ?_
      refine w_ld (c := .sc (.int .i64 b.fBorn)) B2 (Nat.le_of_ble_eq_true rfl) rfl ?_
      refine w_gT h9 ?_
      refine w_bin (v := .sc (.bool (a.fBorn == b.fBorn))) (fun k => rfl) ?_
      refine w_pTb h9 (mAT q9 h9) ?_
      exact rfl
    · refine w_gF h9 ?_
      refine w_gF h9 ?_
      refine w_gF h9 ?_
      refine w_gF h9 ?_
      refine w_gF h9 ?_
      refine w_pFb h9 (mAF q9 h9) ?_
      exact rfl
  intro b9 q9
  refine w_fadr ?_
  refine w_ld (c := .sc (.bool a.fVoid)) B1 (Nat.le_of_ble_eq_true rfl) rfl ?_
  refine w_fadr ?_
  refine w_ld (c := .sc (.bool b.fVoid)) B2 (Nat.le_of_ble_eq_true rfl) rfl ?_
  refine w_binB (v := .sc (.bool (a.fVoid == b.fVoid))) (fun k => rfl) ?_
  apply w_merge ((a.fVoid == b.fVoid) && (a.fPresent == b.fPresent))
  · intro b10 q10
    refine w_split ((a.fVoid == b.fVoid)) (fun h10 => ?_) (fun h10 => ?_)
    · refine w_gT h10 ?_
      refine w_fadr ?_
      refine w_gT h10 ?_
      refine w_ld (c := .sc (.bool a.fPresent)) B1 (Nat.le_of_ble_eq_true rfl) rfl ?_
      refine w_gT h10 ?_
      refine w_fadr ?_
      refine w_gT h10 ?_
      refine w_ld (c := .sc (.bool b.fPresent)) B2 (Nat.le_of_ble_eq_true rfl) rfl ?_
      refine w_gT h10 ?_
      refine w_binB (v := .sc (.bool (a.fPresent == b.fPresent))) (fun k => rfl) ?_
      refine w_pTb h10 (mAT q10 h10) ?_
      exact rfl
    · refine w_gF h10 ?_
      refine w_gF h10 ?_
      refine w_gF h10 ?_
      refine w_gF h10 ?_
      refine w_gF h10 ?_
      refine w_pFb h10 (mAF q10 h10) ?_
      exact rfl
  intro b10 q10
  apply w_merge (b10 && (a.fHand == b.fHand))
  · intro b11 q11
    refine w_split (b10) (fun h11 => ?_) (fun h11 => ?_)
    · refine w_gT h11 ?_
      refine w_fadr ?_
      refine w_gT h11 ?_
      refine w_ld (c := .sc (.bool a.fHand)) B1 (Nat.le_of_ble_eq_true rfl) rfl ?_
      refine w_gT h11 ?_
      refine w_fadr ?_
      refine w_gT h11 ?_
      refine w_ld (c := .sc (.bool b.fHand)) B2 (Nat.le_of_ble_eq_true rfl) rfl ?_
      refine w_gT h11 ?_
      refine w_binB (v := .sc (.bool (a.fHand == b.fHand))) (fun k => rfl) ?_
      refine w_pTb h11 (mAT q11 h11) ?_
      exact rfl
    · refine w_gF h11 ?_
      refine w_gF h11 ?_
      refine w_gF h11 ?_
      refine w_gF h11 ?_
      refine w_gF h11 ?_
      refine w_pFb h11 (mAF q11 h11) ?_
      exact rfl
  intro b11 q11
  apply w_merge (b9 && b11)
  · intro b12 q12
    refine w_split (b9) (fun h12 => ?_) (fun h12 => ?_)
    · refine w_gT h12 ?_
      refine w_pTb h12 (mAT q12 h12) ?_
      exact rfl
    · refine w_gF h12 ?_
      refine w_pFb h12 (mAF q12 h12) ?_
      exact rfl
  intro b12 q12
  apply w_merge (b12 && (a.fClient.toList == b.fClient.toList))
  · intro b13 q13
    refine w_split (b12) (fun h13 => ?_) (fun h13 => ?_)
    · refine w_gT h13 ?_
      refine w_fadr ?_
      refine w_gT h13 ?_
      refine w_ld (c := .sc (.string a.fClient)) B1 (Nat.le_of_ble_eq_true rfl) rfl ?_
      refine w_gT h13 ?_
      refine w_fadr ?_
      refine w_gT h13 ?_
      refine w_ld (c := .sc (.string b.fClient)) B2 (Nat.le_of_ble_eq_true rfl) rfl ?_
      refine w_gT h13 ?_
      refine w_bin (v := .sc (.bool (a.fClient.toList == b.fClient.toList))) (fun k => rfl) ?_
      refine w_pTb h13 (mAT q13 h13) ?_
      exact rfl
    · refine w_gF h13 ?_
      refine w_gF h13 ?_
      refine w_gF h13 ?_
      refine w_gF h13 ?_
      refine w_gF h13 ?_
      refine w_pFb h13 (mAF q13 h13) ?_
      exact rfl
  intro b13 q13
  apply w_merge (b13 && (vSamePacket a.fP b.fP))
  · intro b14 q14
    refine w_split (b13) (fun h14 => ?_) (fun h14 => ?_)
    · refine w_gT h14 ?_
      refine w_fadr ?_
      refine w_gT h14 ?_
      refine w_ldA (ds := encPacket a.fP) B1 (Nat.le_of_ble_eq_true rfl) rfl ?_
      refine w_gT h14 ?_
      refine w_fadr ?_
      refine w_gT h14 ?_
      refine w_ldA (ds := encPacket b.fP) B2 (Nat.le_of_ble_eq_true rfl) rfl ?_
      refine w_gT h14 ?_
      refine lw_sc rfl (vcons (Vw_agg _ (flPacket _)) (vcons (Vw_agg _ (flPacket _)) vnil)) (implSamePacketF (n + 4) (by omega) _ a.fP b.fP (by assumption) (by assumption) (by assumption)) ?_
      refine w_pTb h14 (mAT q14 h14) ?_
      exact rfl
    · refine w_gF h14 ?_
      refine w_gF h14 ?_
      refine w_gF h14 ?_
      refine w_gF h14 ?_
      refine w_gF h14 ?_
      refine w_pFb h14 (mAF q14 h14) ?_
      exact rfl
  intro b14 q14
  apply w_merge (b14 && (eqList eqSub a.fTo b.fTo))
  · intro b15 q15
    refine w_split (b14) (fun h15 => ?_) (fun h15 => ?_)
    · refine w_gT h15 ?_
      refine w_fadr ?_
      refine w_gT h15 ?_
      refine w_ld (c := rowsC encSub a.fTo) B1 (Nat.le_of_ble_eq_true rfl) rfl ?_
      refine w_gT h15 ?_
      refine w_fadr ?_
      refine w_gT h15 ?_
      refine w_ld (c := rowsC encSub b.fTo) B2 (Nat.le_of_ble_eq_true rfl) rfl ?_
      refine w_gT h15 ?_
      refine lw_sc rfl (vcons (Vw_ro _ _ _) (vcons (Vw_ro _ _ _) vnil)) (equalSubs (n + 5) (by omega) _ a.fTo b.fTo (by omega)) ?_
      refine w_pTb h15 (mAT q15 h15) ?_
      exact rfl
    · refine w_gF h15 ?_
      refine w_gF h15 ?_
      refine w_gF h15 ?_
      refine w_gF h15 ?_
      refine w_gF h15 ?_
      refine w_pFb h15 (mAF q15 h15) ?_
      exact rfl
  intro b15 q15
  apply w_merge (b15 && (eqList eqI a.fCodes b.fCodes))
  · intro b16 q16
    refine w_split (b15) (fun h16 => ?_) (fun h16 => ?_)
    · refine w_gT h16 ?_
      refine w_fadr ?_
      refine w_gT h16 ?_
      refine w_ld (c := intsC a.fCodes) B1 (Nat.le_of_ble_eq_true rfl) rfl ?_
      refine w_gT h16 ?_
      refine w_fadr ?_
      refine w_gT h16 ?_
      refine w_ld (c := intsC b.fCodes) B2 (Nat.le_of_ble_eq_true rfl) rfl ?_
      refine w_gT h16 ?_
      refine lw_sc rfl (vcons (Vw_ro _ _ _) (vcons (Vw_ro _ _ _) vnil)) (equalInts (n + 5) (by omega) _ a.fCodes b.fCodes (by omega)) ?_
      refine w_pTb h16 (mAT q16 h16) ?_
      exact rfl
    · refine w_gF h16 ?_
      refine w_gF h16 ?_
      refine w_gF h16 ?_
      refine w_gF h16 ?_
      refine w_gF h16 ?_
      refine w_pFb h16 (mAF q16 h16) ?_
      exact rfl
  intro b16 q16
  apply w_merge (b16 && (vSameMsgs a.fKs b.fKs))
  · intro b17 q17
    refine w_split (b16) (fun h17 => ?_) (fun h17 => ?_)
    · refine w_gT h17 ?_
      refine w_fadr ?_
      refine w_gT h17 ?_
      refine w_ld (c := rowsC encMsg a.fKs) B1 (Nat.le_of_ble_eq_true rfl) rfl ?_
      refine w_gT h17 ?_
      refine w_fadr ?_
      refine w_gT h17 ?_
      refine w_ld (c := rowsC encMsg b.fKs) B2 (Nat.le_of_ble_eq_true rfl) rfl ?_
      refine w_gT h17 ?_
      refine lw_sc rfl (vcons (Vw_ro _ _ _) (vcons (Vw_ro _ _ _) vnil)) (implSameMsgsF (n + 1) (by omega) _ a.fKs b.fKs (by assumption) (by assumption)) ?_
      refine w_pTb h17 (mAT q17 h17) ?_
      exact rfl
    · refine w_gF h17 ?_
      refine w_gF h17 ?_
      refine w_gF h17 ?_
      refine w_gF h17 ?_
      refine w_gF h17 ?_
      refine w_pFb h17 (mAF q17 h17) ?_
      exact rfl
  intro b17 q17
  exact w_endB (by subst_vars; simp only [vSameDeed]; ac_rfl)

end Go.Proofs.Ytnkelipioodhjaa.Abs
