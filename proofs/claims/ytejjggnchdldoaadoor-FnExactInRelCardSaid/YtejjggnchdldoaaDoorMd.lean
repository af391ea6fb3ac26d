/- What the proof needs, part 4: a sound evaluator over trees, the program's functions on it, and what they come to. -/
import Derived.Test.YtejjggnchdldoaaDoorMc
set_option linter.unusedVariables false
set_option linter.unusedSimpArgs false
set_option maxRecDepth 100000
namespace Go.Proofs.YtejjggnchdldoaaDoor.Abs
open Go
def eqWant (x y : WantV) : Bool := x.fFilter.toList == y.fFilter.toList && x.fQos == y.fQos
theorem cellsWant (x y : WantV) : eqCells [1, 0] (encWant x) (encWant y) = some (eqWant x y) := by
 simp only [encWant, eqCells, eqCell, eqWant, if_true, Option.bind_some]
 generalize (x.fFilter.toList == y.fFilter.toList) = b0
 generalize (x.fQos == y.fQos) = b1
 cases b0 <;> cases b1 <;> rfl
theorem equalWants (n : Nat) (hn : 1048576 < n) (ty : Nat) (l q : List WantV) (hl : l.length ≤ 1048576) : tree E0 (n + 1) ty 94 [rowsC encWant l, rowsC encWant q] = some (.sc (.bool (eqList eqWant l q))) := by
 rw [tree_def, f94_eq, f94]
 simp only [PR_len, PR_bin, PR_cond]
 rw [len_ro, len_ro, neq_nat, cond_b, eqList]
 by_cases h : l.length = q.length
 ·rw [if_neg (by simpa using h), if_pos h]
  rw [len_ro]
  have key := eqv_loop (β := AV) encWant (lenWant) (by decide) (fun x => .agg (encWant x)) (fun p k => pLoad true 2 p [] k) (fun x r k => ld_rp 2 _ _ [] k (lenWant x)) (fun x y k => pBinA .neq [1, 0] x y k) eqWant (fun x y k => binA_ne _ _ _ _ (cellsWant x y) k) l q h hl (fun m i => f94_l0 (PR n AV) n (fun x H => ownTree ti0 E0.tp ty H x) m (rowsC encWant l) (rowsC encWant q) (.sc (.int .i64 l.length)) i []) (some (.sc (.bool false))) (some (.sc (.bool true))) (fun m i => rfl) l q [] [] n rfl rfl rfl (by omega)
  simp only [List.length_nil, Int.natCast_zero] at key
  refine key.trans ?_
  cases all2 eqWant l q <;> rfl
 ·rw [if_pos (by simpa using h), if_neg h]
  rfl
theorem equalStrs (n : Nat) (hn : 1048576 < n) (ty : Nat) (l q : List ByteArray) (hl : l.length ≤ 1048576) : tree E0 (n + 1) ty 95 [strsC l, strsC q] = some (.sc (.bool (eqList eqSt l q))) := by
 rw [strs_rows, strs_rows]
 rw [tree_def, f95_eq, f95]
 simp only [PR_len, PR_bin, PR_cond]
 rw [len_ro, len_ro, neq_nat, cond_b, eqList]
 by_cases h : l.length = q.length
 ·rw [if_neg (by simpa using h), if_pos h]
  rw [len_ro]
  have key := eqv_loop (β := AV) encS (fun _ => rfl) (by decide) (fun z => .sc (.string z)) (fun p k => pLoad false 1 p [] k) (fun x r k => ldS x r [] k) (fun x y k => pBin .neq x y k) eqSt (fun x y k => neS x y k) l q h hl (fun m i => f95_l0 (PR n AV) n (fun x H => ownTree ti0 E0.tp ty H x) m (rowsC encS l) (rowsC encS q) (.sc (.int .i64 l.length)) i []) (some (.sc (.bool false))) (some (.sc (.bool true))) (fun m i => rfl) l q [] [] n rfl rfl rfl (by omega)
  simp only [List.length_nil, Int.natCast_zero] at key
  refine key.trans ?_
  cases all2 eqSt l q <;> rfl
 ·rw [if_pos (by simpa using h), if_neg h]
  rfl
theorem equalInts (n : Nat) (hn : 1048576 < n) (ty : Nat) (l q : List Int) (hl : l.length ≤ 1048576) : tree E0 (n + 1) ty 96 [intsC l, intsC q] = some (.sc (.bool (eqList eqI l q))) := by
 rw [ints_rows, ints_rows]
 rw [tree_def, f96_eq, f96]
 simp only [PR_len, PR_bin, PR_cond]
 rw [len_ro, len_ro, neq_nat, cond_b, eqList]
 by_cases h : l.length = q.length
 ·rw [if_neg (by simpa using h), if_pos h]
  rw [len_ro]
  have key := eqv_loop (β := AV) encI (fun _ => rfl) (by decide) (fun z => .sc (.int .i64 z)) (fun p k => pLoad false 1 p [] k) (fun x r k => ldI x r [] k) (fun x y k => pBin .neq x y k) eqI (fun x y k => neI x y k) l q h hl (fun m i => f96_l0 (PR n AV) n (fun x H => ownTree ti0 E0.tp ty H x) m (rowsC encI l) (rowsC encI q) (.sc (.int .i64 l.length)) i []) (some (.sc (.bool false))) (some (.sc (.bool true))) (fun m i => rfl) l q [] [] n rfl rfl rfl (by omega)
  simp only [List.length_nil, Int.natCast_zero] at key
  refine key.trans ?_
  cases all2 eqI l q <;> rfl
 ·rw [if_pos (by simpa using h), if_neg h]
  rfl
def vPkChain (a b : PacketV) : Bool := (a.fType == b.fType) && (a.fDup == b.fDup) && (a.fQos == b.fQos) && (a.fRetain == b.fRetain) && (a.fId == b.fId) && (a.fTopic.toList == b.fTopic.toList) && (a.fBody.toList == b.fBody.toList) && (a.fClient.toList == b.fClient.toList) && (a.fLevel == b.fLevel) && (a.fClean == b.fClean) && (a.fKeep == b.fKeep) && (a.fHasWill == b.fHasWill) && (a.fWTopic.toList == b.fWTopic.toList) && (a.fWBody.toList == b.fWBody.toList) && (a.fWQos == b.fWQos) && (a.fWRetain == b.fWRetain) && (a.fHasUser == b.fHasUser) && (a.fUser.toList == b.fUser.toList) && (a.fHasPass == b.fHasPass) && (a.fPass.toList == b.fPass.toList) && (a.fCode == b.fCode) && (a.fPresent == b.fPresent)
def vPkLists (a b : PacketV) : Bool := eqList eqWant a.fWants b.fWants && eqList eqSt a.fNames b.fNames && eqList eqI a.fCodes b.fCodes
def vSamePacket (a b : PacketV) : Bool := vPkLists a b && vPkChain a b
theorem pkLoop2 (n : Nat) (hn : 1048576 < n) (ty : Nat) (a b : PacketV) (H : Heap) (i1 i2 : Nat) (B1 : H[i1]? = some ⟨encPacket a, true, true⟩) (B2 : H[i2]? = some ⟨encPacket b, true, true⟩) (hl2 : a.fCodes.length ≤ 1048576) (hq2 : a.fCodes.length = b.fCodes.length) : f78_l2 (PR (n + 1) AV) (n + 1) (fun x H => ownTree ti0 E0.tp ty H x) (n + 1) (.ptr i1 0) (.ptr i2 0) (.sc (.int .i64 0)) H = some (.sc (.bool (if all2 eqI a.fCodes b.fCodes then (vPkChain a b) else false))) := by
 have hL : ∀ m i, f78_l2 (PR (n + 1) AV) (n + 1) (fun x H => ownTree ti0 E0.tp ty H x) (m + 1) (.ptr i1 0) (.ptr i2 0) i H = pBin .lss i (.sc (.int .i64 a.fCodes.length)) fun t14 => pCond t14 (pIadr 1 (rowsC encI a.fCodes) i fun t19 => pLoad false 1 t19 H fun t20 => pIadr 1 (rowsC encI b.fCodes) i fun t23 => pLoad false 1 t23 H fun t24 => (fun x y k => pBin .neq x y k) t20 t24 fun t25 => pCond t25 (some (.sc (.bool false))) (pBin .add i (.sc (.int .i64 1)) fun t16 => f78_l2 (PR (n + 1) AV) (n + 1) (fun x H => ownTree ti0 E0.tp ty H x) m (.ptr i1 0) (.ptr i2 0) t16 H)) (some (.sc (.bool (vPkChain a b)))) := by
  intro m i
  show (PR (n + 1) AV).fadr 24 (.ptr i1 0) _ = _
  simp only [PR_fadr, PR_load, PR_bin, PR_binB, PR_binA, PR_cond, PR_guard, PR_pick, PR_len, PR_iadr]
  refine w_fadr ?_
  refine w_ld (c := intsC a.fCodes) B1 (Nat.le_of_ble_eq_true rfl) rfl ?_
  refine w_len ?_
  congr 1
  funext t
  congr 1
  ·refine w_fadr ?_
   refine w_ld (c := intsC a.fCodes) B1 (Nat.le_of_ble_eq_true rfl) rfl ?_
   rw [ints_rows]
   congr 1
   funext t2
   congr 1
   funext t3
   refine w_fadr ?_
   refine w_ld (c := intsC b.fCodes) B2 (Nat.le_of_ble_eq_true rfl) rfl ?_
   rw [ints_rows]
   rfl
  ·skip
   refine w_fadr ?_
   refine w_ld (c := .sc (.int .i64 a.fType)) B1 (Nat.le_of_ble_eq_true rfl) rfl ?_
   refine w_fadr ?_
   refine w_ld (c := .sc (.int .i64 b.fType)) B2 (Nat.le_of_ble_eq_true rfl) rfl ?_
   refine w_bin (v := .sc (.bool (a.fType == b.fType))) (fun k => rfl) ?_
   apply w_merge ((a.fType == b.fType) && (a.fDup == b.fDup))
   ·intro b1 q1
    refine w_split ((a.fType == b.fType)) (fun h1 => ?_) (fun h1 => ?_)
    ·refine w_gT h1 ?_
     refine w_fadr ?_
     refine w_gT h1 ?_
     refine w_ld (c := .sc (.bool a.fDup)) B1 (Nat.le_of_ble_eq_true rfl) rfl ?_
     refine w_gT h1 ?_
     refine w_fadr ?_
     refine w_gT h1 ?_
     refine w_ld (c := .sc (.bool b.fDup)) B2 (Nat.le_of_ble_eq_true rfl) rfl ?_
     refine w_gT h1 ?_
     refine w_binB (v := .sc (.bool (a.fDup == b.fDup))) (fun k => rfl) ?_
     refine w_pTb h1 (mAT q1 h1) ?_
     exact rfl
    ·refine w_gF h1 ?_
     refine w_gF h1 ?_
     refine w_gF h1 ?_
     refine w_gF h1 ?_
     refine w_gF h1 ?_
     refine w_pFb h1 (mAF q1 h1) ?_
     exact rfl
   intro b1 q1
   apply w_merge (b1 && (a.fQos == b.fQos))
   ·intro b2 q2
    refine w_split (b1) (fun h2 => ?_) (fun h2 => ?_)
    ·refine w_gT h2 ?_
     refine w_fadr ?_
     refine w_gT h2 ?_
     refine w_ld (c := .sc (.int .i64 a.fQos)) B1 (Nat.le_of_ble_eq_true rfl) rfl ?_
     refine w_gT h2 ?_
     refine w_fadr ?_
     refine w_gT h2 ?_
     refine w_ld (c := .sc (.int .i64 b.fQos)) B2 (Nat.le_of_ble_eq_true rfl) rfl ?_
     refine w_gT h2 ?_
     refine w_bin (v := .sc (.bool (a.fQos == b.fQos))) (fun k => rfl) ?_
     refine w_pTb h2 (mAT q2 h2) ?_
     exact rfl
    ·refine w_gF h2 ?_
     refine w_gF h2 ?_
     refine w_gF h2 ?_
     refine w_gF h2 ?_
     refine w_gF h2 ?_
     refine w_pFb h2 (mAF q2 h2) ?_
     exact rfl
   intro b2 q2
   apply w_merge (b2 && (a.fRetain == b.fRetain))
   ·intro b3 q3
    refine w_split (b2) (fun h3 => ?_) (fun h3 => ?_)
    ·refine w_gT h3 ?_
     refine w_fadr ?_
     refine w_gT h3 ?_
     refine w_ld (c := .sc (.bool a.fRetain)) B1 (Nat.le_of_ble_eq_true rfl) rfl ?_
     refine w_gT h3 ?_
     refine w_fadr ?_
     refine w_gT h3 ?_
     refine w_ld (c := .sc (.bool b.fRetain)) B2 (Nat.le_of_ble_eq_true rfl) rfl ?_
     refine w_gT h3 ?_
     refine w_binB (v := .sc (.bool (a.fRetain == b.fRetain))) (fun k => rfl) ?_
     refine w_pTb h3 (mAT q3 h3) ?_
     exact rfl
    ·refine w_gF h3 ?_
     refine w_gF h3 ?_
     refine w_gF h3 ?_
     refine w_gF h3 ?_
     refine w_gF h3 ?_
     refine w_pFb h3 (mAF q3 h3) ?_
     exact rfl
   intro b3 q3
   apply w_merge (b3 && (a.fId == b.fId))
   ·intro b4 q4
    refine w_split (b3) (fun h4 => ?_) (fun h4 => ?_)
    ·refine w_gT h4 ?_
     refine w_fadr ?_
     refine w_gT h4 ?_
     refine w_ld (c := .sc (.int .i64 a.fId)) B1 (Nat.le_of_ble_eq_true rfl) rfl ?_
     refine w_gT h4 ?_
     refine w_fadr ?_
     refine w_gT h4 ?_
     refine w_ld (c := .sc (.int .i64 b.fId)) B2 (Nat.le_of_ble_eq_true rfl) rfl ?_
     refine w_gT h4 ?_
     refine w_bin (v := .sc (.bool (a.fId == b.fId))) (fun k => rfl) ?_
     refine w_pTb h4 (mAT q4 h4) ?_
     exact rfl
    ·refine w_gF h4 ?_
     refine w_gF h4 ?_
     refine w_gF h4 ?_
     refine w_gF h4 ?_
     refine w_gF h4 ?_
     refine w_pFb h4 (mAF q4 h4) ?_
     exact rfl
   intro b4 q4
   apply w_merge (b4 && (a.fTopic.toList == b.fTopic.toList))
   ·intro b5 q5
    refine w_split (b4) (fun h5 => ?_) (fun h5 => ?_)
    ·refine w_gT h5 ?_
     refine w_fadr ?_
     refine w_gT h5 ?_
     refine w_ld (c := .sc (.string a.fTopic)) B1 (Nat.le_of_ble_eq_true rfl) rfl ?_
     refine w_gT h5 ?_
     refine w_fadr ?_
     refine w_gT h5 ?_
     refine w_ld (c := .sc (.string b.fTopic)) B2 (Nat.le_of_ble_eq_true rfl) rfl ?_
     refine w_gT h5 ?_
     refine w_bin (v := .sc (.bool (a.fTopic.toList == b.fTopic.toList))) (fun k => rfl) ?_
     refine w_pTb h5 (mAT q5 h5) ?_
     exact rfl
    ·refine w_gF h5 ?_
     refine w_gF h5 ?_
     refine w_gF h5 ?_
     refine w_gF h5 ?_
     refine w_gF h5 ?_
     refine w_pFb h5 (mAF q5 h5) ?_
     exact rfl
   intro b5 q5
   apply w_merge (b5 && (a.fBody.toList == b.fBody.toList))
   ·intro b6 q6
    refine w_split (b5) (fun h6 => ?_) (fun h6 => ?_)
    ·refine w_gT h6 ?_
     refine w_fadr ?_
     refine w_gT h6 ?_
     refine w_ld (c := bytesC a.fBody) B1 (Nat.le_of_ble_eq_true rfl) rfl ?_
     refine w_gT h6 ?_
     refine w_fadr ?_
     refine w_gT h6 ?_
     refine w_ld (c := bytesC b.fBody) B2 (Nat.le_of_ble_eq_true rfl) rfl ?_
     refine w_gT h6 ?_
     refine lw_sc rfl (vcons (Vw_ro _ _ _) (vcons (Vw_ro _ _ _) vnil)) (l1SameF (n + 0) _ a.fBody b.fBody) ?_
     refine w_pTb h6 (mAT q6 h6) ?_
     exact rfl
    ·refine w_gF h6 ?_
     refine w_gF h6 ?_
     refine w_gF h6 ?_
     refine w_gF h6 ?_
     refine w_gF h6 ?_
     refine w_pFb h6 (mAF q6 h6) ?_
     exact rfl
   intro b6 q6
   apply w_merge (b6 && (a.fClient.toList == b.fClient.toList))
   ·intro b7 q7
    refine w_split (b6) (fun h7 => ?_) (fun h7 => ?_)
    ·refine w_gT h7 ?_
     refine w_fadr ?_
     refine w_gT h7 ?_
     refine w_ld (c := .sc (.string a.fClient)) B1 (Nat.le_of_ble_eq_true rfl) rfl ?_
     refine w_gT h7 ?_
     refine w_fadr ?_
     refine w_gT h7 ?_
     refine w_ld (c := .sc (.string b.fClient)) B2 (Nat.le_of_ble_eq_true rfl) rfl ?_
     refine w_gT h7 ?_
     refine w_bin (v := .sc (.bool (a.fClient.toList == b.fClient.toList))) (fun k => rfl) ?_
     refine w_pTb h7 (mAT q7 h7) ?_
     exact rfl
    ·refine w_gF h7 ?_
     refine w_gF h7 ?_
     refine w_gF h7 ?_
     refine w_gF h7 ?_
     refine w_gF h7 ?_
     refine w_pFb h7 (mAF q7 h7) ?_
     exact rfl
   intro b7 q7
   apply w_merge (b7 && (a.fLevel == b.fLevel))
   ·intro b8 q8
    refine w_split (b7) (fun h8 => ?_) (fun h8 => ?_)
    ·refine w_gT h8 ?_
     refine w_fadr ?_
     refine w_gT h8 ?_
     refine w_ld (c := .sc (.int .i64 a.fLevel)) B1 (Nat.le_of_ble_eq_true rfl) rfl ?_
     refine w_gT h8 ?_
     refine w_fadr ?_
     refine w_gT h8 ?_
     refine w_ld (c := .sc (.int .i64 b.fLevel)) B2 (Nat.le_of_ble_eq_true rfl) rfl ?_
     refine w_gT h8 ?_
     refine w_bin (v := .sc (.bool (a.fLevel == b.fLevel))) (fun k => rfl) ?_
     refine w_pTb h8 (mAT q8 h8) ?_
     exact rfl
    ·refine w_gF h8 ?_
     refine w_gF h8 ?_
     refine w_gF h8 ?_
     refine w_gF h8 ?_
     refine w_gF h8 ?_
     refine w_pFb h8 (mAF q8 h8) ?_
     exact rfl
   intro b8 q8
   apply w_merge (b8 && (a.fClean == b.fClean))
   ·intro b9 q9
    refine w_split (b8) (fun h9 => ?_) (fun h9 => ?_)
    ·refine w_gT h9 ?_
     refine w_fadr ?_
     refine w_gT h9 ?_
     refine w_ld (c := .sc (.bool a.fClean)) B1 (Nat.le_of_ble_eq_true rfl) rfl ?_
     refine w_gT h9 ?_
     refine w_fadr ?_
     refine w_gT h9 ?_
     refine w_ld (c := .sc (.bool b.fClean)) B2 (Nat.le_of_ble_eq_true rfl) rfl ?_
     refine w_gT h9 ?_
     refine w_binB (v := .sc (.bool (a.fClean == b.fClean))) (fun k => rfl) ?_
     refine w_pTb h9 (mAT q9 h9) ?_
     exact rfl
    ·refine w_gF h9 ?_
     refine w_gF h9 ?_
     refine w_gF h9 ?_
     refine w_gF h9 ?_
     refine w_gF h9 ?_
     refine w_pFb h9 (mAF q9 h9) ?_
     exact rfl
   intro b9 q9
   apply w_merge (b9 && (a.fKeep == b.fKeep))
   ·intro b10 q10
    refine w_split (b9) (fun h10 => ?_) (fun h10 => ?_)
    ·refine w_gT h10 ?_
     refine w_fadr ?_
     refine w_gT h10 ?_
     refine w_ld (c := .sc (.int .i64 a.fKeep)) B1 (Nat.le_of_ble_eq_true rfl) rfl ?_
     refine w_gT h10 ?_
     refine w_fadr ?_
     refine w_gT h10 ?_
     refine w_ld (c := .sc (.int .i64 b.fKeep)) B2 (Nat.le_of_ble_eq_true rfl) rfl ?_
     refine w_gT h10 ?_
     refine w_bin (v := .sc (.bool (a.fKeep == b.fKeep))) (fun k => rfl) ?_
     refine w_pTb h10 (mAT q10 h10) ?_
     exact rfl
    ·refine w_gF h10 ?_
     refine w_gF h10 ?_
     refine w_gF h10 ?_
     refine w_gF h10 ?_
     refine w_gF h10 ?_
     refine w_pFb h10 (mAF q10 h10) ?_
     exact rfl
   intro b10 q10
   apply w_merge (b10 && (a.fHasWill == b.fHasWill))
   ·intro b11 q11
    refine w_split (b10) (fun h11 => ?_) (fun h11 => ?_)
    ·refine w_gT h11 ?_
     refine w_fadr ?_
     refine w_gT h11 ?_
     refine w_ld (c := .sc (.bool a.fHasWill)) B1 (Nat.le_of_ble_eq_true rfl) rfl ?_
     refine w_gT h11 ?_
     refine w_fadr ?_
     refine w_gT h11 ?_
     refine w_ld (c := .sc (.bool b.fHasWill)) B2 (Nat.le_of_ble_eq_true rfl) rfl ?_
     refine w_gT h11 ?_
     refine w_binB (v := .sc (.bool (a.fHasWill == b.fHasWill))) (fun k => rfl) ?_
     refine w_pTb h11 (mAT q11 h11) ?_
     exact rfl
    ·refine w_gF h11 ?_
     refine w_gF h11 ?_
     refine w_gF h11 ?_
     refine w_gF h11 ?_
     refine w_gF h11 ?_
     refine w_pFb h11 (mAF q11 h11) ?_
     exact rfl
   intro b11 q11
   apply w_merge (b11 && (a.fWTopic.toList == b.fWTopic.toList))
   ·intro b12 q12
    refine w_split (b11) (fun h12 => ?_) (fun h12 => ?_)
    ·refine w_gT h12 ?_
     refine w_fadr ?_
     refine w_gT h12 ?_
     refine w_ld (c := .sc (.string a.fWTopic)) B1 (Nat.le_of_ble_eq_true rfl) rfl ?_
     refine w_gT h12 ?_
     refine w_fadr ?_
     refine w_gT h12 ?_
     refine w_ld (c := .sc (.string b.fWTopic)) B2 (Nat.le_of_ble_eq_true rfl) rfl ?_
     refine w_gT h12 ?_
     refine w_bin (v := .sc (.bool (a.fWTopic.toList == b.fWTopic.toList))) (fun k => rfl) ?_
     refine w_pTb h12 (mAT q12 h12) ?_
     exact rfl
    ·refine w_gF h12 ?_
     refine w_gF h12 ?_
     refine w_gF h12 ?_
     refine w_gF h12 ?_
     refine w_gF h12 ?_
     refine w_pFb h12 (mAF q12 h12) ?_
     exact rfl
   intro b12 q12
   apply w_merge (b12 && (a.fWBody.toList == b.fWBody.toList))
   ·intro b13 q13
    refine w_split (b12) (fun h13 => ?_) (fun h13 => ?_)
    ·refine w_gT h13 ?_
     refine w_fadr ?_
     refine w_gT h13 ?_
     refine w_ld (c := bytesC a.fWBody) B1 (Nat.le_of_ble_eq_true rfl) rfl ?_
     refine w_gT h13 ?_
     refine w_fadr ?_
     refine w_gT h13 ?_
     refine w_ld (c := bytesC b.fWBody) B2 (Nat.le_of_ble_eq_true rfl) rfl ?_
     refine w_gT h13 ?_
     refine lw_sc rfl (vcons (Vw_ro _ _ _) (vcons (Vw_ro _ _ _) vnil)) (l1SameF (n + 0) _ a.fWBody b.fWBody) ?_
     refine w_pTb h13 (mAT q13 h13) ?_
     exact rfl
    ·refine w_gF h13 ?_
     refine w_gF h13 ?_
     refine w_gF h13 ?_
     refine w_gF h13 ?_
     refine w_gF h13 ?_
     refine w_pFb h13 (mAF q13 h13) ?_
     exact rfl
   intro b13 q13
   apply w_merge (b13 && (a.fWQos == b.fWQos))
   ·intro b14 q14
    refine w_split (b13) (fun h14 => ?_) (fun h14 => ?_)
    ·refine w_gT h14 ?_
     refine w_fadr ?_
     refine w_gT h14 ?_
     refine w_ld (c := .sc (.int .i64 a.fWQos)) B1 (Nat.le_of_ble_eq_true rfl) rfl ?_
     refine w_gT h14 ?_
     refine w_fadr ?_
     refine w_gT h14 ?_
     refine w_ld (c := .sc (.int .i64 b.fWQos)) B2 (Nat.le_of_ble_eq_true rfl) rfl ?_
     refine w_gT h14 ?_
     refine w_bin (v := .sc (.bool (a.fWQos == b.fWQos))) (fun k => rfl) ?_
     refine w_pTb h14 (mAT q14 h14) ?_
     exact rfl
    ·refine w_gF h14 ?_
     refine w_gF h14 ?_
     refine w_gF h14 ?_
     refine w_gF h14 ?_
     refine w_gF h14 ?_
     refine w_pFb h14 (mAF q14 h14) ?_
     exact rfl
   intro b14 q14
   apply w_merge (b14 && (a.fWRetain == b.fWRetain))
   ·intro b15 q15
    refine w_split (b14) (fun h15 => ?_) (fun h15 => ?_)
    ·refine w_gT h15 ?_
     refine w_fadr ?_
     refine w_gT h15 ?_
     refine w_ld (c := .sc (.bool a.fWRetain)) B1 (Nat.le_of_ble_eq_true rfl) rfl ?_
     refine w_gT h15 ?_
     refine w_fadr ?_
     refine w_gT h15 ?_
     refine w_ld (c := .sc (.bool b.fWRetain)) B2 (Nat.le_of_ble_eq_true rfl) rfl ?_
     refine w_gT h15 ?_
     refine w_binB (v := .sc (.bool (a.fWRetain == b.fWRetain))) (fun k => rfl) ?_
     refine w_pTb h15 (mAT q15 h15) ?_
     exact rfl
    ·refine w_gF h15 ?_
     refine w_gF h15 ?_
     refine w_gF h15 ?_
     refine w_gF h15 ?_
     refine w_gF h15 ?_
     refine w_pFb h15 (mAF q15 h15) ?_
     exact rfl
   intro b15 q15
   apply w_merge (b15 && (a.fHasUser == b.fHasUser))
   ·intro b16 q16
    refine w_split (b15) (fun h16 => ?_) (fun h16 => ?_)
    ·refine w_gT h16 ?_
     refine w_fadr ?_
     refine w_gT h16 ?_
     refine w_ld (c := .sc (.bool a.fHasUser)) B1 (Nat.le_of_ble_eq_true rfl) rfl ?_
     refine w_gT h16 ?_
     refine w_fadr ?_
     refine w_gT h16 ?_
     refine w_ld (c := .sc (.bool b.fHasUser)) B2 (Nat.le_of_ble_eq_true rfl) rfl ?_
     refine w_gT h16 ?_
     refine w_binB (v := .sc (.bool (a.fHasUser == b.fHasUser))) (fun k => rfl) ?_
     refine w_pTb h16 (mAT q16 h16) ?_
     exact rfl
    ·refine w_gF h16 ?_
     refine w_gF h16 ?_
     refine w_gF h16 ?_
     refine w_gF h16 ?_
     refine w_gF h16 ?_
     refine w_pFb h16 (mAF q16 h16) ?_
     exact rfl
   intro b16 q16
   apply w_merge (b16 && (a.fUser.toList == b.fUser.toList))
   ·intro b17 q17
    refine w_split (b16) (fun h17 => ?_) (fun h17 => ?_)
    ·refine w_gT h17 ?_
     refine w_fadr ?_
     refine w_gT h17 ?_
     refine w_ld (c := .sc (.string a.fUser)) B1 (Nat.le_of_ble_eq_true rfl) rfl ?_
     refine w_gT h17 ?_
     refine w_fadr ?_
     refine w_gT h17 ?_
     refine w_ld (c := .sc (.string b.fUser)) B2 (Nat.le_of_ble_eq_true rfl) rfl ?_
     refine w_gT h17 ?_
     refine w_bin (v := .sc (.bool (a.fUser.toList == b.fUser.toList))) (fun k => rfl) ?_
     refine w_pTb h17 (mAT q17 h17) ?_
     exact rfl
    ·refine w_gF h17 ?_
     refine w_gF h17 ?_
     refine w_gF h17 ?_
     refine w_gF h17 ?_
     refine w_gF h17 ?_
     refine w_pFb h17 (mAF q17 h17) ?_
     exact rfl
   intro b17 q17
   apply w_merge (b17 && (a.fHasPass == b.fHasPass))
   ·intro b18 q18
    refine w_split (b17) (fun h18 => ?_) (fun h18 => ?_)
    ·refine w_gT h18 ?_
     refine w_fadr ?_
     refine w_gT h18 ?_
     refine w_ld (c := .sc (.bool a.fHasPass)) B1 (Nat.le_of_ble_eq_true rfl) rfl ?_
     refine w_gT h18 ?_
     refine w_fadr ?_
     refine w_gT h18 ?_
     refine w_ld (c := .sc (.bool b.fHasPass)) B2 (Nat.le_of_ble_eq_true rfl) rfl ?_
     refine w_gT h18 ?_
     refine w_binB (v := .sc (.bool (a.fHasPass == b.fHasPass))) (fun k => rfl) ?_
     refine w_pTb h18 (mAT q18 h18) ?_
     exact rfl
    ·refine w_gF h18 ?_
     refine w_gF h18 ?_
     refine w_gF h18 ?_
     refine w_gF h18 ?_
     refine w_gF h18 ?_
     refine w_pFb h18 (mAF q18 h18) ?_
     exact rfl
   intro b18 q18
   apply w_merge (b18 && (a.fPass.toList == b.fPass.toList))
   ·intro b19 q19
    refine w_split (b18) (fun h19 => ?_) (fun h19 => ?_)
    ·refine w_gT h19 ?_
     refine w_fadr ?_
     refine w_gT h19 ?_
     refine w_ld (c := bytesC a.fPass) B1 (Nat.le_of_ble_eq_true rfl) rfl ?_
     refine w_gT h19 ?_
     refine w_fadr ?_
     refine w_gT h19 ?_
     refine w_ld (c := bytesC b.fPass) B2 (Nat.le_of_ble_eq_true rfl) rfl ?_
     refine w_gT h19 ?_
     refine lw_sc rfl (vcons (Vw_ro _ _ _) (vcons (Vw_ro _ _ _) vnil)) (l1SameF (n + 0) _ a.fPass b.fPass) ?_
     refine w_pTb h19 (mAT q19 h19) ?_
     exact rfl
    ·refine w_gF h19 ?_
     refine w_gF h19 ?_
     refine w_gF h19 ?_
     refine w_gF h19 ?_
     refine w_gF h19 ?_
     refine w_pFb h19 (mAF q19 h19) ?_
     exact rfl
   intro b19 q19
   apply w_merge (b19 && (a.fCode == b.fCode))
   ·intro b20 q20
    refine w_split (b19) (fun h20 => ?_) (fun h20 => ?_)
    ·refine w_gT h20 ?_
     refine w_fadr ?_
     refine w_gT h20 ?_
     refine w_ld (c := .sc (.int .i64 a.fCode)) B1 (Nat.le_of_ble_eq_true rfl) rfl ?_
     refine w_gT h20 ?_
     refine w_fadr ?_
     refine w_gT h20 ?_
     refine w_ld (c := .sc (.int .i64 b.fCode)) B2 (Nat.le_of_ble_eq_true rfl) rfl ?_
     refine w_gT h20 ?_
     refine w_bin (v := .sc (.bool (a.fCode == b.fCode))) (fun k => rfl) ?_
     refine w_pTb h20 (mAT q20 h20) ?_
     exact rfl
    ·refine w_gF h20 ?_
     refine w_gF h20 ?_
     refine w_gF h20 ?_
     refine w_gF h20 ?_
     refine w_gF h20 ?_
     refine w_pFb h20 (mAF q20 h20) ?_
     exact rfl
   intro b20 q20
   apply w_merge (b20 && (a.fPresent == b.fPresent))
   ·intro b21 q21
    refine w_split (b20) (fun h21 => ?_) (fun h21 => ?_)
    ·refine w_gT h21 ?_
     refine w_fadr ?_
     refine w_gT h21 ?_
     refine w_ld (c := .sc (.bool a.fPresent)) B1 (Nat.le_of_ble_eq_true rfl) rfl ?_
     refine w_gT h21 ?_
     refine w_fadr ?_
     refine w_gT h21 ?_
     refine w_ld (c := .sc (.bool b.fPresent)) B2 (Nat.le_of_ble_eq_true rfl) rfl ?_
     refine w_gT h21 ?_
     refine w_binB (v := .sc (.bool (a.fPresent == b.fPresent))) (fun k => rfl) ?_
     refine w_pTb h21 (mAT q21 h21) ?_
     exact rfl
    ·refine w_gF h21 ?_
     refine w_gF h21 ?_
     refine w_gF h21 ?_
     refine w_gF h21 ?_
     refine w_gF h21 ?_
     refine w_pFb h21 (mAF q21 h21) ?_
     exact rfl
   intro b21 q21
   subst_vars; rfl
 have key := eqv_loop (β := AV) encI (fun _ => rfl) (by decide) (fun z => .sc (.int .i64 z)) (fun p k => pLoad false 1 p H k) (fun x r k => ldI x r H k) (fun x y k => pBin .neq x y k) eqI (fun x y k => neI x y k) a.fCodes b.fCodes hq2 hl2 (fun m i => f78_l2 (PR (n + 1) AV) (n + 1) (fun x H => ownTree ti0 E0.tp ty H x) m (.ptr i1 0) (.ptr i2 0) i H) (some (.sc (.bool false))) (some (.sc (.bool (vPkChain a b)))) hL a.fCodes b.fCodes [] [] (n + 1) rfl rfl rfl (by omega)
 simp only [List.length_nil, Int.natCast_zero] at key
 refine key.trans ?_
 cases all2 eqI a.fCodes b.fCodes <;> rfl
theorem pkLoop1 (n : Nat) (hn : 1048576 < n) (ty : Nat) (a b : PacketV) (H : Heap) (i1 i2 : Nat) (B1 : H[i1]? = some ⟨encPacket a, true, true⟩) (B2 : H[i2]? = some ⟨encPacket b, true, true⟩) (hl1 : a.fNames.length ≤ 1048576) (hq1 : a.fNames.length = b.fNames.length) (hl2 : a.fCodes.length ≤ 1048576) (hq2 : a.fCodes.length = b.fCodes.length) : f78_l1 (PR (n + 1) AV) (n + 1) (fun x H => ownTree ti0 E0.tp ty H x) (n + 1) (.ptr i1 0) (.ptr i2 0) (.sc (.int .i64 0)) H = some (.sc (.bool (if all2 eqSt a.fNames b.fNames then (if all2 eqI a.fCodes b.fCodes then (vPkChain a b) else false) else false))) := by
 have hL : ∀ m i, f78_l1 (PR (n + 1) AV) (n + 1) (fun x H => ownTree ti0 E0.tp ty H x) (m + 1) (.ptr i1 0) (.ptr i2 0) i H = pBin .lss i (.sc (.int .i64 a.fNames.length)) fun t14 => pCond t14 (pIadr 1 (rowsC encS a.fNames) i fun t19 => pLoad false 1 t19 H fun t20 => pIadr 1 (rowsC encS b.fNames) i fun t23 => pLoad false 1 t23 H fun t24 => (fun x y k => pBin .neq x y k) t20 t24 fun t25 => pCond t25 (some (.sc (.bool false))) (pBin .add i (.sc (.int .i64 1)) fun t16 => f78_l1 (PR (n + 1) AV) (n + 1) (fun x H => ownTree ti0 E0.tp ty H x) m (.ptr i1 0) (.ptr i2 0) t16 H)) (some (.sc (.bool (if all2 eqI a.fCodes b.fCodes then (vPkChain a b) else false)))) := by
  intro m i
  show (PR (n + 1) AV).fadr 23 (.ptr i1 0) _ = _
  simp only [PR_fadr, PR_load, PR_bin, PR_binB, PR_binA, PR_cond, PR_guard, PR_pick, PR_len, PR_iadr]
  refine w_fadr ?_
  refine w_ld (c := strsC a.fNames) B1 (Nat.le_of_ble_eq_true rfl) rfl ?_
  refine w_len ?_
  congr 1
  funext t
  congr 1
  ·refine w_fadr ?_
   refine w_ld (c := strsC a.fNames) B1 (Nat.le_of_ble_eq_true rfl) rfl ?_
   rw [strs_rows]
   congr 1
   funext t2
   congr 1
   funext t3
   refine w_fadr ?_
   refine w_ld (c := strsC b.fNames) B2 (Nat.le_of_ble_eq_true rfl) rfl ?_
   rw [strs_rows]
   rfl
  ·skip
   exact pkLoop2 n hn ty a b H i1 i2 B1 B2 hl2 hq2
 have key := eqv_loop (β := AV) encS (fun _ => rfl) (by decide) (fun z => .sc (.string z)) (fun p k => pLoad false 1 p H k) (fun x r k => ldS x r H k) (fun x y k => pBin .neq x y k) eqSt (fun x y k => neS x y k) a.fNames b.fNames hq1 hl1 (fun m i => f78_l1 (PR (n + 1) AV) (n + 1) (fun x H => ownTree ti0 E0.tp ty H x) m (.ptr i1 0) (.ptr i2 0) i H) (some (.sc (.bool false))) (some (.sc (.bool (if all2 eqI a.fCodes b.fCodes then (vPkChain a b) else false)))) hL a.fNames b.fNames [] [] (n + 1) rfl rfl rfl (by omega)
 simp only [List.length_nil, Int.natCast_zero] at key
 refine key.trans ?_
 cases all2 eqSt a.fNames b.fNames <;> rfl
theorem pkLoop0 (n : Nat) (hn : 1048576 < n) (ty : Nat) (a b : PacketV) (H : Heap) (i1 i2 : Nat) (B1 : H[i1]? = some ⟨encPacket a, true, true⟩) (B2 : H[i2]? = some ⟨encPacket b, true, true⟩) (hl0 : a.fWants.length ≤ 1048576) (hq0 : a.fWants.length = b.fWants.length) (hl1 : a.fNames.length ≤ 1048576) (hq1 : a.fNames.length = b.fNames.length) (hl2 : a.fCodes.length ≤ 1048576) (hq2 : a.fCodes.length = b.fCodes.length) : f78_l0 (PR (n + 1) AV) (n + 1) (fun x H => ownTree ti0 E0.tp ty H x) (n + 1) (.ptr i1 0) (.ptr i2 0) (.sc (.int .i64 0)) H = some (.sc (.bool (if all2 eqWant a.fWants b.fWants then (if all2 eqSt a.fNames b.fNames then (if all2 eqI a.fCodes b.fCodes then (vPkChain a b) else false) else false) else false))) := by
 have hL : ∀ m i, f78_l0 (PR (n + 1) AV) (n + 1) (fun x H => ownTree ti0 E0.tp ty H x) (m + 1) (.ptr i1 0) (.ptr i2 0) i H = pBin .lss i (.sc (.int .i64 a.fWants.length)) fun t14 => pCond t14 (pIadr 2 (rowsC encWant a.fWants) i fun t19 => pLoad true 2 t19 H fun t20 => pIadr 2 (rowsC encWant b.fWants) i fun t23 => pLoad true 2 t23 H fun t24 => (fun x y k => pBinA .neq [1, 0] x y k) t20 t24 fun t25 => pCond t25 (some (.sc (.bool false))) (pBin .add i (.sc (.int .i64 1)) fun t16 => f78_l0 (PR (n + 1) AV) (n + 1) (fun x H => ownTree ti0 E0.tp ty H x) m (.ptr i1 0) (.ptr i2 0) t16 H)) (some (.sc (.bool (if all2 eqSt a.fNames b.fNames then (if all2 eqI a.fCodes b.fCodes then (vPkChain a b) else false) else false)))) := by
  intro m i
  show (PR (n + 1) AV).fadr 22 (.ptr i1 0) _ = _
  simp only [PR_fadr, PR_load, PR_bin, PR_binB, PR_binA, PR_cond, PR_guard, PR_pick, PR_len, PR_iadr]
  refine w_fadr ?_
  refine w_ld (c := rowsC encWant a.fWants) B1 (Nat.le_of_ble_eq_true rfl) rfl ?_
  refine w_len ?_
  congr 1
  funext t
  congr 1
  ·refine w_fadr ?_
   refine w_ld (c := rowsC encWant a.fWants) B1 (Nat.le_of_ble_eq_true rfl) rfl ?_
   congr 1
   funext t2
   congr 1
   funext t3
   refine w_fadr ?_
   refine w_ld (c := rowsC encWant b.fWants) B2 (Nat.le_of_ble_eq_true rfl) rfl ?_
   rfl
  ·skip
   exact pkLoop1 n hn ty a b H i1 i2 B1 B2 hl1 hq1 hl2 hq2
 have key := eqv_loop (β := AV) encWant (lenWant) (by decide) (fun x => .agg (encWant x)) (fun p k => pLoad true 2 p H k) (fun x r k => ld_rp 2 _ _ H k (lenWant x)) (fun x y k => pBinA .neq [1, 0] x y k) eqWant (fun x y k => binA_ne _ _ _ _ (cellsWant x y) k) a.fWants b.fWants hq0 hl0 (fun m i => f78_l0 (PR (n + 1) AV) (n + 1) (fun x H => ownTree ti0 E0.tp ty H x) m (.ptr i1 0) (.ptr i2 0) i H) (some (.sc (.bool false))) (some (.sc (.bool (if all2 eqSt a.fNames b.fNames then (if all2 eqI a.fCodes b.fCodes then (vPkChain a b) else false) else false)))) hL a.fWants b.fWants [] [] (n + 1) rfl rfl rfl (by omega)
 simp only [List.length_nil, Int.natCast_zero] at key
 refine key.trans ?_
 cases all2 eqWant a.fWants b.fWants <;> rfl
theorem specSamePacketF (n : Nat) (hn : 1048576 < n) (ty : Nat) (a : PacketV) (b : PacketV) (hl0 : a.fWants.length ≤ 1048576) (hl1 : a.fNames.length ≤ 1048576) (hl2 : a.fCodes.length ≤ 1048576) : tree E0 (n + 2) ty 78 [.agg (encPacket a), .agg (encPacket b)] = some (.sc (.bool (vSamePacket a b))) := by
 rw [tree_def, f78_eq, f78]
 try simp only [PR_box, PR_new, PR_fadr, PR_load, PR_store, PR_bin, PR_binB, PR_binA, PR_un, PR_cond, PR_guard, PR_pick, PR_len, PR_lenS, PR_iadr, PR_idx, PR_slice, PR_sliceS, PR_newSl, PR_fill, PR_make, PR_app, PR_cvI, PR_cvBS]
 refine w_box (flPacket _) fun iB1 eB1 B1 => ?_
 refine w_box (flPacket _) fun iB2 eB2 B2 => ?_
 replace B1 := blk_grow B1 [⟨encPacket b, true, true⟩]
 refine w_fadr ?_
 refine w_ld (c := rowsC encWant a.fWants) B1 (Nat.le_of_ble_eq_true rfl) rfl ?_
 refine w_len ?_
 refine w_fadr ?_
 refine w_ld (c := rowsC encWant b.fWants) B2 (Nat.le_of_ble_eq_true rfl) rfl ?_
 refine w_len ?_
 refine w_bin (v := .sc (.bool ((a.fWants.length : Int) != (b.fWants.length : Int)))) (fun k => rfl) ?_
 apply w_merge (((a.fWants.length : Int) != (b.fWants.length : Int)) || ((a.fNames.length : Int) != (b.fNames.length : Int)))
 ·intro b3 q3
  refine w_split (((a.fWants.length : Int) != (b.fWants.length : Int))) (fun h3 => ?_) (fun h3 => ?_)
  ·refine w_hF h3 ?_
   refine w_hF h3 ?_
   refine w_hF h3 ?_
   refine w_hF h3 ?_
   refine w_hF h3 ?_
   refine w_hF h3 ?_
   refine w_hF h3 ?_
   refine w_pTb h3 (mOT q3 h3) ?_
   exact rfl
  ·refine w_hT h3 ?_
   refine w_fadr ?_
   refine w_hT h3 ?_
   refine w_ld (c := strsC a.fNames) B1 (Nat.le_of_ble_eq_true rfl) rfl ?_
   refine w_hT h3 ?_
   refine w_len ?_
   refine w_hT h3 ?_
   refine w_fadr ?_
   refine w_hT h3 ?_
   refine w_ld (c := strsC b.fNames) B2 (Nat.le_of_ble_eq_true rfl) rfl ?_
   refine w_hT h3 ?_
   refine w_len ?_
   refine w_hT h3 ?_
   refine w_bin (v := .sc (.bool ((a.fNames.length : Int) != (b.fNames.length : Int)))) (fun k => rfl) ?_
   refine w_pFb h3 (mOF q3 h3) ?_
   exact rfl
 intro b3 q3
 apply w_merge (b3 || ((a.fCodes.length : Int) != (b.fCodes.length : Int)))
 ·intro b4 q4
  refine w_split (b3) (fun h4 => ?_) (fun h4 => ?_)
  ·refine w_hF h4 ?_
   refine w_hF h4 ?_
   refine w_hF h4 ?_
   refine w_hF h4 ?_
   refine w_hF h4 ?_
   refine w_hF h4 ?_
   refine w_hF h4 ?_
   refine w_pTb h4 (mOT q4 h4) ?_
   exact rfl
  ·refine w_hT h4 ?_
   refine w_fadr ?_
   refine w_hT h4 ?_
   refine w_ld (c := intsC a.fCodes) B1 (Nat.le_of_ble_eq_true rfl) rfl ?_
   refine w_hT h4 ?_
   refine w_len ?_
   refine w_hT h4 ?_
   refine w_fadr ?_
   refine w_hT h4 ?_
   refine w_ld (c := intsC b.fCodes) B2 (Nat.le_of_ble_eq_true rfl) rfl ?_
   refine w_hT h4 ?_
   refine w_len ?_
   refine w_hT h4 ?_
   refine w_bin (v := .sc (.bool ((a.fCodes.length : Int) != (b.fCodes.length : Int)))) (fun k => rfl) ?_
   refine w_pFb h4 (mOF q4 h4) ?_
   exact rfl
 intro b4 q4
 refine w_split (b4) (fun h5 => ?_) (fun h5 => ?_)
 ·refine w_cT h5 ?_
  exact w_endB (by subst_vars; simp only [vSamePacket, vPkLists, eqList]; by_cases e0 : a.fWants.length = b.fWants.length <;> by_cases e1 : a.fNames.length = b.fNames.length <;> by_cases e2 : a.fCodes.length = b.fCodes.length <;> simp_all)
 ·refine w_cF h5 ?_
  have l0 : a.fWants.length = b.fWants.length := by (subst_vars; simp at *; omega)
  have l1 : a.fNames.length = b.fNames.length := by (subst_vars; simp at *; omega)
  have l2 : a.fCodes.length = b.fCodes.length := by (subst_vars; simp at *; omega)
  refine (pkLoop0 n hn ty a b _ _ _ B1 B2 hl0 l0 hl1 l1 hl2 l2).trans ?_
  simp only [vSamePacket, vPkLists, eqList, l0, l1, l2, if_true]
  cases all2 eqWant a.fWants b.fWants <;> cases all2 eqSt a.fNames b.fNames <;> cases all2 eqI a.fCodes b.fCodes <;> simp
theorem implSamePacketF (n : Nat) (hn : 1048576 < n) (ty : Nat) (a : PacketV) (b : PacketV) (hl0 : a.fWants.length ≤ 1048576) (hl1 : a.fNames.length ≤ 1048576) (hl2 : a.fCodes.length ≤ 1048576) : tree E0 (n + 2) ty 81 [.agg (encPacket a), .agg (encPacket b)] = some (.sc (.bool (vSamePacket a b))) := by
 rw [tree_def, f81_eq, f81]
 try simp only [PR_box, PR_new, PR_fadr, PR_load, PR_store, PR_bin, PR_binB, PR_binA, PR_un, PR_cond, PR_guard, PR_pick, PR_len, PR_lenS, PR_iadr, PR_idx, PR_slice, PR_sliceS, PR_newSl, PR_fill, PR_make, PR_app, PR_cvI, PR_cvBS]
 refine w_box (flPacket _) fun iB1 eB1 B1 => ?_
 refine w_box (flPacket _) fun iB2 eB2 B2 => ?_
 replace B1 := blk_grow B1 [⟨encPacket b, true, true⟩]
 refine w_fadr ?_
 refine w_ld (c := .sc (.int .i64 a.fType)) B1 (Nat.le_of_ble_eq_true rfl) rfl ?_
 refine w_fadr ?_
 refine w_ld (c := .sc (.int .i64 b.fType)) B2 (Nat.le_of_ble_eq_true rfl) rfl ?_
 refine w_bin (v := .sc (.bool (a.fType == b.fType))) (fun k => rfl) ?_
 apply w_merge ((a.fType == b.fType) && (a.fDup == b.fDup))
 ·intro b3 q3
  refine w_split ((a.fType == b.fType)) (fun h3 => ?_) (fun h3 => ?_)
  ·refine w_gT h3 ?_
   refine w_fadr ?_
   refine w_gT h3 ?_
   refine w_ld (c := .sc (.bool a.fDup)) B1 (Nat.le_of_ble_eq_true rfl) rfl ?_
   refine w_gT h3 ?_
   refine w_fadr ?_
   refine w_gT h3 ?_
   refine w_ld (c := .sc (.bool b.fDup)) B2 (Nat.le_of_ble_eq_true rfl) rfl ?_
   refine w_gT h3 ?_
   refine w_binB (v := .sc (.bool (a.fDup == b.fDup))) (fun k => rfl) ?_
   refine w_pTb h3 (mAT q3 h3) ?_
   exact rfl
  ·refine w_gF h3 ?_
   refine w_gF h3 ?_
   refine w_gF h3 ?_
   refine w_gF h3 ?_
   refine w_gF h3 ?_
   refine w_pFb h3 (mAF q3 h3) ?_
   exact rfl
 intro b3 q3
 apply w_merge (b3 && (a.fQos == b.fQos))
 ·intro b4 q4
  refine w_split (b3) (fun h4 => ?_) (fun h4 => ?_)
  ·refine w_gT h4 ?_
   refine w_fadr ?_
   refine w_gT h4 ?_
   refine w_ld (c := .sc (.int .i64 a.fQos)) B1 (Nat.le_of_ble_eq_true rfl) rfl ?_
   refine w_gT h4 ?_
   refine w_fadr ?_
   refine w_gT h4 ?_
   refine w_ld (c := .sc (.int .i64 b.fQos)) B2 (Nat.le_of_ble_eq_true rfl) rfl ?_
   refine w_gT h4 ?_
   refine w_bin (v := .sc (.bool (a.fQos == b.fQos))) (fun k => rfl) ?_
   refine w_pTb h4 (mAT q4 h4) ?_
   exact rfl
  ·refine w_gF h4 ?_
   refine w_gF h4 ?_
   refine w_gF h4 ?_
   refine w_gF h4 ?_
   refine w_gF h4 ?_
   refine w_pFb h4 (mAF q4 h4) ?_
   exact rfl
 intro b4 q4
 apply w_merge (b4 && (a.fRetain == b.fRetain))
 ·intro b5 q5
  refine w_split (b4) (fun h5 => ?_) (fun h5 => ?_)
  ·refine w_gT h5 ?_
   refine w_fadr ?_
   refine w_gT h5 ?_
   refine w_ld (c := .sc (.bool a.fRetain)) B1 (Nat.le_of_ble_eq_true rfl) rfl ?_
   refine w_gT h5 ?_
   refine w_fadr ?_
   refine w_gT h5 ?_
   refine w_ld (c := .sc (.bool b.fRetain)) B2 (Nat.le_of_ble_eq_true rfl) rfl ?_
   refine w_gT h5 ?_
   refine w_binB (v := .sc (.bool (a.fRetain == b.fRetain))) (fun k => rfl) ?_
   refine w_pTb h5 (mAT q5 h5) ?_
   exact rfl
  ·refine w_gF h5 ?_
   refine w_gF h5 ?_
   refine w_gF h5 ?_
   refine w_gF h5 ?_
   refine w_gF h5 ?_
   refine w_pFb h5 (mAF q5 h5) ?_
   exact rfl
 intro b5 q5
 apply w_merge (b5 && (a.fId == b.fId))
 ·intro b6 q6
  refine w_split (b5) (fun h6 => ?_) (fun h6 => ?_)
  ·refine w_gT h6 ?_
   refine w_fadr ?_
   refine w_gT h6 ?_
   refine w_ld (c := .sc (.int .i64 a.fId)) B1 (Nat.le_of_ble_eq_true rfl) rfl ?_
   refine w_gT h6 ?_
   refine w_fadr ?_
   refine w_gT h6 ?_
   refine w_ld (c := .sc (.int .i64 b.fId)) B2 (Nat.le_of_ble_eq_true rfl) rfl ?_
   refine w_gT h6 ?_
   refine w_bin (v := .sc (.bool (a.fId == b.fId))) (fun k => rfl) ?_
   refine w_pTb h6 (mAT q6 h6) ?_
   exact rfl
  ·refine w_gF h6 ?_
   refine w_gF h6 ?_
   refine w_gF h6 ?_
   refine w_gF h6 ?_
   refine w_gF h6 ?_
   refine w_pFb h6 (mAF q6 h6) ?_
   exact rfl
 intro b6 q6
 apply w_merge (b6 && (a.fTopic.toList == b.fTopic.toList))
 ·intro b7 q7
  refine w_split (b6) (fun h7 => ?_) (fun h7 => ?_)
  ·refine w_gT h7 ?_
   refine w_fadr ?_
   refine w_gT h7 ?_
   refine w_ld (c := .sc (.string a.fTopic)) B1 (Nat.le_of_ble_eq_true rfl) rfl ?_
   refine w_gT h7 ?_
   refine w_fadr ?_
   refine w_gT h7 ?_
   refine w_ld (c := .sc (.string b.fTopic)) B2 (Nat.le_of_ble_eq_true rfl) rfl ?_
   refine w_gT h7 ?_
   refine w_bin (v := .sc (.bool (a.fTopic.toList == b.fTopic.toList))) (fun k => rfl) ?_
   refine w_pTb h7 (mAT q7 h7) ?_
   exact rfl
  ·refine w_gF h7 ?_
   refine w_gF h7 ?_
   refine w_gF h7 ?_
   refine w_gF h7 ?_
   refine w_gF h7 ?_
   refine w_pFb h7 (mAF q7 h7) ?_
   exact rfl
 intro b7 q7
 apply w_merge (b7 && (a.fBody.toList == b.fBody.toList))
 ·intro b8 q8
  refine w_split (b7) (fun h8 => ?_) (fun h8 => ?_)
  ·refine w_gT h8 ?_
   refine w_fadr ?_
   refine w_gT h8 ?_
   refine w_ld (c := bytesC a.fBody) B1 (Nat.le_of_ble_eq_true rfl) rfl ?_
   refine w_gT h8 ?_
   refine w_fadr ?_
   refine w_gT h8 ?_
   refine w_ld (c := bytesC b.fBody) B2 (Nat.le_of_ble_eq_true rfl) rfl ?_
   refine w_gT h8 ?_
   refine lw_sc rfl (vcons (Vw_ro _ _ _) (vcons (Vw_ro _ _ _) vnil)) (bytesEqualF (n + 0) _ a.fBody b.fBody) ?_
   refine w_pTb h8 (mAT q8 h8) ?_
   exact rfl
  ·refine w_gF h8 ?_
   refine w_gF h8 ?_
   refine w_gF h8 ?_
   refine w_gF h8 ?_
   refine w_gF h8 ?_
   refine w_pFb h8 (mAF q8 h8) ?_
   exact rfl
 intro b8 q8
 refine w_fadr ?_
 refine w_ld (c := .sc (.string a.fClient)) B1 (Nat.le_of_ble_eq_true rfl) rfl ?_
 refine w_fadr ?_
 refine w_ld (c := .sc (.string b.fClient)) B2 (Nat.le_of_ble_eq_true rfl) rfl ?_
 refine w_bin (v := .sc (.bool (a.fClient.toList == b.fClient.toList))) (fun k => rfl) ?_
 apply w_merge ((a.fClient.toList == b.fClient.toList) && (a.fLevel == b.fLevel))
 ·intro b9 q9
  refine w_split ((a.fClient.toList == b.fClient.toList)) (fun h9 => ?_) (fun h9 => ?_)
  ·refine w_gT h9 ?_
   refine w_fadr ?_
   refine w_gT h9 ?_
   refine w_ld (c := .sc (.int .i64 a.fLevel)) B1 (Nat.le_of_ble_eq_true rfl) rfl ?_
   refine w_gT h9 ?_
   refine w_fadr ?_
   refine w_gT h9 ?_
   refine w_ld (c := .sc (.int .i64 b.fLevel)) B2 (Nat.le_of_ble_eq_true rfl) rfl ?_
   refine w_gT h9 ?_
   refine w_bin (v := .sc (.bool (a.fLevel == b.fLevel))) (fun k => rfl) ?_
   refine w_pTb h9 (mAT q9 h9) ?_
   exact rfl
  ·refine w_gF h9 ?_
   refine w_gF h9 ?_
   refine w_gF h9 ?_
   refine w_gF h9 ?_
   refine w_gF h9 ?_
   refine w_pFb h9 (mAF q9 h9) ?_
   exact rfl
 intro b9 q9
 apply w_merge (b9 && (a.fClean == b.fClean))
 ·intro b10 q10
  refine w_split (b9) (fun h10 => ?_) (fun h10 => ?_)
  ·refine w_gT h10 ?_
   refine w_fadr ?_
   refine w_gT h10 ?_
   refine w_ld (c := .sc (.bool a.fClean)) B1 (Nat.le_of_ble_eq_true rfl) rfl ?_
   refine w_gT h10 ?_
   refine w_fadr ?_
   refine w_gT h10 ?_
   refine w_ld (c := .sc (.bool b.fClean)) B2 (Nat.le_of_ble_eq_true rfl) rfl ?_
   refine w_gT h10 ?_
   refine w_binB (v := .sc (.bool (a.fClean == b.fClean))) (fun k => rfl) ?_
   refine w_pTb h10 (mAT q10 h10) ?_
   exact rfl
  ·refine w_gF h10 ?_
   refine w_gF h10 ?_
   refine w_gF h10 ?_
   refine w_gF h10 ?_
   refine w_gF h10 ?_
   refine w_pFb h10 (mAF q10 h10) ?_
   exact rfl
 intro b10 q10
 apply w_merge (b10 && (a.fKeep == b.fKeep))
 ·intro b11 q11
  refine w_split (b10) (fun h11 => ?_) (fun h11 => ?_)
  ·refine w_gT h11 ?_
   refine w_fadr ?_
   refine w_gT h11 ?_
   refine w_ld (c := .sc (.int .i64 a.fKeep)) B1 (Nat.le_of_ble_eq_true rfl) rfl ?_
   refine w_gT h11 ?_
   refine w_fadr ?_
   refine w_gT h11 ?_
   refine w_ld (c := .sc (.int .i64 b.fKeep)) B2 (Nat.le_of_ble_eq_true rfl) rfl ?_
   refine w_gT h11 ?_
   refine w_bin (v := .sc (.bool (a.fKeep == b.fKeep))) (fun k => rfl) ?_
   refine w_pTb h11 (mAT q11 h11) ?_
   exact rfl
  ·refine w_gF h11 ?_
   refine w_gF h11 ?_
   refine w_gF h11 ?_
   refine w_gF h11 ?_
   refine w_gF h11 ?_
   refine w_pFb h11 (mAF q11 h11) ?_
   exact rfl
 intro b11 q11
 apply w_merge (b11 && (a.fHasUser == b.fHasUser))
 ·intro b12 q12
  refine w_split (b11) (fun h12 => ?_) (fun h12 => ?_)
  ·refine w_gT h12 ?_
   refine w_fadr ?_
   refine w_gT h12 ?_
   refine w_ld (c := .sc (.bool a.fHasUser)) B1 (Nat.le_of_ble_eq_true rfl) rfl ?_
   refine w_gT h12 ?_
   refine w_fadr ?_
   refine w_gT h12 ?_
   refine w_ld (c := .sc (.bool b.fHasUser)) B2 (Nat.le_of_ble_eq_true rfl) rfl ?_
   refine w_gT h12 ?_
   refine w_binB (v := .sc (.bool (a.fHasUser == b.fHasUser))) (fun k => rfl) ?_
   refine w_pTb h12 (mAT q12 h12) ?_
   exact rfl
  ·refine w_gF h12 ?_
   refine w_gF h12 ?_
   refine w_gF h12 ?_
   refine w_gF h12 ?_
   refine w_gF h12 ?_
   refine w_pFb h12 (mAF q12 h12) ?_
   exact rfl
 intro b12 q12
 apply w_merge (b12 && (a.fUser.toList == b.fUser.toList))
 ·intro b13 q13
  refine w_split (b12) (fun h13 => ?_) (fun h13 => ?_)
  ·refine w_gT h13 ?_
   refine w_fadr ?_
   refine w_gT h13 ?_
   refine w_ld (c := .sc (.string a.fUser)) B1 (Nat.le_of_ble_eq_true rfl) rfl ?_
   refine w_gT h13 ?_
   refine w_fadr ?_
   refine w_gT h13 ?_
   refine w_ld (c := .sc (.string b.fUser)) B2 (Nat.le_of_ble_eq_true rfl) rfl ?_
   refine w_gT h13 ?_
   refine w_bin (v := .sc (.bool (a.fUser.toList == b.fUser.toList))) (fun k => rfl) ?_
   refine w_pTb h13 (mAT q13 h13) ?_
   exact rfl
  ·refine w_gF h13 ?_
   refine w_gF h13 ?_
   refine w_gF h13 ?_
   refine w_gF h13 ?_
   refine w_gF h13 ?_
   refine w_pFb h13 (mAF q13 h13) ?_
   exact rfl
 intro b13 q13
 apply w_merge (b13 && (a.fHasPass == b.fHasPass))
 ·intro b14 q14
  refine w_split (b13) (fun h14 => ?_) (fun h14 => ?_)
  ·refine w_gT h14 ?_
   refine w_fadr ?_
   refine w_gT h14 ?_
   refine w_ld (c := .sc (.bool a.fHasPass)) B1 (Nat.le_of_ble_eq_true rfl) rfl ?_
   refine w_gT h14 ?_
   refine w_fadr ?_
   refine w_gT h14 ?_
   refine w_ld (c := .sc (.bool b.fHasPass)) B2 (Nat.le_of_ble_eq_true rfl) rfl ?_
   refine w_gT h14 ?_
   refine w_binB (v := .sc (.bool (a.fHasPass == b.fHasPass))) (fun k => rfl) ?_
   refine w_pTb h14 (mAT q14 h14) ?_
   exact rfl
  ·refine w_gF h14 ?_
   refine w_gF h14 ?_
   refine w_gF h14 ?_
   refine w_gF h14 ?_
   refine w_gF h14 ?_
   refine w_pFb h14 (mAF q14 h14) ?_
   exact rfl
 intro b14 q14
 apply w_merge (b14 && (a.fPass.toList == b.fPass.toList))
 ·intro b15 q15
  refine w_split (b14) (fun h15 => ?_) (fun h15 => ?_)
  ·refine w_gT h15 ?_
   refine w_fadr ?_
   refine w_gT h15 ?_
   refine w_ld (c := bytesC a.fPass) B1 (Nat.le_of_ble_eq_true rfl) rfl ?_
   refine w_gT h15 ?_
   refine w_fadr ?_
   refine w_gT h15 ?_
   refine w_ld (c := bytesC b.fPass) B2 (Nat.le_of_ble_eq_true rfl) rfl ?_
   refine w_gT h15 ?_
   refine lw_sc rfl (vcons (Vw_ro _ _ _) (vcons (Vw_ro _ _ _) vnil)) (bytesEqualF (n + 0) _ a.fPass b.fPass) ?_
   refine w_pTb h15 (mAT q15 h15) ?_
   exact rfl
  ·refine w_gF h15 ?_
   refine w_gF h15 ?_
   refine w_gF h15 ?_
   refine w_gF h15 ?_
   refine w_gF h15 ?_
   refine w_pFb h15 (mAF q15 h15) ?_
   exact rfl
 intro b15 q15
 refine w_fadr ?_
 refine w_ld (c := .sc (.bool a.fHasWill)) B1 (Nat.le_of_ble_eq_true rfl) rfl ?_
 refine w_fadr ?_
 refine w_ld (c := .sc (.bool b.fHasWill)) B2 (Nat.le_of_ble_eq_true rfl) rfl ?_
 refine w_binB (v := .sc (.bool (a.fHasWill == b.fHasWill))) (fun k => rfl) ?_
 apply w_merge ((a.fHasWill == b.fHasWill) && (a.fWTopic.toList == b.fWTopic.toList))
 ·intro b16 q16
  refine w_split ((a.fHasWill == b.fHasWill)) (fun h16 => ?_) (fun h16 => ?_)
  ·refine w_gT h16 ?_
   refine w_fadr ?_
   refine w_gT h16 ?_
   refine w_ld (c := .sc (.string a.fWTopic)) B1 (Nat.le_of_ble_eq_true rfl) rfl ?_
   refine w_gT h16 ?_
   refine w_fadr ?_
   refine w_gT h16 ?_
   refine w_ld (c := .sc (.string b.fWTopic)) B2 (Nat.le_of_ble_eq_true rfl) rfl ?_
   refine w_gT h16 ?_
   refine w_bin (v := .sc (.bool (a.fWTopic.toList == b.fWTopic.toList))) (fun k => rfl) ?_
   refine w_pTb h16 (mAT q16 h16) ?_
   exact rfl
  ·refine w_gF h16 ?_
   refine w_gF h16 ?_
   refine w_gF h16 ?_
   refine w_gF h16 ?_
   refine w_gF h16 ?_
   refine w_pFb h16 (mAF q16 h16) ?_
   exact rfl
 intro b16 q16
 apply w_merge (b16 && (a.fWBody.toList == b.fWBody.toList))
 ·intro b17 q17
  refine w_split (b16) (fun h17 => ?_) (fun h17 => ?_)
  ·refine w_gT h17 ?_
   refine w_fadr ?_
   refine w_gT h17 ?_
   refine w_ld (c := bytesC a.fWBody) B1 (Nat.le_of_ble_eq_true rfl) rfl ?_
   refine w_gT h17 ?_
   refine w_fadr ?_
   refine w_gT h17 ?_
   refine w_ld (c := bytesC b.fWBody) B2 (Nat.le_of_ble_eq_true rfl) rfl ?_
   refine w_gT h17 ?_
   refine lw_sc rfl (vcons (Vw_ro _ _ _) (vcons (Vw_ro _ _ _) vnil)) (bytesEqualF (n + 0) _ a.fWBody b.fWBody) ?_
   refine w_pTb h17 (mAT q17 h17) ?_
   exact rfl
  ·refine w_gF h17 ?_
   refine w_gF h17 ?_
   refine w_gF h17 ?_
   refine w_gF h17 ?_
   refine w_gF h17 ?_
   refine w_pFb h17 (mAF q17 h17) ?_
   exact rfl
 intro b17 q17
 apply w_merge (b17 && (a.fWQos == b.fWQos))
 ·intro b18 q18
  refine w_split (b17) (fun h18 => ?_) (fun h18 => ?_)
  ·refine w_gT h18 ?_
   refine w_fadr ?_
   refine w_gT h18 ?_
   refine w_ld (c := .sc (.int .i64 a.fWQos)) B1 (Nat.le_of_ble_eq_true rfl) rfl ?_
   refine w_gT h18 ?_
   refine w_fadr ?_
   refine w_gT h18 ?_
   refine w_ld (c := .sc (.int .i64 b.fWQos)) B2 (Nat.le_of_ble_eq_true rfl) rfl ?_
   refine w_gT h18 ?_
   refine w_bin (v := .sc (.bool (a.fWQos == b.fWQos))) (fun k => rfl) ?_
   refine w_pTb h18 (mAT q18 h18) ?_
   exact rfl
  ·refine w_gF h18 ?_
   refine w_gF h18 ?_
   refine w_gF h18 ?_
   refine w_gF h18 ?_
   refine w_gF h18 ?_
   refine w_pFb h18 (mAF q18 h18) ?_
   exact rfl
 intro b18 q18
 apply w_merge (b18 && (a.fWRetain == b.fWRetain))
 ·intro b19 q19
  refine w_split (b18) (fun h19 => ?_) (fun h19 => ?_)
  ·refine w_gT h19 ?_
   refine w_fadr ?_
   refine w_gT h19 ?_
   refine w_ld (c := .sc (.bool a.fWRetain)) B1 (Nat.le_of_ble_eq_true rfl) rfl ?_
   refine w_gT h19 ?_
   refine w_fadr ?_
   refine w_gT h19 ?_
   refine w_ld (c := .sc (.bool b.fWRetain)) B2 (Nat.le_of_ble_eq_true rfl) rfl ?_
   refine w_gT h19 ?_
   refine w_binB (v := .sc (.bool (a.fWRetain == b.fWRetain))) (fun k => rfl) ?_
   refine w_pTb h19 (mAT q19 h19) ?_
   exact rfl
  ·refine w_gF h19 ?_
   refine w_gF h19 ?_
   refine w_gF h19 ?_
   refine w_gF h19 ?_
   refine w_gF h19 ?_
   refine w_pFb h19 (mAF q19 h19) ?_
   exact rfl
 intro b19 q19
 refine w_fadr ?_
 refine w_ld (c := rowsC encWant a.fWants) B1 (Nat.le_of_ble_eq_true rfl) rfl ?_
 refine w_fadr ?_
 refine w_ld (c := rowsC encWant b.fWants) B2 (Nat.le_of_ble_eq_true rfl) rfl ?_
 refine lw_sc rfl (vcons (Vw_ro _ _ _) (vcons (Vw_ro _ _ _) vnil)) (equalWants (n + 0) (by omega) _ a.fWants b.fWants (by omega)) ?_
 apply w_merge ((eqList eqWant a.fWants b.fWants) && (eqList eqSt a.fNames b.fNames))
 ·intro b20 q20
  refine w_split ((eqList eqWant a.fWants b.fWants)) (fun h20 => ?_) (fun h20 => ?_)
  ·refine w_gT h20 ?_
   refine w_fadr ?_
   refine w_gT h20 ?_
   refine w_ld (c := strsC a.fNames) B1 (Nat.le_of_ble_eq_true rfl) rfl ?_
   refine w_gT h20 ?_
   refine w_fadr ?_
   refine w_gT h20 ?_
   refine w_ld (c := strsC b.fNames) B2 (Nat.le_of_ble_eq_true rfl) rfl ?_
   refine w_gT h20 ?_
   refine lw_sc rfl (vcons (Vw_ro _ _ _) (vcons (Vw_ro _ _ _) vnil)) (equalStrs (n + 0) (by omega) _ a.fNames b.fNames (by omega)) ?_
   refine w_pTb h20 (mAT q20 h20) ?_
   exact rfl
  ·refine w_gF h20 ?_
   refine w_gF h20 ?_
   refine w_gF h20 ?_
   refine w_gF h20 ?_
   refine w_gF h20 ?_
   refine w_pFb h20 (mAF q20 h20) ?_
   exact rfl
 intro b20 q20
 apply w_merge (b20 && (eqList eqI a.fCodes b.fCodes))
 ·intro b21 q21
  refine w_split (b20) (fun h21 => ?_) (fun h21 => ?_)
  ·refine w_gT h21 ?_
   refine w_fadr ?_
   refine w_gT h21 ?_
   refine w_ld (c := intsC a.fCodes) B1 (Nat.le_of_ble_eq_true rfl) rfl ?_
   refine w_gT h21 ?_
   refine w_fadr ?_
   refine w_gT h21 ?_
   refine w_ld (c := intsC b.fCodes) B2 (Nat.le_of_ble_eq_true rfl) rfl ?_
   refine w_gT h21 ?_
   refine lw_sc rfl (vcons (Vw_ro _ _ _) (vcons (Vw_ro _ _ _) vnil)) (equalInts (n + 0) (by omega) _ a.fCodes b.fCodes (by omega)) ?_
   refine w_pTb h21 (mAT q21 h21) ?_
   exact rfl
  ·refine w_gF h21 ?_
   refine w_gF h21 ?_
   refine w_gF h21 ?_
   refine w_gF h21 ?_
   refine w_gF h21 ?_
   refine w_pFb h21 (mAF q21 h21) ?_
   exact rfl
 intro b21 q21
 apply w_merge (b8 && b15)
 ·intro b22 q22
  refine w_split (b8) (fun h22 => ?_) (fun h22 => ?_)
  ·refine w_gT h22 ?_
   refine w_pTb h22 (mAT q22 h22) ?_
   exact rfl
  ·refine w_gF h22 ?_
   refine w_pFb h22 (mAF q22 h22) ?_
   exact rfl
 intro b22 q22
 apply w_merge (b22 && b19)
 ·intro b23 q23
  refine w_split (b22) (fun h23 => ?_) (fun h23 => ?_)
  ·refine w_gT h23 ?_
   refine w_pTb h23 (mAT q23 h23) ?_
   exact rfl
  ·refine w_gF h23 ?_
   refine w_pFb h23 (mAF q23 h23) ?_
   exact rfl
 intro b23 q23
 apply w_merge (b23 && b21)
 ·intro b24 q24
  refine w_split (b23) (fun h24 => ?_) (fun h24 => ?_)
  ·refine w_gT h24 ?_
   refine w_pTb h24 (mAT q24 h24) ?_
   exact rfl
  ·refine w_gF h24 ?_
   refine w_pFb h24 (mAF q24 h24) ?_
   exact rfl
 intro b24 q24
 apply w_merge (b24 && (a.fCode == b.fCode))
 ·intro b25 q25
  refine w_split (b24) (fun h25 => ?_) (fun h25 => ?_)
  ·refine w_gT h25 ?_
   refine w_fadr ?_
   refine w_gT h25 ?_
   refine w_ld (c := .sc (.int .i64 a.fCode)) B1 (Nat.le_of_ble_eq_true rfl) rfl ?_
   refine w_gT h25 ?_
   refine w_fadr ?_
   refine w_gT h25 ?_
   refine w_ld (c := .sc (.int .i64 b.fCode)) B2 (Nat.le_of_ble_eq_true rfl) rfl ?_
   refine w_gT h25 ?_
   refine w_bin (v := .sc (.bool (a.fCode == b.fCode))) (fun k => rfl) ?_
   refine w_pTb h25 (mAT q25 h25) ?_
   exact rfl
  ·refine w_gF h25 ?_
   refine w_gF h25 ?_
   refine w_gF h25 ?_
   refine w_gF h25 ?_
   refine w_gF h25 ?_
   refine w_pFb h25 (mAF q25 h25) ?_
   exact rfl
 intro b25 q25
 apply w_merge (b25 && (a.fPresent == b.fPresent))
 ·intro b26 q26
  refine w_split (b25) (fun h26 => ?_) (fun h26 => ?_)
  ·refine w_gT h26 ?_
   refine w_fadr ?_
   refine w_gT h26 ?_
   refine w_ld (c := .sc (.bool a.fPresent)) B1 (Nat.le_of_ble_eq_true rfl) rfl ?_
   refine w_gT h26 ?_
   refine w_fadr ?_
   refine w_gT h26 ?_
   refine w_ld (c := .sc (.bool b.fPresent)) B2 (Nat.le_of_ble_eq_true rfl) rfl ?_
   refine w_gT h26 ?_
   refine w_binB (v := .sc (.bool (a.fPresent == b.fPresent))) (fun k => rfl) ?_
   refine w_pTb h26 (mAT q26 h26) ?_
   exact rfl
  ·refine w_gF h26 ?_
   refine w_gF h26 ?_
   refine w_gF h26 ?_
   refine w_gF h26 ?_
   refine w_gF h26 ?_
   refine w_pFb h26 (mAF q26 h26) ?_
   exact rfl
 intro b26 q26
 exact w_endB (by subst_vars; simp only [vSamePacket, vPkLists, vPkChain]; ac_rfl)
end Go.Proofs.YtejjggnchdldoaaDoor.Abs
set_option linter.unusedVariables false
set_option linter.unusedSimpArgs false
namespace Go.Proofs.YtejjggnchdldoaaDoor.Abs
open Go
section own
variable {ti : Nat → Option TI} {tp : Nat → Option (List Nat)}
theorem ownL_cons {f : Nat → AV → Option (AV × List Nat)} {t : Nat} {ts : List Nat} {x : AV} {xs : List AV} {p : List AV × List Nat} (h : ownL f (t :: ts) (x :: xs) = some p) :
  ∃ a b, f t x = some a ∧ ownL f ts xs = some b ∧ p = (a.1 :: b.1, a.2 ++ b.2) := by
 simp only [ownL, Option.bind_eq_some_iff] at h
 obtain ⟨a, h1, b, h2, h3⟩ := h
 exact ⟨a, b, h1, h2, (Option.some.inj h3).symm⟩
theorem ownL_nil {f : Nat → AV → Option (AV × List Nat)} {ts : List Nat} {p : List AV × List Nat} (h : ownL f ts [] = some p) : ts = [] ∧ p = ([], []) := by
 cases ts with
 | nil => exact ⟨rfl, (Option.some.inj h).symm⟩
 | cons t ts => simp [ownL] at h
theorem ownL_len {f : Nat → AV → Option (AV × List Nat)} : ∀ {ts : List Nat} {xs : List AV} {p : List AV × List Nat}, ownL f ts xs = some p → ts.length = xs.length ∧ p.1.length = xs.length
 | ts, [], p, h => by
  obtain ⟨rfl, rfl⟩ := ownL_nil h
  exact ⟨rfl, rfl⟩
 | [], _ :: _, p, h => by simp [ownL] at h
 | t :: ts, x :: xs, p, h => by
  obtain ⟨a, b, h1, h2, rfl⟩ := ownL_cons h
  obtain ⟨e1, e2⟩ := ownL_len h2
  simp [e1, e2]
theorem ownL_append {f : Nat → AV → Option (AV × List Nat)} : ∀ {ts us : List Nat} {xs ys : List AV} {p q : List AV × List Nat}, ownL f ts xs = some p → ownL f us ys = some q → ownL f (ts ++ us) (xs ++ ys) = some (p.1 ++ q.1, p.2 ++ q.2)
 | ts, us, [], ys, p, q, h, h' => by
  obtain ⟨rfl, rfl⟩ := ownL_nil h
  exact h'
 | [], _, _ :: _, _, _, _, h, _ => by simp [ownL] at h
 | t :: ts, us, x :: xs, ys, p, q, h, h' => by
  obtain ⟨a, b, h1, h2, rfl⟩ := ownL_cons h
  have ih := ownL_append h2 h'
  rw [List.cons_append, List.cons_append, ownL, h1, Option.bind_some, ih]
  simp
theorem ownL_frame {f f' : Nat → AV → Option (AV × List Nat)} : ∀ {ts : List Nat} {xs : List AV} {p : List AV × List Nat}, (∀ t x a, f t x = some a → (∀ i ∈ a.2, i ∈ p.2) → f' t x = some a) → ownL f ts xs = some p → ownL f' ts xs = some p
 | ts, [], p, _, h => by
  obtain ⟨rfl, rfl⟩ := ownL_nil h
  rfl
 | [], _ :: _, p, _, h => by simp [ownL] at h
 | t :: ts, x :: xs, p, hf, h => by
  obtain ⟨a, b, h1, h2, rfl⟩ := ownL_cons h
  have e1 := hf t x a h1 fun i hi => List.mem_append_left _ hi
  have e2 := ownL_frame (f' := f') (fun t x a' h hi => hf t x a' h fun i hi' => List.mem_append_right _ (hi i hi')) h2
  rw [ownL, e1, Option.bind_some, e2]
  rfl
theorem own_frame {H H' : Heap} : ∀ (d ty : Nat) (x : AV) (p : AV × List Nat), ownT ti tp H d ty x = some p → (∀ i ∈ p.2, H'[i]? = H[i]?) → ownT ti tp H' d ty x = some p
 | 0, _, _, _, h, _ => by simp [ownT] at h
 | d + 1, ty, x, p, h, hs => by
  cases x with
  | sc v => exact h
  | nl => exact h
  | sl id off n z =>
   rw [ownT_sl] at h ⊢
   simp only [Option.bind_eq_some_iff] at h
   obtain ⟨i, h1, j, h2, h3⟩ := h
   split at h3
   case isFalse => cases h3
   rename_i hz
   split at h3
   case isFalse => cases h3
   rename_i ha
   simp only [Option.bind_eq_some_iff] at h3
   obtain ⟨cs, h4, q, h5, h6⟩ := h3
   obtain rfl := (Option.some.inj h6).symm
   have hid := hs id List.mem_cons_self
   have e1 : isApp H' id = true := by simpa only [isApp, hid] using ha
   have e2 : rdCells H' id off (n * z) = some cs := by simpa only [rdCells, hid] using h4
   have e3 := ownL_frame (f' := ownT ti tp H' d) (fun t x a h hi => own_frame d t x a h fun i' hi' => hs i' (List.mem_cons_of_mem _ (hi i' hi'))) h5
   simp only [h1, h2, Option.bind_some, hz, if_true, e1, e3]
   rw [hz] at e2
   rw [e2]
   simp only [Option.bind_some, e3]
  | agg cs =>
   rw [ownT_agg] at h ⊢
   simp only [Option.bind_eq_some_iff] at h
   obtain ⟨i, h1, q, h2, h3⟩ := h
   obtain rfl := (Option.some.inj h3).symm
   have e3 := ownL_frame (f' := ownT ti tp H' d) (fun t x a h hi => own_frame d t x a h fun i' hi' => hs i' (hi i' hi')) h2
   rw [h1, Option.bind_some, e3]
   rfl
  | tup cs =>
   rw [ownT_tup] at h ⊢
   simp only [Option.bind_eq_some_iff] at h
   obtain ⟨i, h1, q, h2, h3⟩ := h
   obtain rfl := (Option.some.inj h3).symm
   have e3 := ownL_frame (f' := ownT ti tp H' d) (fun t x a h hi => own_frame d t x a h fun i' hi' => hs i' (hi i' hi')) h2
   rw [h1, Option.bind_some, e3]
   rfl
  | _ => simp [ownT] at h
theorem ownL_lt {f : Nat → AV → Option (AV × List Nat)} {N : Nat} : ∀ {ts : List Nat} {xs : List AV} {p : List AV × List Nat}, (∀ t x a, f t x = some a → ∀ i ∈ a.2, i < N) → ownL f ts xs = some p → ∀ i ∈ p.2, i < N
 | ts, [], p, _, h => by
  obtain ⟨rfl, rfl⟩ := ownL_nil h
  intro i hi
  cases hi
 | [], _ :: _, p, _, h => by simp [ownL] at h
 | t :: ts, x :: xs, p, hf, h => by
  obtain ⟨a, b, h1, h2, rfl⟩ := ownL_cons h
  intro i hi
  rcases List.mem_append.1 hi with hi | hi
  ·exact hf t x a h1 i hi
  ·exact ownL_lt hf h2 i hi
theorem own_lt {H : Heap} : ∀ (d ty : Nat) (x : AV) (p : AV × List Nat), ownT ti tp H d ty x = some p → ∀ i ∈ p.2, i < H.length
 | 0, _, _, _, h => by simp [ownT] at h
 | d + 1, ty, x, p, h => by
  cases x with
  | sc v =>
   obtain rfl := (Option.some.inj h).symm
   intro i hi
   cases hi
  | nl =>
   obtain rfl := (Option.some.inj h).symm
   intro i hi
   cases hi
  | sl id off n z =>
   rw [ownT_sl] at h
   simp only [Option.bind_eq_some_iff] at h
   obtain ⟨i, h1, j, h2, h3⟩ := h
   split at h3
   case isFalse => cases h3
   split at h3
   case isFalse => cases h3
   rename_i ha
   simp only [Option.bind_eq_some_iff] at h3
   obtain ⟨cs, h4, q, h5, h6⟩ := h3
   obtain rfl := (Option.some.inj h6).symm
   intro i' hi'
   rcases List.mem_cons.1 hi' with rfl | hi'
   ·unfold isApp at ha
    cases hg : H[i']? with
    | none => rw [hg] at ha; cases ha
    | some b => exact (List.getElem?_eq_some_iff.1 hg).1
   ·exact ownL_lt (fun t x a h => own_lt d t x a h) h5 i' hi'
  | agg cs =>
   rw [ownT_agg] at h
   simp only [Option.bind_eq_some_iff] at h
   obtain ⟨i, h1, q, h2, h3⟩ := h
   obtain rfl := (Option.some.inj h3).symm
   exact ownL_lt (fun t x a h => own_lt d t x a h) h2
  | tup cs =>
   rw [ownT_tup] at h
   simp only [Option.bind_eq_some_iff] at h
   obtain ⟨i, h1, q, h2, h3⟩ := h
   obtain rfl := (Option.some.inj h3).symm
   exact ownL_lt (fun t x a h => own_lt d t x a h) h2
  | _ => simp [ownT] at h
end own
def OwnC (d : Nat) (H : Heap) (ts : List Nat) (raw cells : List AV) (ids : List Nat) : Prop := ownL (ownT ti0 E0.tp H d) ts raw = some (cells, ids)
theorem OwnC.frame {d : Nat} {H H' : Heap} {ts : List Nat} {raw cells : List AV} {ids : List Nat} (h : OwnC d H ts raw cells ids) (hs : ∀ i ∈ ids, H'[i]? = H[i]?) : OwnC d H' ts raw cells ids :=
 ownL_frame (fun t x a h hi => own_frame d t x a h fun i hi' => hs i (hi i hi')) h
theorem OwnC.lt {d : Nat} {H : Heap} {ts : List Nat} {raw cells : List AV} {ids : List Nat} (h : OwnC d H ts raw cells ids) : ∀ i ∈ ids, i < H.length := ownL_lt (fun t x a h => own_lt d t x a h) h
theorem OwnC.grow {d : Nat} {H : Heap} {ts : List Nat} {raw cells : List AV} {ids : List Nat} (h : OwnC d H ts raw cells ids) (X : List Blk) : OwnC d (H ++ X) ts raw cells ids :=
 h.frame fun i hi => List.getElem?_append_left (h.lt i hi)
theorem OwnC.append {d : Nat} {H : Heap} {ts us : List Nat} {raw raw' cells cells' : List AV} {ids ids' : List Nat} (h : OwnC d H ts raw cells ids) (h' : OwnC d H us raw' cells' ids') : OwnC d H (ts ++ us) (raw ++ raw') (cells ++ cells') (ids ++ ids') := ownL_append h h'
theorem OwnC.len {d : Nat} {H : Heap} {ts : List Nat} {raw cells : List AV} {ids : List Nat} (h : OwnC d H ts raw cells ids) : ts.length = raw.length ∧ cells.length = raw.length := ownL_len h
def OwnS (d : Nat) (H : Heap) (w : Nat) (cty : List Nat) (x : AV) (k : Nat) (cells : List AV) : Prop :=
 (x = .nl ∧ k = 0 ∧ cells = []) ∨ ∃ id raw ids, x = .sl id 0 k w ∧ H[id]? = some ⟨raw, true, true⟩ ∧ raw.length = k * w ∧ OwnC d H (List.replicate k cty).flatten raw cells ids ∧ (id :: ids).Nodup
theorem OwnS.nil (d : Nat) (H : Heap) (w : Nat) (cty : List Nat) : OwnS d H w cty .nl 0 [] := .inl ⟨rfl, rfl, rfl⟩
theorem OwnS.grow {d : Nat} {H : Heap} {w : Nat} {cty : List Nat} {x : AV} {k : Nat} {cells : List AV} (h : OwnS d H w cty x k cells) (X : List Blk) : OwnS d (H ++ X) w cty x k cells := by
 rcases h with h | ⟨id, raw, ids, h1, h2, h3, h4, h5⟩
 ·exact .inl h
 ·exact .inr ⟨id, raw, ids, h1, by rw [List.getElem?_append_left (List.getElem?_eq_some_iff.1 h2).1]; exact h2, h3, h4.grow X, h5⟩
variable {β : Type} {n : Nat} {r : Option β}
theorem set_at (A : Heap) (b b' : Blk) (R : Heap) : (A ++ b :: R).set A.length b' = A ++ b' :: R := by
 rw [List.set_append_right _ _ (Nat.le_refl _), Nat.sub_self]
 rfl
theorem get_at (A : Heap) (b : Blk) (R : Heap) : (A ++ b :: R)[A.length]? = some b := by
 rw [List.getElem?_append_right (Nat.le_refl _), Nat.sub_self]
 rfl
theorem app_one {d : Nat} {H X : Heap} {w bytes : Nat} {cty : List Nat} {x : AV} {k : Nat} {cells er ec : List AV} {eids : List Nat} {K : AV → Heap → Option β} (hx : OwnS d H w cty x k cells) (hw : er.length = w) (hl : er.all isLeaf = true)
  (he : OwnC d (H ++ X) cty er ec eids) (hn : eids.Nodup) (hge : ∀ i ∈ eids, H.length ≤ i) (hb : (k + 1) * bytes ≤ 140737488355328)
  (h : ∀ x' H', OwnS d H' w cty x' (k + 1) (cells ++ ec) → K x' H' = r) :
  pNewSl 1 w er true (H ++ X) (fun y G => pApp w bytes x y G K) = r := by
 have hy : ∀ G : Heap, content (G ++ [⟨er, true, true⟩]) w (.sl G.length 0 1 w) = some er := by
  intro G
  simp only [content, if_true, Nat.one_mul, rdCells, get_at G _ [], Nat.zero_add, hw, Nat.le_refl, List.drop_zero]
  rw [← hw, List.take_length]
 have hell : (H ++ X).length ∉ eids := fun hm => Nat.lt_irrefl _ (he.lt _ hm)
 rcases hx with ⟨rfl, rfl, rfl⟩ | ⟨id, raw, ids, rfl, h2, h3, h4, h5⟩
 ·simp only [pNewSl, pApp, lenA, Option.bind_some, hy]
  rw [show content (H ++ X ++ [⟨er, true, true⟩]) w .nl = some [] from rfl]
  simp only [Option.bind_some, kill]
  rw [if_pos hb, if_pos hl]
  refine h _ _ (.inr ⟨_, er, eids, rfl, ?_, by simp [hw], ?_, ?_⟩)
  ·rw [List.getElem?_append_right (Nat.le_refl _), Nat.sub_self]
   rfl
  ·simp only [Nat.zero_add, List.replicate_one, List.flatten_cons, List.flatten_nil, List.append_nil, List.nil_append]
   exact (he.grow _).grow _
  ·rw [List.nodup_cons]
   refine ⟨fun hm => ?_, hn⟩
   have := he.lt _ hm
   simp at this
   omega
 ·have hid : id < H.length := (List.getElem?_eq_some_iff.1 h2).1
  have hg : (H ++ X ++ [(⟨er, true, true⟩ : Blk)])[id]? = some ⟨raw, true, true⟩ := by
   rw [List.append_assoc, List.getElem?_append_left hid]
   exact h2
  have hcx : content (H ++ X ++ [⟨er, true, true⟩]) w (.sl id 0 k w) = some raw := by
   simp only [content, if_true, rdCells, hg, Nat.zero_add, h3, Nat.le_refl, List.drop_zero]
   rw [← h3, List.take_length]
  simp only [pNewSl, pApp, lenA, Option.bind_some, hy, hcx, kill, hg, if_true]
  rw [if_pos hb, if_pos hl]
  have hn5 := List.nodup_cons.1 h5
  have hne : ∀ i ∈ ids, i ≠ id := fun i hi e => hn5.1 (e ▸ hi)
  have hne2 : ∀ i ∈ eids, i ≠ id := fun i hi e => by
   have := hge i hi
   omega
  refine h _ _ (.inr ⟨_, raw ++ er, ids ++ eids, rfl, ?_, by simp [h3, hw, Nat.succ_mul], ?_, ?_⟩)
  ·rw [List.getElem?_append_right (Nat.le_refl _), Nat.sub_self]
   rfl
  ·have e : (List.replicate (k + 1) cty).flatten = (List.replicate k cty).flatten ++ cty := by
    rw [List.replicate_succ', List.flatten_append]
    simp
   rw [e]
   refine OwnC.append ?_ ?_
   ·refine OwnC.grow (OwnC.frame (H := H ++ X ++ [⟨er, true, true⟩]) ((h4.grow X).grow _) fun i hi => ?_) _
    rw [List.getElem?_set_ne (fun e => hne i hi e.symm)]
   ·refine OwnC.grow (OwnC.frame (H := H ++ X ++ [⟨er, true, true⟩]) (he.grow _) fun i hi => ?_) _
    rw [List.getElem?_set_ne (fun e => hne2 i hi e.symm)]
  ·rw [List.nodup_cons]
   refine ⟨fun hm => ?_, ?_⟩
   ·rcases List.mem_append.1 hm with hm | hm
    ·have := h4.lt _ hm
     simp at this
     omega
    ·have := he.lt _ hm
     simp at this
     omega
   ·rw [List.nodup_append]
    refine ⟨hn5.2, hn, fun a ha b hb e => ?_⟩
    have h1 := h4.lt a ha
    have h2 := hge b hb
    omega
theorem own_new {d : Nat} {H : Heap} {ts : List Nat} {cs : List AV} (h : okLW (okW ti0 E0.tp d) ts cs) : OwnC d (H ++ (instL ti0 E0.tp H.length ts cs).2) ts (instL ti0 E0.tp H.length ts cs).1 cs (List.range' H.length (instL ti0 E0.tp H.length ts cs).2.length) :=
 own_instL (fun ty t N h h' _ => own_inst d ty t N h h') ts cs H.length h (Lies_end _ _) (instL_live _ _ _)
theorem own_res {d : Nat} {H : Heap} {w tyS k : Nat} {cty : List Nat} {x : AV} {cells : List AV} (hty : ∃ i j, ti0 tyS = some i ∧ ti0 i.elem = some j ∧ j.size = w ∧ j.cty = cty) (h : OwnS d H w cty x k cells) : ∃ ids, ownT ti0 E0.tp H (d + 1) tyS x = some (.ro k cells, ids) ∧ ids.Nodup := by
 rcases h with ⟨rfl, rfl, rfl⟩ | ⟨id, raw, ids, rfl, h2, h3, h4, h5⟩
 ·exact ⟨[], rfl, List.nodup_nil⟩
 ·obtain ⟨i, j, e1, e2, rfl, rfl⟩ := hty
  refine ⟨id :: ids, ?_, h5⟩
  rw [ownT_sl]
  have ha : isApp H id = true := by simp only [isApp, h2]
  have hr : rdCells H id 0 (k * j.size) = some raw := by
   simp only [rdCells, h2, if_true, Nat.zero_add, h3, Nat.le_refl, List.drop_zero]
   rw [← h3, List.take_length]
  have h4' : ownL (ownT ti0 E0.tp H d) (List.replicate k j.cty).flatten raw = some (cells, ids) := h4
  simp only [e1, e2, Option.bind_some, if_true, ha, hr, h4']
end Go.Proofs.YtejjggnchdldoaaDoor.Abs
set_option linter.unusedVariables false
set_option linter.unusedSimpArgs false
namespace Go.Proofs.YtejjggnchdldoaaDoor.Abs
open Go
section
variable {ti : Nat → Option TI} {tp : Nat → Option (List Nat)} {H : Heap}
theorem ownL_dep {d d' : Nat} (hd : ∀ ty x t I, ownT ti tp H d ty x = some (t, I) → okW ti tp d' ty t → ownT ti tp H d' ty x = some (t, I)) : ∀ (ts : List Nat) (xs cells : List AV) (I : List Nat), ownL (ownT ti tp H d) ts xs = some (cells, I) → okLW (okW ti tp d') ts cells → ownL (ownT ti tp H d') ts xs = some (cells, I)
 | ts, [], cells, I, h, _ => by
  obtain ⟨rfl, e⟩ := ownL_nil h
  cases e
  rfl
 | [], _ :: _, _, _, h, _ => by simp [ownL] at h
 | t :: ts, x :: xs, cells, I, h, ho => by
  obtain ⟨a, b, h1, h2, e⟩ := ownL_cons h
  cases e
  have e1 := hd t x a.1 a.2 h1 ho.1
  have e2 := ownL_dep hd ts xs b.1 b.2 h2 ho.2
  rw [ownL, e1, Option.bind_some, e2]
  rfl
theorem own_dep : ∀ (d d' ty : Nat) (x t : AV) (I : List Nat), ownT ti tp H d ty x = some (t, I) → okW ti tp d' ty t → ownT ti tp H d' ty x = some (t, I)
 | 0, _, _, _, _, _, h, _ => by simp [ownT] at h
 | d + 1, 0, _, _, _, _, _, ho => by cases ho
 | d + 1, d' + 1, ty, x, t, I, h, ho => by
  cases x with
  | sc v =>
   obtain ⟨rfl, rfl⟩ : AV.sc v = t ∧ [] = I := by simpa [ownT] using h
   rfl
  | nl =>
   obtain ⟨rfl, rfl⟩ : AV.ro 0 [] = t ∧ [] = I := by simpa [ownT] using h
   rfl
  | sl id off n z =>
   rw [ownT_sl] at h ⊢
   simp only [Option.bind_eq_some_iff] at h
   obtain ⟨i, h1, j, h2, h3⟩ := h
   split at h3
   case isFalse => cases h3
   rename_i hz
   split at h3
   case isFalse => cases h3
   rename_i ha
   simp only [Option.bind_eq_some_iff] at h3
   obtain ⟨cs, h4, q, h5, h6⟩ := h3
   obtain ⟨rfl, rfl⟩ : AV.ro n q.1 = t ∧ id :: q.2 = I := by simpa using h6
   obtain ⟨i', j', g1, g2, g3, g4⟩ := ho
   rw [h1] at g1
   cases g1
   rw [h2] at g2
   cases g2
   have e3 := ownL_dep (fun ty x t I h ho => own_dep d d' ty x t I h ho) _ _ _ _ h5 g4
   rw [hz] at h4
   simp only [h1, h2, Option.bind_some, hz, if_true, ha, h4, e3]
  | agg cs =>
   rw [ownT_agg] at h ⊢
   simp only [Option.bind_eq_some_iff] at h
   obtain ⟨i, h1, q, h2, h3⟩ := h
   obtain ⟨rfl, rfl⟩ : AV.agg q.1 = t ∧ q.2 = I := by simpa using h3
   obtain ⟨i', g1, g2⟩ := ho
   rw [h1] at g1
   cases g1
   have e3 := ownL_dep (fun ty x t I h ho => own_dep d d' ty x t I h ho) _ _ _ _ h2 g2
   rw [h1, Option.bind_some, e3]
   rfl
  | tup cs =>
   rw [ownT_tup] at h ⊢
   simp only [Option.bind_eq_some_iff] at h
   obtain ⟨i, h1, q, h2, h3⟩ := h
   obtain ⟨rfl, rfl⟩ : AV.tup q.1 = t ∧ q.2 = I := by simpa using h3
   obtain ⟨i', g1, g2⟩ := ho
   rw [h1] at g1
   cases g1
   have e3 := ownL_dep (fun ty x t I h ho => own_dep d d' ty x t I h ho) _ _ _ _ h2 g2
   rw [h1, Option.bind_some, e3]
   rfl
  | _ => simp [ownT] at h
theorem ownL_view {d : Nat} (hd : ∀ ty x t I, ownT ti tp H d ty x = some (t, I) → viewV H d x = some t) : ∀ (ts : List Nat) (xs cells : List AV) (I : List Nat), ownL (ownT ti tp H d) ts xs = some (cells, I) → xs.mapM (viewV H d) = some cells
 | ts, [], cells, I, h => by
  obtain ⟨rfl, e⟩ := ownL_nil h
  cases e
  rfl
 | [], _ :: _, _, _, h => by simp [ownL] at h
 | t :: ts, x :: xs, cells, I, h => by
  obtain ⟨a, b, h1, h2, e⟩ := ownL_cons h
  cases e
  simp only [List.mapM_cons, hd t x a.1 a.2 h1, ownL_view hd ts xs b.1 b.2 h2, Option.pure_def, Option.bind_eq_bind, Option.bind_some]
theorem own_view : ∀ (d ty : Nat) (x t : AV) (I : List Nat), ownT ti tp H d ty x = some (t, I) → viewV H d x = some t
 | 0, _, _, _, _, h => by simp [ownT] at h
 | d + 1, ty, x, t, I, h => by
  have ih := ownL_view (ti := ti) (tp := tp) (H := H) (d := d) (fun ty x t I h => own_view d ty x t I h)
  cases x with
  | sc v =>
   obtain ⟨rfl, rfl⟩ : AV.sc v = t ∧ [] = I := by simpa [ownT] using h
   rfl
  | nl =>
   obtain ⟨rfl, rfl⟩ : AV.ro 0 [] = t ∧ [] = I := by simpa [ownT] using h
   rfl
  | sl id off n z =>
   rw [ownT_sl] at h
   simp only [Option.bind_eq_some_iff] at h
   obtain ⟨i, h1, j, h2, h3⟩ := h
   split at h3
   case isFalse => cases h3
   split at h3
   case isFalse => cases h3
   simp only [Option.bind_eq_some_iff] at h3
   obtain ⟨cs, h4, q, h5, h6⟩ := h3
   obtain ⟨rfl, rfl⟩ : AV.ro n q.1 = t ∧ id :: q.2 = I := by simpa using h6
   rw [viewV_sl, h4, Option.bind_some, ih _ _ _ _ h5]
   rfl
  | agg cs =>
   rw [ownT_agg] at h
   simp only [Option.bind_eq_some_iff] at h
   obtain ⟨i, h1, q, h2, h3⟩ := h
   obtain ⟨rfl, rfl⟩ : AV.agg q.1 = t ∧ q.2 = I := by simpa using h3
   rw [viewV_agg, ih _ _ _ _ h2]
   rfl
  | tup cs =>
   rw [ownT_tup] at h
   simp only [Option.bind_eq_some_iff] at h
   obtain ⟨i, h1, q, h2, h3⟩ := h
   obtain ⟨rfl, rfl⟩ : AV.tup q.1 = t ∧ q.2 = I := by simpa using h3
   show (cs.mapM (viewV H d)).bind _ = _
   rw [ih _ _ _ _ h2]
   rfl
  | _ => simp [ownT] at h
theorem okLW_mono {f g : Nat → AV → Prop} (hfg : ∀ t x, f t x → g t x) : ∀ {ts : List Nat} {cs : List AV}, okLW f ts cs → okLW g ts cs
 | [], [], h => h
 | _ :: ts, _ :: cs, h => ⟨hfg _ _ h.1, okLW_mono hfg h.2⟩
theorem okW_mono : ∀ (d ty : Nat) (x : AV), okW ti tp d ty x → okW ti tp (d + 1) ty x
 | 0, _, _, h => by cases h
 | d + 1, ty, x, h => by
  cases x with
  | sc v => trivial
  | ro n cells =>
   obtain ⟨i, j, h1, h2, h3, h4⟩ := h
   exact ⟨i, j, h1, h2, h3, okLW_mono (okW_mono d) h4⟩
  | agg cs =>
   obtain ⟨i, h1, h2⟩ := h
   exact ⟨i, h1, okLW_mono (okW_mono d) h2⟩
  | tup cs =>
   obtain ⟨i, h1, h2⟩ := h
   exact ⟨i, h1, okLW_mono (okW_mono d) h2⟩
  | _ => cases h
theorem okW_le {d d' ty : Nat} {x : AV} (h : okW ti tp d ty x) (hd : d ≤ d') : okW ti tp d' ty x := by
 induction hd with
 | refl => exact h
 | step _ ih => exact okW_mono _ _ _ ih
theorem okLW_le {d d' : Nat} {ts : List Nat} {cs : List AV} (h : okLW (okW ti tp d) ts cs) (hd : d ≤ d') : okLW (okW ti tp d') ts cs := okLW_mono (fun _ _ h => okW_le h hd) h
end
inductive Ck where
 | blk (id : Nat) (cs : List AV) (a : Bool)
 | own (x : AV) (ty : Nat) (t : AV)
 | shr (x : AV) (ty : Nat) (t : AV) (y : AV) (ty' : Nat) (t' : AV)
 | shs (x : AV) (ty : Nat) (t : AV) (ys : List (AV × Nat × AV))
def CkOk (H : Heap) (c : Ck) (I : List Nat) : Prop :=
 match c with
 | .blk id cs a => I = [id] ∧ H[id]? = some ⟨cs, true, a⟩
 | .own x ty t => isLeaf x = true ∧ okW ti0 E0.tp 6 ty t ∧ ownT ti0 E0.tp H 6 ty x = some (t, I)
 | .shr x ty t y ty' t' => (isLeaf x = true ∧ okW ti0 E0.tp 6 ty t ∧ ownT ti0 E0.tp H 6 ty x = some (t, I)) ∧ okW ti0 E0.tp 6 ty' t' ∧ ∃ J, ownT ti0 E0.tp H 6 ty' y = some (t', J) ∧ ∀ i ∈ J, i ∈ I
 | .shs x ty t ys => (isLeaf x = true ∧ okW ti0 E0.tp 6 ty t ∧ ownT ti0 E0.tp H 6 ty x = some (t, I)) ∧ ∀ q ∈ ys, okW ti0 E0.tp 6 q.2.1 q.2.2 ∧ ∃ J, ownT ti0 E0.tp H 6 q.2.1 q.1 = some (q.2.2, J) ∧ ∀ i ∈ J, i ∈ I
def SepI (H : Heap) : List Ck → List Nat → Prop
 | [], I => I = []
 | c :: L, I => ∃ J R, I = J ++ R ∧ CkOk H c J ∧ SepI H L R
def Sep (H : Heap) (L : List Ck) : Prop := ∃ I, SepI H L I ∧ I.Nodup
inductive Pk : List Ck → Ck → List Ck → Prop
 | here {c : Ck} {L : List Ck} : Pk (c :: L) c L
 | there {a c : Ck} {L L' : List Ck} : Pk L c L' → Pk (a :: L) c (a :: L')
section
variable {H H' : Heap} {L L' L1 L2 : List Ck} {c : Ck} {I J R : List Nat}
theorem sep_nil : Sep H [] := ⟨[], rfl, List.nodup_nil⟩
theorem CkOk.frame (h : CkOk H c I) (hs : ∀ i ∈ I, H'[i]? = H[i]?) : CkOk H' c I := by
 cases c with
 | blk id cs a =>
  obtain ⟨rfl, h2⟩ := h
  exact ⟨rfl, by rw [hs id (by simp)]; exact h2⟩
 | own x ty t => exact ⟨h.1, h.2.1, own_frame 6 ty x _ h.2.2 hs⟩
 | shr x ty t y ty' t' =>
  obtain ⟨⟨h1, h2, h3⟩, h4, J, h5, h6⟩ := h
  exact ⟨⟨h1, h2, own_frame 6 ty x _ h3 hs⟩, h4, J, own_frame 6 ty' y _ h5 fun i hi => hs i (h6 i hi), h6⟩
 | shs x ty t ys =>
  obtain ⟨⟨h1, h2, h3⟩, h4⟩ := h
  exact ⟨⟨h1, h2, own_frame 6 ty x _ h3 hs⟩, fun q hq => by
   obtain ⟨g1, J, g2, g3⟩ := h4 q hq
   exact ⟨g1, J, own_frame 6 _ _ _ g2 fun i hi => hs i (g3 i hi), g3⟩⟩
theorem CkOk.lt (h : CkOk H c I) : ∀ i ∈ I, i < H.length := by
 cases c with
 | blk id cs a =>
  obtain ⟨rfl, h2⟩ := h
  intro i hi
  rw [List.mem_singleton] at hi
  subst hi
  exact (List.getElem?_eq_some_iff.1 h2).1
 | own x ty t => exact own_lt 6 ty x _ h.2.2
 | shr x ty t y ty' t' => exact own_lt 6 ty x _ h.1.2.2
 | shs x ty t ys => exact own_lt 6 ty x _ h.1.2.2
theorem SepI.frame : ∀ {L : List Ck} {I : List Nat}, SepI H L I → (∀ i ∈ I, H'[i]? = H[i]?) → SepI H' L I
 | [], I, h, _ => h
 | c :: L, I, h, hs => by
  obtain ⟨J, R, rfl, h1, h2⟩ := h
  exact ⟨J, R, rfl, h1.frame fun i hi => hs i (List.mem_append_left _ hi), h2.frame fun i hi => hs i (List.mem_append_right _ hi)⟩
theorem SepI.lt : ∀ {L : List Ck} {I : List Nat}, SepI H L I → ∀ i ∈ I, i < H.length
 | [], I, h => by
  cases (show I = [] from h)
  intro i hi
  cases hi
 | c :: L, I, h => by
  obtain ⟨J, R, rfl, h1, h2⟩ := h
  intro i hi
  rcases List.mem_append.1 hi with hi | hi
  ·exact h1.lt i hi
  ·exact h2.lt i hi
theorem SepI.grow (h : SepI H L I) (X : List Blk) : SepI (H ++ X) L I := h.frame fun i hi => List.getElem?_append_left (h.lt i hi)
theorem Sep.grow (h : Sep H L) (X : List Blk) : Sep (H ++ X) L := by
 obtain ⟨I, h1, h2⟩ := h
 exact ⟨I, h1.grow X, h2⟩
theorem Sep.new {X : List Blk} (hs : Sep H L) (hc : CkOk (H ++ X) c J) (hJ : J.Nodup) (hge : ∀ i ∈ J, H.length ≤ i) : Sep (H ++ X) (c :: L) := by
 obtain ⟨I, h1, h2⟩ := hs
 refine ⟨J ++ I, ⟨J, I, rfl, hc, h1.grow X⟩, List.nodup_append.2 ⟨hJ, h2, fun a ha b hb e => ?_⟩⟩
 have := h1.lt b hb
 have := hge a ha
 omega
theorem Pk.sepI : ∀ {L L' : List Ck} {c : Ck} {I : List Nat}, Pk L c L' → SepI H L I → ∃ J R, CkOk H c J ∧ SepI H L' R ∧ I.Perm (J ++ R)
 | _, _, _, _, .here, h => by
  obtain ⟨J, R, rfl, h1, h2⟩ := h
  exact ⟨J, R, h1, h2, List.Perm.refl _⟩
 | _, _, _, _, .there p, h => by
  obtain ⟨J, R, rfl, h1, h2⟩ := h
  obtain ⟨J', R', g1, g2, g3⟩ := p.sepI h2
  refine ⟨J', J ++ R', g1, ⟨J, R', rfl, h1, g2⟩, ?_⟩
  refine (List.Perm.append_left J g3).trans ?_
  rw [← List.append_assoc, ← List.append_assoc]
  exact List.Perm.append_right R' List.perm_append_comm
theorem Sep.pick (h : Sep H L) (p : Pk L c L') : Sep H (c :: L') := by
 obtain ⟨I, h1, h2⟩ := h
 obtain ⟨J, R, g1, g2, g3⟩ := p.sepI h1
 exact ⟨J ++ R, ⟨J, R, rfl, g1, g2⟩, g3.nodup_iff.1 h2⟩
theorem Sep.tail (h : Sep H (c :: L)) : Sep H L := by
 obtain ⟨I, ⟨J, R, rfl, h1, h2⟩, h3⟩ := h
 exact ⟨R, h2, (List.nodup_append.1 h3).2.1⟩
theorem Sep.blk {id : Nat} {cs : List AV} {a : Bool} (h : Sep H L) (p : Pk L (.blk id cs a) L') : H[id]? = some ⟨cs, true, a⟩ := by
 obtain ⟨I, ⟨J, R, rfl, h1, h2⟩, h3⟩ := h.pick p
 exact h1.2
theorem Sep.put {id : Nat} {cs : List AV} {a : Bool} (h : Sep H L) (p : Pk L (.blk id cs a) L') (cs' : List AV) (a' : Bool) : Sep (H.set id ⟨cs', true, a'⟩) (.blk id cs' a' :: L') := by
 obtain ⟨I, ⟨J, R, rfl, ⟨rfl, h1⟩, h2⟩, h3⟩ := h.pick p
 have hn := (List.nodup_cons.1 h3).1
 have hl := (List.getElem?_eq_some_iff.1 h1).1
 refine ⟨[id] ++ R, ⟨[id], R, rfl, ⟨rfl, by rw [List.getElem?_set_self hl]⟩, h2.frame fun i hi => ?_⟩, h3⟩
 rw [List.getElem?_set_ne]
 rintro rfl
 exact hn hi
theorem Sep.own {x t : AV} {ty : Nat} (h : Sep H L) (p : Pk L (.own x ty t) L') : isLeaf x = true ∧ okW ti0 E0.tp 6 ty t ∧ ∃ I, ownT ti0 E0.tp H 6 ty x = some (t, I) ∧ I.Nodup := by
 obtain ⟨I, ⟨J, R, rfl, ⟨h0, h1, h1'⟩, h2⟩, h3⟩ := h.pick p
 exact ⟨h0, h1, J, h1', (List.nodup_append.1 h3).1⟩
theorem Sep.seen {x t y t' : AV} {ty ty' : Nat} (h : Sep H L) (p : Pk L (.shr x ty t y ty' t') L') : okW ti0 E0.tp 6 ty' t' ∧ ∃ I, ownT ti0 E0.tp H 6 ty' y = some (t', I) := by
 obtain ⟨I, ⟨J, R, rfl, ⟨h0, h1, J', h1', h3⟩, h2⟩, h4⟩ := h.pick p
 exact ⟨h1, J', h1'⟩
theorem Sep.toShs {x t : AV} {ty : Nat} (h : Sep H L) (p : Pk L (.own x ty t) L') : Sep H (.shs x ty t [] :: L') := by
 obtain ⟨I, ⟨J, R, rfl, h0, h2⟩, h3⟩ := h.pick p
 exact ⟨J ++ R, ⟨J, R, rfl, ⟨h0, fun q hq => by cases hq⟩, h2⟩, h3⟩
theorem Sep.ofShs {x t : AV} {ty : Nat} {ys : List (AV × Nat × AV)} (h : Sep H L) (p : Pk L (.shs x ty t ys) L') : Sep H (.own x ty t :: L') := by
 obtain ⟨I, ⟨J, R, rfl, ⟨h0, _⟩, h2⟩, h3⟩ := h.pick p
 exact ⟨J ++ R, ⟨J, R, rfl, h0, h2⟩, h3⟩
theorem Sep.seenS {x t : AV} {ty k : Nat} {ys : List (AV × Nat × AV)} {q : AV × Nat × AV} (h : Sep H L) (p : Pk L (.shs x ty t ys) L') (hk : ys[k]? = some q) : okW ti0 E0.tp 6 q.2.1 q.2.2 ∧ ∃ I, ownT ti0 E0.tp H 6 q.2.1 q.1 = some (q.2.2, I) := by
 obtain ⟨I, ⟨J, R, rfl, ⟨h0, h1⟩, h2⟩, h4⟩ := h.pick p
 obtain ⟨g1, J', g2, _⟩ := h1 q (List.mem_of_getElem? hk)
 exact ⟨g1, J', g2⟩
theorem Sep.forget {x t y t' : AV} {ty ty' : Nat} (h : Sep H L) (p : Pk L (.shr x ty t y ty' t') L') : Sep H (.own x ty t :: L') := by
 obtain ⟨I, ⟨J, R, rfl, ⟨h0, _⟩, h2⟩, h4⟩ := h.pick p
 exact ⟨J ++ R, ⟨J, R, rfl, h0, h2⟩, h4⟩
theorem Sep.nl {ty : Nat} (h : Sep H L) (hty : ∃ i j, ti0 ty = some i ∧ ti0 i.elem = some j) : Sep H (.own .nl ty (.ro 0 []) :: L) := by
 obtain ⟨I, h1, h2⟩ := h
 obtain ⟨i, j, e1, e2⟩ := hty
 exact ⟨[] ++ I, ⟨[], I, rfl, ⟨rfl, ⟨i, j, e1, e2, by simp, by simp [okLW]⟩, rfl⟩, h1⟩, h2⟩
inductive OwnR : List Ck → List AV → List Nat → List AV → List Ck → Prop
 | nil {L : List Ck} : OwnR L [] [] [] L
 | sc {L L' : List Ck} {v : Value} {raw cells : List AV} {ty : Nat} {tys : List Nat} : OwnR L raw tys cells L' → OwnR L (.sc v :: raw) (ty :: tys) (.sc v :: cells) L'
 | nl {L L' : List Ck} {raw cells : List AV} {ty : Nat} {tys : List Nat} : OwnR L raw tys cells L' → OwnR L (.nl :: raw) (ty :: tys) (.ro 0 [] :: cells) L'
 | own {L L1 L' : List Ck} {x t : AV} {raw cells : List AV} {ty : Nat} {tys : List Nat} : Pk L (.own x ty t) L1 → OwnR L1 raw tys cells L' → OwnR L (x :: raw) (ty :: tys) (t :: cells) L'
 | agg {L L1 L' : List Ck} {cs ts raw cells : List AV} {ty : Nat} {tys cty : List Nat} : (∃ i, ti0 ty = some i ∧ i.cty = cty) → OwnR L cs cty ts L1 → OwnR L1 raw tys cells L' → OwnR L (.agg cs :: raw) (ty :: tys) (.agg ts :: cells) L'
theorem OwnR.sound : ∀ {L L' : List Ck} {raw cells : List AV} {tys : List Nat} {I : List Nat}, OwnR L raw tys cells L' → SepI H L I → ∀ d, okLW (okW ti0 E0.tp d) tys cells → ∃ J R, ownL (ownT ti0 E0.tp H d) tys raw = some (cells, J) ∧ SepI H L' R ∧ I.Perm (J ++ R)
 | _, _, _, _, _, I, .nil, h, d, _ => ⟨[], I, rfl, h, List.Perm.refl _⟩
 | _, _, _, _, _, I, .sc q, h, d + 1, ho => by
  obtain ⟨J, R, h1, h2, h3⟩ := q.sound h (d + 1) ho.2
  refine ⟨J, R, ?_, h2, h3⟩
  rw [ownL, ownT_sc, Option.bind_some, h1]
  rfl
 | _, _, _, _, _, I, .nl q, h, d + 1, ho => by
  obtain ⟨J, R, h1, h2, h3⟩ := q.sound h (d + 1) ho.2
  refine ⟨J, R, ?_, h2, h3⟩
  rw [ownL, show ownT ti0 E0.tp H (d + 1) _ .nl = some (.ro 0 [], []) from rfl, Option.bind_some, h1]
  rfl
 | _, _, _, _, _, I, .own p q, h, d, ho => by
  obtain ⟨J1, R1, g1, g2, g3⟩ := p.sepI h
  obtain ⟨J, R, h1, h2, h3⟩ := q.sound g2 d ho.2
  have e := own_dep 6 d _ _ _ _ g1.2.2 ho.1
  refine ⟨J1 ++ J, R, ?_, h2, ?_⟩
  ·rw [ownL, e, Option.bind_some, h1]
   rfl
  ·refine g3.trans ?_
   rw [List.append_assoc]
   exact List.Perm.append_left J1 h3
 | _, _, _, _, _, I, .agg hty p q, h, d + 1, ho => by
  obtain ⟨i, e1, rfl⟩ := hty
  obtain ⟨i', g1, g2⟩ := ho.1
  rw [e1] at g1
  cases g1
  obtain ⟨J1, R1, a1, a2, a3⟩ := p.sound h (d + 1) (okLW_le g2 (Nat.le_succ d))
  obtain ⟨J, R, h1, h2, h3⟩ := q.sound a2 (d + 1) ho.2
  have a1' := ownL_dep (fun ty x t I h ho => own_dep (d + 1) d ty x t I h ho) _ _ _ _ a1 g2
  refine ⟨J1 ++ J, R, ?_, h2, ?_⟩
  ·rw [ownL, ownT_agg, e1, Option.bind_some, a1', Option.bind_some, Option.bind_some, h1]
   rfl
  ·refine a3.trans ?_
   rw [List.append_assoc]
   exact List.Perm.append_left J1 h3
 | _, _, _, _, _, I, .sc q, h, 0, ho => by cases ho.1
 | _, _, _, _, _, I, .nl q, h, 0, ho => by cases ho.1
 | _, _, _, _, _, I, .agg _ p q, h, 0, ho => by cases ho.1
end
end Go.Proofs.YtejjggnchdldoaaDoor.Abs
set_option linter.unusedVariables false
set_option linter.unusedSimpArgs false
namespace Go.Proofs.YtejjggnchdldoaaDoor.Abs
open Go
def Gd {β : Type} (G : Option β → Prop) (o : Option β) : Prop := G o
section
variable {β : Type} {n : Nat} {H : Heap} {L L' L1 L2 : List Ck} {G : Option β → Prop} {K : AV → Option β} {KH : AV → Heap → Option β}
theorem g_congr {a b : Option β} (e : a = b) (h : Gd G b) : Gd G a := by rw [e]; exact h
theorem g_new {cs : List AV} (hs : Sep H L) (h : ∀ i H', Sep H' (.blk i cs true :: L) → Gd G (KH (.ptr i 0) H')) : Gd G (pNew cs H fun x H => KH x H) :=
 h _ _ (hs.new (J := [H.length]) ⟨rfl, by rw [List.getElem?_append_right (Nat.le_refl _), Nat.sub_self]; rfl⟩ (by simp) (by simp))
theorem g_newSl {k w : Nat} {cs : List AV} {a : Bool} (hs : Sep H L) (h : ∀ i H', Sep H' (.blk i cs a :: L) → Gd G (KH (.sl i 0 k w) H')) : Gd G (pNewSl k w cs a H fun x H => KH x H) :=
 h _ _ (hs.new (J := [H.length]) ⟨rfl, by rw [List.getElem?_append_right (Nat.le_refl _), Nat.sub_self]; rfl⟩ (by simp) (by simp))
theorem g_box {x : AV} {cs : List AV} (hs : Sep H L) (hc : cellsA x = some cs) (h : ∀ i H', Sep H' (.blk i cs true :: L) → Gd G (KH (.ptr i 0) H')) : Gd G (pBox x H fun x H => KH x H) := by
 refine g_congr (b := pNew cs H fun x H => KH x H) ?_ (g_new hs h)
 show (cellsA x).bind _ = _
 rw [hc]
 rfl
theorem cells_fl {cs : List AV} (h : cs.all isFl = true) : cellsA (.agg cs) = some cs := fl_cells h
theorem cells_agg {cs : List AV} (h : cs.all isLeaf = true) : cellsA (.agg cs) = some cs := by
 show (if cs.all isLeaf then some cs else none) = _
 rw [if_pos h]
theorem lf_c {x : AV} {xs : List AV} (h : isLeaf x = true) (hs : xs.all isLeaf = true) : (x :: xs).all isLeaf = true := by
 rw [List.all_cons, h, hs]
 rfl
theorem cells_leaf {x : AV} (h : isLeaf x = true) : cellsA x = some [x] := by
 cases x <;> simp_all [cellsA, isLeaf]
theorem g_ld {i o : Nat} {cs : List AV} {a : Bool} {c : AV} (hs : Sep H L) (hp : Pk L (.blk i cs a) L1) (hc : cs[o]? = some c) (h : Gd G (K c)) : Gd G (pLoad false 1 (.ptr i o) H fun x => K x) := by
 refine g_congr ?_ h
 obtain ⟨hlt, he⟩ := List.getElem?_eq_some_iff.1 hc
 have e : rdCells H i o 1 = some [c] := by
  simp only [rdCells, hs.blk hp, if_true]
  rw [if_pos (by omega), List.drop_eq_getElem_cons hlt, he]
  rfl
 exact ldF e _
theorem g_ldA {i o w : Nat} {cs ds : List AV} {a : Bool} (hs : Sep H L) (hp : Pk L (.blk i cs a) L1) (hl : o + w ≤ cs.length) (hc : (cs.drop o).take w = ds) (h : Gd G (K (.agg ds))) : Gd G (pLoad true w (.ptr i o) H fun x => K x) := by
 refine g_congr ?_ h
 have e : rdCells H i o w = some ds := by
  simp only [rdCells, hs.blk hp, if_true]
  rw [if_pos hl, hc]
 exact ldT e _
theorem g_ldW {i w : Nat} {cs : List AV} {a : Bool} (hs : Sep H L) (hp : Pk L (.blk i cs a) L1) (hl : cs.length = w) (h : Gd G (K (.agg cs))) : Gd G (pLoad true w (.ptr i 0) H fun x => K x) :=
 g_ldA hs hp (by omega) (by rw [List.drop_zero, ← hl, List.take_length]) h
theorem g_st {i o w : Nat} {cs cs' ds : List AV} {a : Bool} {y : AV} {KS : Heap → Option β} (hs : Sep H L) (hp : Pk L (.blk i cs a) L1) (hy : cellsA y = some ds) (hd : ds.length = w) (hl : o + w ≤ cs.length) (hc : splice cs o ds = cs') (h : ∀ H', Sep H' (.blk i cs' a :: L1) → Gd G (KS H')) : Gd G (pStore w (.ptr i o) y H fun H => KS H) := by
 have hb := hs.blk hp
 refine g_congr (st_at w i o y ⟨cs, true, a⟩ ds H _ hb hy hd hl rfl) ?_
 have := hs.put hp cs' a
 rw [← hc] at this
 exact h _ (by rw [← hc]; exact this)
theorem g_ldR {cells : List AV} {c : AV} (hc : cells[0]? = some c) (h : Gd G (K c)) : Gd G (pLoad false 1 (.rp cells) H fun x => K x) := by
 cases cells with
 | nil => cases hc
 | cons x xs =>
  obtain rfl : x = c := by simpa using hc
  refine g_congr (ld1_rp x xs H _) h
theorem g_ldAR {w : Nat} {cells ds : List AV} (hl : w ≤ cells.length) (hc : cells.take w = ds) (h : Gd G (K (.agg ds))) : Gd G (pLoad true w (.rp cells) H fun x => K x) := by
 refine g_congr ?_ h
 simp only [pLoad, hl, if_true, hc]
theorem g_ldE {w : Nat} {cs rest : List AV} (hw : cs.length = w) (h : Gd G (K (.agg cs))) : Gd G (pLoad true w (.rp (cs ++ rest)) H fun x => K x) := g_congr (ld_rp w cs rest H _ hw) h
theorem g_fadr {o i off o' : Nat} (e : off + o = o') (h : Gd G (K (.ptr i o'))) : Gd G (pFadr o (.ptr i off) fun x => K x) := by subst e; exact h
theorem g_fadrR {o : Nat} {cells : List AV} (h : Gd G (K (.rp (cells.drop o)))) : Gd G (pFadr o (.rp cells) fun x => K x) := h
theorem g_nil {id off : Nat} (h : Gd G (K (.ptr id off))) : Gd G (pNil (.ptr id off) fun t => K t) := h
theorem g_nilR {cs : List AV} (h : Gd G (K (.rp cs))) : Gd G (pNil (.rp cs) fun t => K t) := h
theorem g_fld {o : Nat} {cs : List AV} {c : AV} (hc : cs[o]? = some c) (h : Gd G (K c)) : Gd G (pFld false o 1 (.agg cs) fun x => K x) := by
 refine g_congr ?_ h
 obtain ⟨hlt, he⟩ := List.getElem?_eq_some_iff.1 hc
 simp only [pFld]
 rw [if_pos (by omega), List.drop_eq_getElem_cons hlt, he]
 rfl
theorem g_fldA {o w : Nat} {cs ds : List AV} (hl : o + w ≤ cs.length) (hc : (cs.drop o).take w = ds) (h : Gd G (K (.agg ds))) : Gd G (pFld true o w (.agg cs) fun x => K x) := by
 refine g_congr ?_ h
 simp only [pFld]
 rw [if_pos hl, hc]
 rfl
theorem fill_c {z cs z' r : List AV} {o n : Nat} {v : AV} {rest : List (Nat × Nat × AV)} (h : cellsA v = some cs) (hl : cs.length = n) (ho : o + n ≤ z.length) (hz : splice z o cs = z') (h2 : fillA z' rest = some r) : fillA z ((o, n, v) :: rest) = some r := by
 subst hz
 subst hl
 simp only [fillA, h, Option.bind_some, if_true, if_pos ho]
 exact h2
theorem g_fill {zs cs : List AV} {ps : List (Nat × Nat × AV)} {KL : List AV → Option β} (hf : fillA zs ps = some cs) (h : Gd G (KL cs)) : Gd G ((fillA zs ps).bind fun c => KL c) := by
 rw [hf]
 exact h
theorem g_extr {i : Nat} {vs : List AV} {v : AV} (hv : vs[i]? = some v) (h : Gd G (K v)) : Gd G (pExtr (.tup vs) i fun x => K x) := by
 refine g_congr ?_ h
 show (vs[i]?).bind _ = _
 rw [hv]
 rfl
theorem g_len {m : Nat} {cs : List AV} (h : Gd G (K (.sc (.int .i64 m)))) : Gd G (pLen (.ro m cs) fun x => K x) := h
theorem g_lenS {s : ByteArray} (h : Gd G (K (.sc (.int .i64 s.size)))) : Gd G (pLenS (.sc (.string s)) fun x => K x) := h
theorem g_lenN (h : Gd G (K (.sc (.int .i64 (0 : Nat))))) : Gd G (pLen .nl fun x => K x) := h
theorem g_lenL {i o m w : Nat} (h : Gd G (K (.sc (.int .i64 m)))) : Gd G (pLen (.sl i o m w) fun x => K x) := h
theorem len_own {d ty m : Nat} {x : AV} {cells : List AV} {I : List Nat} (h : ownT ti0 E0.tp H d ty x = some (.ro m cells, I)) : lenA x = some m := by
 cases d with
 | zero => simp [ownT] at h
 | succ d =>
  cases x with
  | sc v => simp [ownT] at h
  | nl =>
   have := (Option.some.inj h)
   simp only [Prod.mk.injEq, AV.ro.injEq] at this
   rw [← this.1.1]
   rfl
  | sl id off n z =>
   rw [ownT_sl] at h
   simp only [Option.bind_eq_some_iff] at h
   obtain ⟨i, h1, j, h2, h3⟩ := h
   split at h3
   case isFalse => cases h3
   split at h3
   case isFalse => cases h3
   simp only [Option.bind_eq_some_iff] at h3
   obtain ⟨cs, h4, q, h5, h6⟩ := h3
   obtain ⟨h7, -⟩ : AV.ro n q.1 = .ro m cells ∧ _ := by simpa only [Prod.mk.injEq, Option.some.injEq] using h6
   cases h7
   rfl
  | agg cs =>
   rw [ownT_agg] at h
   simp only [Option.bind_eq_some_iff] at h
   obtain ⟨i, h1, q, h2, h3⟩ := h
   simp at h3
  | tup cs =>
   rw [ownT_tup] at h
   simp only [Option.bind_eq_some_iff] at h
   obtain ⟨i, h1, q, h2, h3⟩ := h
   simp at h3
  | _ => simp [ownT] at h
theorem g_lenO {x : AV} {ty m : Nat} {cells : List AV} (hs : Sep H L) (hp : Pk L (.own x ty (.ro m cells)) L1) (h : Gd G (K (.sc (.int .i64 m)))) : Gd G (pLen x fun x => K x) := by
 obtain ⟨_, _, I, e, _⟩ := hs.own hp
 have hl := len_own e
 refine g_congr ?_ h
 have key : ∀ (x : AV), (∀ v, x ≠ .sc v) → lenA x = some m → pLen x K = K (.sc (.int .i64 m)) := by
  intro x hx hl
  cases x with
  | sc v => exact absurd rfl (hx v)
  | nl => cases hl; rfl
  | ro n cs => cases hl; rfl
  | sl a b c d => cases hl; rfl
  | _ => cases hl
 refine key x (fun v hv => ?_) hl
 subst hv
 simp [ownT] at e
theorem g_bin {op : BinOp} {x y v : AV} (e : ∀ k : AV → Option β, pBin op x y k = k v) (h : Gd G (K v)) : Gd G (pBin op x y fun t => K t) := g_congr (e _) h
theorem g_binB {op : BinOp} {x y v : AV} (e : ∀ k : AV → Option β, pBinB op x y k = k v) (h : Gd G (K v)) : Gd G (pBinB op x y fun t => K t) := g_congr (e _) h
theorem g_eql {a b : Int} (h : Gd G (K (.sc (.bool (decide (a = b)))))) : Gd G (pBin .eql (.sc (.int .i64 a)) (.sc (.int .i64 b)) fun t => K t) := h
theorem g_neq {a b : Int} (h : Gd G (K (.sc (.bool (!decide (a = b)))))) : Gd G (pBin .neq (.sc (.int .i64 a)) (.sc (.int .i64 b)) fun t => K t) := h
theorem g_lss {a b : Int} (h : Gd G (K (.sc (.bool (decide (a < b)))))) : Gd G (pBin .lss (.sc (.int .i64 a)) (.sc (.int .i64 b)) fun t => K t) := h
theorem g_leq {a b : Int} (h : Gd G (K (.sc (.bool (decide (a ≤ b)))))) : Gd G (pBin .leq (.sc (.int .i64 a)) (.sc (.int .i64 b)) fun t => K t) := h
theorem g_gtr {a b : Int} (h : Gd G (K (.sc (.bool (decide (b < a)))))) : Gd G (pBin .gtr (.sc (.int .i64 a)) (.sc (.int .i64 b)) fun t => K t) := h
theorem g_geq {a b : Int} (h : Gd G (K (.sc (.bool (decide (b ≤ a)))))) : Gd G (pBin .geq (.sc (.int .i64 a)) (.sc (.int .i64 b)) fun t => K t) := h
theorem g_add {a b : Int} (h0 : -9223372036854775808 ≤ a + b) (h1 : a + b ≤ 9223372036854775807) (h : Gd G (K (.sc (.int .i64 (a + b))))) : Gd G (pBin .add (.sc (.int .i64 a)) (.sc (.int .i64 b)) fun t => K t) := by
 refine g_congr ?_ h
 show K (.sc (.int .i64 (IntKind.i64.wrap (a + b)))) = _
 rw [wrap64 _ h0 h1]
theorem g_sub {a b : Int} (h0 : -9223372036854775808 ≤ a - b) (h1 : a - b ≤ 9223372036854775807) (h : Gd G (K (.sc (.int .i64 (a - b))))) : Gd G (pBin .sub (.sc (.int .i64 a)) (.sc (.int .i64 b)) fun t => K t) := by
 refine g_congr ?_ h
 show K (.sc (.int .i64 (IntKind.i64.wrap (a - b)))) = _
 rw [wrap64 _ h0 h1]
theorem g_mul {a b : Int} (h0 : -9223372036854775808 ≤ a * b) (h1 : a * b ≤ 9223372036854775807) (h : Gd G (K (.sc (.int .i64 (a * b))))) : Gd G (pBin .mul (.sc (.int .i64 a)) (.sc (.int .i64 b)) fun t => K t) := by
 refine g_congr ?_ h
 show K (.sc (.int .i64 (IntKind.i64.wrap (a * b)))) = _
 rw [wrap64 _ h0 h1]
theorem g_eqlS {a b : ByteArray} (h : Gd G (K (.sc (.bool (a.toList == b.toList))))) : Gd G (pBin .eql (.sc (.string a)) (.sc (.string b)) fun t => K t) := h
theorem g_neqS {a b : ByteArray} (h : Gd G (K (.sc (.bool (!(a.toList == b.toList)))))) : Gd G (pBin .neq (.sc (.string a)) (.sc (.string b)) fun t => K t) := h
theorem g_not {b : Bool} (h : Gd G (K (.sc (.bool (!b))))) : Gd G (pUn .not (.sc (.bool b)) fun t => K t) := h
theorem g_letJ {α : Sort _} {γ : Type} {G : Option γ → Prop} {x : α} {f : α → Option γ} (h : Gd G (f x)) : Gd G (letJ x f) := h
theorem g_cT {b : Bool} {x y : Option β} (hb : b = true) (h : Gd G x) : Gd G (pCond (.sc (.bool b)) x y) := by subst hb; exact h
theorem g_cF {b : Bool} {x y : Option β} (hb : b = false) (h : Gd G y) : Gd G (pCond (.sc (.bool b)) x y) := by subst hb; exact h
theorem g_c {b : Bool} {x y : Option β} (h1 : b = true → Gd G x) (h2 : b = false → Gd G y) : Gd G (pCond (.sc (.bool b)) x y) := by
 cases b
 ·exact h2 rfl
 ·exact h1 rfl
theorem g_cD {p : Prop} [Decidable p] {x y : Option β} (h1 : p → Gd G x) (h2 : ¬ p → Gd G y) : Gd G (pCond (.sc (.bool (decide p))) x y) := g_c (fun h => h1 (of_decide_eq_true h)) (fun h => h2 (of_decide_eq_false h))
theorem g_cN {b : Bool} {x y : Option β} (h1 : b = false → Gd G x) (h2 : b = true → Gd G y) : Gd G (pCond (.sc (.bool (!b))) x y) := g_c (fun h => h1 (by simpa using h)) (fun h => h2 (by simpa using h))
theorem g_cND {p : Prop} [Decidable p] {x y : Option β} (h1 : ¬ p → Gd G x) (h2 : p → Gd G y) : Gd G (pCond (.sc (.bool (!decide p))) x y) := g_cN (fun h => h1 (of_decide_eq_false h)) (fun h => h2 (of_decide_eq_true h))
theorem g_cDT {p : Prop} [Decidable p] {x y : Option β} (hp : p) (h : Gd G x) : Gd G (pCond (.sc (.bool (decide p))) x y) := g_cT (decide_eq_true hp) h
theorem g_cDF {p : Prop} [Decidable p] {x y : Option β} (hp : ¬ p) (h : Gd G y) : Gd G (pCond (.sc (.bool (decide p))) x y) := g_cF (decide_eq_false hp) h
theorem g_gd {b t : Bool} {m : (AV → Heap → Option β) → Option β} (h1 : b = t → Gd G (m fun x H => KH x H)) (h2 : b = (!t) → Gd G (KH (.sc undef) H)) : Gd G (pGuard (.sc (.bool b)) t H m fun x H => KH x H) := by
 cases b <;> cases t <;> first | exact h1 rfl | exact h2 rfl
theorem g_gY {b t : Bool} {m : (AV → Heap → Option β) → Option β} (hb : b = t) (h : Gd G (m fun x H => KH x H)) : Gd G (pGuard (.sc (.bool b)) t H m fun x H => KH x H) := by
 subst hb
 cases b <;> exact h
theorem g_gN {b t : Bool} {m : (AV → Heap → Option β) → Option β} (hb : b = !t) (h : Gd G (KH (.sc undef) H)) : Gd G (pGuard (.sc (.bool b)) t H m fun x H => KH x H) := by
 subst hb
 cases t <;> exact h
theorem g_gU {t : Bool} {m : (AV → Heap → Option β) → Option β} (h : Gd G (KH (.sc undef) H)) : Gd G (pGuard (.sc undef) t H m fun x H => KH x H) := h
theorem g_pT {b : Bool} {x y : AV} (hb : b = true) (h : Gd G (K x)) : Gd G (pPick (.sc (.bool b)) x y fun t => K t) := by
 subst hb
 cases x <;> cases y <;> exact h
theorem g_pF {b : Bool} {x y : AV} (hb : b = false) (h : Gd G (K y)) : Gd G (pPick (.sc (.bool b)) x y fun t => K t) := by
 subst hb
 cases x <;> cases y <;> exact h
theorem g_pS {b : Bool} {x y : AV} (h1 : b = true → Gd G (K x)) (h2 : b = false → Gd G (K y)) : Gd G (pPick (.sc (.bool b)) x y fun t => K t) := by
 cases hb : b
 ·exact g_pF rfl (h2 hb)
 ·exact g_pT rfl (h1 hb)
inductive VwC (L : List Ck) : Nat → AV → AV → Prop
 | sc {d : Nat} {v : Value} : VwC L (d + 1) (.sc v) (.sc v)
 | nl {d : Nat} : VwC L (d + 1) .nl (.ro 0 [])
 | ro {d n : Nat} {cs : List AV} : VwC L (d + 1) (.ro n cs) (.ro n cs)
 | rp {d : Nat} {cs : List AV} : VwC L (d + 1) (.rp cs) (.rp cs)
 | own {d : Nat} {x t : AV} {ty : Nat} {L' : List Ck} : 6 ≤ d → Pk L (.own x ty t) L' → VwC L d x t
 | shr {d : Nat} {x t y t' : AV} {ty ty' : Nat} {L' : List Ck} : 6 ≤ d → Pk L (.shr x ty t y ty' t') L' → VwC L d y t'
 | shsE {d k : Nat} {x t y t' : AV} {ty ty' : Nat} {ys : List (AV × Nat × AV)} {L' : List Ck} : 6 ≤ d → Pk L (.shs x ty t ys) L' → ys[k]? = some (y, ty', t') → VwC L d y t'
 | shsO {d : Nat} {x t : AV} {ty : Nat} {ys : List (AV × Nat × AV)} {L' : List Ck} : 6 ≤ d → Pk L (.shs x ty t ys) L' → VwC L d x t
end
inductive VwL (L : List Ck) : Nat → List AV → List AV → Prop
 | nil {d : Nat} : VwL L d [] []
 | cons {d : Nat} {x t : AV} {xs ts : List AV} : VwC L d x t → VwL L d xs ts → VwL L d (x :: xs) (t :: ts)
 | agg {d : Nat} {cs ds xs ts : List AV} : VwL L d cs ds → VwL L (d + 1) xs ts → VwL L (d + 1) (.agg cs :: xs) (.agg ds :: ts)
 | aggF {d : Nat} {cs xs ts : List AV} : cs.all isFl = true → VwL L (d + 2) xs ts → VwL L (d + 2) (.agg cs :: xs) (.agg cs :: ts)
 | sl {d i k w : Nat} {cs ds xs ts : List AV} {a : Bool} {L' : List Ck} : Pk L (.blk i cs a) L' → cs.length = k * w → VwL L d cs ds → VwL L (d + 1) xs ts → VwL L (d + 1) (.sl i 0 k w :: xs) (.ro k ds :: ts)
 | slA {d i o k w : Nat} {cs ds xs ts : List AV} {a : Bool} {L' : List Ck} : Pk L (.blk i cs a) L' → o + k * w ≤ cs.length → VwL L d ((cs.drop o).take (k * w)) ds → VwL L (d + 1) xs ts → VwL L (d + 1) (.sl i o k w :: xs) (.ro k ds :: ts)
 | ptr {d i : Nat} {cs ds xs ts : List AV} {a : Bool} {L' : List Ck} : Pk L (.blk i cs a) L' → VwL L d cs ds → VwL L (d + 1) xs ts → VwL L (d + 1) (.ptr i 0 :: xs) (.rp ds :: ts)
 | fn {d f : Nat} {ps cs ps' cs' xs ts : List AV} : VwL L d ps ps' → VwL L d cs cs' → VwL L (d + 1) xs ts → VwL L (d + 1) (.fn f ps cs :: xs) (.fn f ps' cs' :: ts)
section
variable {β : Type} {n : Nat} {H : Heap} {L L' L1 L2 : List Ck} {G : Option β → Prop} {K : AV → Option β} {KH : AV → Heap → Option β}
theorem VwC.sound (hs : Sep H L) {d : Nat} {x t : AV} (h : VwC L d x t) : viewV H d x = some t := by
 cases h with
 | sc => rfl
 | nl => rfl
 | ro => rfl
 | rp => rfl
 | own hd hp =>
  obtain ⟨_, h1, I, h2, _⟩ := hs.own hp
  exact own_view d _ _ _ I (own_dep 6 d _ _ _ _ h2 (okW_le h1 hd))
 | shr hd hp =>
  obtain ⟨h1, I, h2⟩ := hs.seen hp
  exact own_view d _ _ _ I (own_dep 6 d _ _ _ _ h2 (okW_le h1 hd))
 | shsE hd hp hk =>
  obtain ⟨h1, I, h2⟩ := hs.seenS hp hk
  exact own_view d _ _ _ I (own_dep 6 d _ _ _ _ h2 (okW_le h1 hd))
 | shsO hd hp =>
  obtain ⟨_, h1, I, h2, _⟩ := (hs.ofShs hp).own .here
  exact own_view d _ _ _ I (own_dep 6 d _ _ _ _ h2 (okW_le h1 hd))
theorem view_cons {d : Nat} {x t : AV} {xs ts : List AV} (h : viewV H d x = some t) (hs : xs.mapM (viewV H d) = some ts) : (x :: xs).mapM (viewV H d) = some (t :: ts) := by
 simp only [List.mapM_cons, h, hs, Option.pure_def, Option.bind_eq_bind, Option.bind_some]
theorem VwL.sound (hs : Sep H L) : ∀ {d : Nat} {xs ts : List AV}, VwL L d xs ts → xs.mapM (viewV H d) = some ts
 | _, _, _, .nil => rfl
 | _, _, _, .cons h q => view_cons (h.sound hs) (q.sound hs)
 | _, _, _, .agg h q => view_cons (by rw [viewV_agg, h.sound hs]; rfl) (q.sound hs)
 | _, _, _, .aggF h q => view_cons (by rw [viewV_agg, fl_view h]; rfl) (q.sound hs)
 | _, _, _, .sl (i := i) (k := k) (w := w) (cs := cs) hp hl h q => view_cons (by
   rw [viewV_sl]
   have hb := hs.blk hp
   have e : rdCells H i 0 (k * w) = some cs := by
    simp only [rdCells, hb, if_true, List.drop_zero, Nat.zero_add, ← hl, Nat.le_refl, List.take_length]
   rw [e, Option.bind_some, h.sound hs]
   rfl) (q.sound hs)
 | _, _, _, .slA (i := i) (o := o) (k := k) (w := w) (cs := cs) hp hl h q => view_cons (by
   rw [viewV_sl]
   have hb := hs.blk hp
   have e : rdCells H i o (k * w) = some ((cs.drop o).take (k * w)) := by
    simp only [rdCells, hb, if_true, hl]
   rw [e, Option.bind_some, h.sound hs]
   rfl) (q.sound hs)
 | _, _, _, .ptr (i := i) (cs := cs) hp h q => view_cons (by
   have hb := hs.blk hp
   show ((H[i]?).bind fun b => (rdCells H i 0 (b.cells.length - 0)).bind fun cs => (cs.mapM (viewV H _)).bind fun vs => some (AV.rp vs)) = _
   rw [hb, Option.bind_some]
   have e : rdCells H i 0 (cs.length - 0) = some cs := by
    simp only [rdCells, hb, if_true, List.drop_zero, Nat.zero_add, Nat.sub_zero, Nat.le_refl, List.take_length]
   show (rdCells H i 0 (cs.length - 0)).bind _ = _
   rw [e, Option.bind_some, h.sound hs]
   rfl) (q.sound hs)
 | _, _, _, .fn (d := d) (ps := ps) (cs := cs) h1 h2 q => view_cons (by
   show ((ps.mapM (viewV H d)).bind fun us => (cs.mapM (viewV H d)).bind fun ws => some (AV.fn _ us ws)) = _
   rw [h1.sound hs, Option.bind_some, h2.sound hs]
   rfl) (q.sound hs)
theorem g_callE {ty : Nat} {f : FuncId} {caps args vs : List AV} {t : AV} (hs : Sep H L) (hh : plainF f = false) (hv : VwL L 8 (args ++ caps) vs) (ht : tree E0 n ty f vs = some t) (h : Gd G (KH (instT ti0 E0.tp H.length ty t).1 (H ++ (instT ti0 E0.tp H.length ty t).2))) : Gd G ((PR n β).call ty (.fn f [] caps) args H fun x H => KH x H) := g_congr (PR_callC hh (hv.sound hs) ht) h
theorem g_callS {ty : Nat} {f : FuncId} {args vs : List AV} {v : Value} (hs : Sep H L) (hh : plainF f = false) (hv : VwL L 8 args vs) (ht : tree E0 n ty f vs = some (.sc v)) (h : Gd G (KH (.sc v) H)) : Gd G ((PR n β).call ty (.fn f [] []) args H fun x H => KH x H) := by
 refine g_callE hs hh (by rw [List.append_nil]; exact hv) ht ?_
 rw [instT_sc, List.append_nil]
 exact h
theorem inst_own {ty m : Nat} {cells : List AV} (hs : Sep H L) (hok : okW ti0 E0.tp 6 ty (.ro m cells)) : isLeaf (instT ti0 E0.tp H.length ty (.ro m cells)).1 = true ∧ Sep (H ++ (instT ti0 E0.tp H.length ty (.ro m cells)).2) (.own (instT ti0 E0.tp H.length ty (.ro m cells)).1 ty (.ro m cells) :: L) := by
 have hl : isLeaf (instT ti0 E0.tp H.length ty (.ro m cells)).1 = true := rfl
 refine ⟨hl, hs.new (J := List.range' H.length (instT ti0 E0.tp H.length ty (.ro m cells)).2.length) ⟨hl, hok, own_inst 6 ty _ H.length hok (Lies_end _ _)⟩ List.nodup_range' fun i hi => ?_⟩
 rw [List.mem_range'_1] at hi
 exact hi.1
theorem g_callO {ty m : Nat} {f : FuncId} {args vs cells : List AV} (hs : Sep H L) (hh : plainF f = false) (hv : VwL L 8 args vs) (ht : tree E0 n ty f vs = some (.ro m cells)) (hok : okW ti0 E0.tp 6 ty (.ro m cells)) (h : ∀ x H', isLeaf x = true → Sep H' (.own x ty (.ro m cells) :: L) → Gd G (KH x H')) : Gd G ((PR n β).call ty (.fn f [] []) args H fun x H => KH x H) := by
 refine g_callE hs hh (by rw [List.append_nil]; exact hv) ht ?_
 obtain ⟨h1, h2⟩ := inst_own hs hok
 exact h _ _ h1 h2
def InsL (ts : List Nat) (cs : List AV) (Φ : List AV → List Ck → Prop) : Prop := ∀ (H : Heap) (L : List Ck), Sep H L → ∃ xs Lx, xs = (instL ti0 E0.tp H.length ts cs).1 ∧ Sep (H ++ (instL ti0 E0.tp H.length ts cs).2) (Lx ++ L) ∧ Φ xs Lx
theorem ins_nil {ts : List Nat} : InsL ts [] fun xs Lx => xs = [] ∧ Lx = [] := fun H L hs => ⟨[], [], rfl, by simpa [instL] using hs, rfl, rfl⟩
theorem ins_sc {ts : List Nat} {v : Value} {cs : List AV} {Φ : List AV → List Ck → Prop} (h : InsL ts.tail cs Φ) : InsL ts (.sc v :: cs) fun xs Lx => ∃ ys, xs = .sc v :: ys ∧ Φ ys Lx := fun H L hs => by
 obtain ⟨ys, Ly, e1, e2, e3⟩ := h H L hs
 refine ⟨.sc v :: ys, Ly, ?_, ?_, ys, rfl, e3⟩
 ·simp only [instL, instT_sc, List.length_nil, Nat.add_zero]
  rw [e1]
 ·simpa only [instL, instT_sc, List.length_nil, Nat.add_zero, List.nil_append] using e2
theorem ins_ro {ts : List Nat} {m ty : Nat} {cells cs : List AV} {Φ : List AV → List Ck → Prop} (hty : ts.headD 0 = ty) (hok : okW ti0 E0.tp 6 ty (.ro m cells)) (h : InsL ts.tail cs Φ) : InsL ts (.ro m cells :: cs) fun xs Lx => ∃ x ys Ly, isLeaf x = true ∧ xs = x :: ys ∧ Lx = Ly ++ [.own x ty (.ro m cells)] ∧ Φ ys Ly := fun H L hs => by
 subst hty
 obtain ⟨h1, h2⟩ := inst_own hs hok
 obtain ⟨ys, Ly, e1, e2, e3⟩ := h _ _ h2
 refine ⟨_ :: ys, Ly ++ [.own _ (ts.headD 0) (.ro m cells)], ?_, ?_, _, ys, Ly, h1, rfl, rfl, e3⟩
 ·simp only [instL]
  rw [e1, List.length_append]
 ·simp only [instL]
  rw [List.length_append, List.append_assoc] at e2
  rw [List.append_assoc]
  exact e2
theorem ins_agg {ts cty : List Nat} {cs rest : List AV} {Φ Ψ : List AV → List Ck → Prop} (hty : ∃ i, ti0 (ts.headD 0) = some i ∧ i.cty = cty) (h1 : InsL cty cs Ψ) (h : InsL ts.tail rest Φ) : InsL ts (.agg cs :: rest) fun xs Lx => ∃ ys zs Ly Lz, xs = .agg ys :: zs ∧ Lx = Lz ++ Ly ∧ Ψ ys Ly ∧ Φ zs Lz := fun H L hs => by
 obtain ⟨i, hi, rfl⟩ := hty
 obtain ⟨ys, Ly, a1, a2, a3⟩ := h1 H L hs
 obtain ⟨zs, Lz, b1, b2, b3⟩ := h _ _ a2
 refine ⟨.agg ys :: zs, Lz ++ Ly, ?_, ?_, ys, zs, Ly, Lz, rfl, rfl, a3, b3⟩
 ·simp only [instL, instT_agg, hi, Option.getD_some]
  rw [a1, b1, List.length_append]
 ·simp only [instL, instT_agg, hi, Option.getD_some]
  rw [List.length_append, List.append_assoc] at b2
  rw [List.append_assoc]
  exact b2
theorem g_callA {ty : Nat} {f : FuncId} {args vs cs : List AV} {cty : List Nat} {Φ : List AV → List Ck → Prop} (hs : Sep H L) (hh : plainF f = false) (hv : VwL L 8 args vs) (ht : tree E0 n ty f vs = some (.agg cs)) (hty : ∃ i, ti0 ty = some i ∧ i.cty = cty) (hi : InsL cty cs Φ) (h : ∀ xs Lx H', Φ xs Lx → Sep H' (Lx ++ L) → Gd G (KH (.agg xs) H')) : Gd G ((PR n β).call ty (.fn f [] []) args H fun x H => KH x H) := by
 refine g_callE hs hh (by rw [List.append_nil]; exact hv) ht ?_
 obtain ⟨i, e1, rfl⟩ := hty
 obtain ⟨xs, Lx, a1, a2, a3⟩ := hi H L hs
 rw [instT_agg, e1, Option.getD_some, ← a1]
 exact h _ _ _ a3 a2
theorem g_callT {ty : Nat} {f : FuncId} {args vs cs : List AV} {tys : List Nat} {Φ : List AV → List Ck → Prop} (hs : Sep H L) (hh : plainF f = false) (hv : VwL L 8 args vs) (ht : tree E0 n ty f vs = some (.tup cs)) (hty : E0.tp ty = some tys) (hi : InsL tys cs Φ) (h : ∀ xs Lx H', Φ xs Lx → Sep H' (Lx ++ L) → Gd G (KH (.tup xs) H')) : Gd G ((PR n β).call ty (.fn f [] []) args H fun x H => KH x H) := by
 refine g_callE hs hh (by rw [List.append_nil]; exact hv) ht ?_
 obtain ⟨xs, Lx, a1, a2, a3⟩ := hi H L hs
 rw [instT_tup, hty, Option.getD_some, ← a1]
 exact h _ _ _ a3 a2
theorem g_hm {ty : Nat} {f : FuncId} {caps args : List AV} (hh : E0.hm f = true) (he : E0.ext f = none) (h : Gd G (evalFn E0 n β f (args ++ caps) H fun x H => KH x H)) : Gd G ((PR n β).call ty (.fn f [] caps) args H fun x H => KH x H) := by
 refine g_congr ?_ h
 show callF E0 (evalFn E0 n) ty f ([] ++ args ++ caps) H _ = _
 simp only [callF, he, hh, List.nil_append, if_true]
def Src (H : Heap) (L : List Ck) (sz : Nat) (cty : List Nat) (y : AV) (m : Nat) (cb : List AV) (L' : List Ck) : Prop :=
 ∀ I, SepI H L I → ∃ raw J R X, lenA y = some m ∧ content H sz y = some raw ∧ raw.all isLeaf = true ∧ raw.length = m * sz ∧ ownL (ownT ti0 E0.tp H 5) (List.replicate m cty).flatten raw = some (cb, J) ∧ SepI H L' R ∧ I.Perm (J ++ (R ++ X))
def isSc : AV → Bool
 | .sc v => leafV v
 | _ => false
theorem isSc_leaf {l : List AV} (h : l.all isSc = true) : l.all isLeaf = true := by
 rw [List.all_eq_true] at h ⊢
 intro x hx
 have := h x hx
 cases x <;> simp_all [isSc, isLeaf]
theorem ownL_isSc {d : Nat} : ∀ {ts : List Nat} {l : List AV}, ts.length = l.length → l.all isSc = true → ownL (ownT ti0 E0.tp H (d + 1)) ts l = some (l, [])
 | [], [], _, _ => rfl
 | t :: ts, x :: l, h, hl => by
  rw [List.all_cons, Bool.and_eq_true] at hl
  cases x with
  | sc v =>
   rw [ownL, ownT_sc, Option.bind_some, ownL_isSc (ts := ts) (l := l) (by simpa using h) hl.2]
   rfl
  | _ => simp [isSc] at hl
 | [], _ :: _, h, _ => by simp at h
 | _ :: _, [], h, _ => by simp at h
theorem src_ro {sz m : Nat} {cty : List Nat} {cells : List AV} (hc : cty.length = sz) (hl : cells.length = m * sz) (hf : cells.all isSc = true) : Src H L sz cty (.ro m cells) m cells L := fun I h => by
 refine ⟨cells, [], I, [], rfl, ?_, isSc_leaf hf, hl, ownL_isSc (by simp [hc, hl]) hf, h, by simp⟩
 show (if cells.length = m * sz then some cells else none) = _
 rw [if_pos hl]
theorem src_nl {sz : Nat} {cty : List Nat} : Src H L sz cty .nl 0 [] L := fun I h => ⟨[], [], I, [], rfl, rfl, rfl, by simp, by simp [ownL], h, by simp⟩
theorem src_blk {sz m i : Nat} {cty : List Nat} {raw cb : List AV} {a : Bool} (hp : Pk L (.blk i raw a) L1) (hl : raw.length = m * sz) (hf : raw.all isLeaf = true) (hr : OwnR L1 raw (List.replicate m cty).flatten cb L2) (hok : okLW (okW ti0 E0.tp 5) (List.replicate m cty).flatten cb) : Src H L sz cty (.sl i 0 m sz) m cb L2 := fun I h => by
 obtain ⟨J, R, ⟨rfl, h1⟩, h2, h3⟩ := hp.sepI h
 obtain ⟨J', R', g1, g2, g3⟩ := hr.sound h2 5 hok
 refine ⟨raw, J', R', [i], rfl, ?_, hf, hl, g1, g2, ?_⟩
 ·show (if sz = sz then rdCells H i 0 (m * sz) else none) = _
  simp only [if_true, rdCells, h1, Nat.zero_add, List.drop_zero, ← hl, Nat.le_refl, List.take_length]
 ·refine h3.trans (List.perm_append_comm.trans ?_)
  rw [← List.append_assoc]
  exact List.Perm.append_right [i] g3
theorem own_raw {d ty m : Nat} {x : AV} {cells : List AV} {I : List Nat} {i j : TI} (h1 : ti0 ty = some i) (h2 : ti0 i.elem = some j) (h : ownT ti0 E0.tp H (d + 1) ty x = some (.ro m cells, I)) :
  (x = .nl ∧ m = 0 ∧ cells = [] ∧ I = []) ∨ ∃ id off raw J b, x = .sl id off m j.size ∧ I = id :: J ∧ H[id]? = some b ∧ b.live = true ∧ b.app = true ∧ rdCells H id off (m * j.size) = some raw ∧ ownL (ownT ti0 E0.tp H d) (List.replicate m j.cty).flatten raw = some (cells, J) := by
 cases x with
 | sc v => simp [ownT] at h
 | nl =>
  have := (Option.some.inj h)
  simp only [Prod.mk.injEq, AV.ro.injEq] at this
  obtain ⟨⟨rfl, rfl⟩, rfl⟩ := this
  exact .inl ⟨rfl, rfl, rfl, rfl⟩
 | sl id off n z =>
  rw [ownT_sl] at h
  simp only [h1, h2, Option.bind_some] at h
  split at h
  case isFalse => cases h
  rename_i hz
  split at h
  case isFalse => cases h
  rename_i ha
  simp only [Option.bind_eq_some_iff] at h
  obtain ⟨cs, h4, q, h5, h6⟩ := h
  simp only [Option.some.injEq, Prod.mk.injEq, AV.ro.injEq] at h6
  obtain ⟨⟨rfl, rfl⟩, rfl⟩ := h6
  subst hz
  obtain ⟨hl, b, hb, hlv, _, _⟩ := rd_live h4
  have ha' : b.app = true := by simpa only [isApp, hb] using ha
  exact .inr ⟨id, off, cs, q.2, b, rfl, rfl, hb, hlv, ha', h4, h5⟩
 | agg cs =>
  rw [ownT_agg] at h
  simp only [Option.bind_eq_some_iff] at h
  obtain ⟨i, h1, q, h2, h3⟩ := h
  simp at h3
 | tup cs =>
  rw [ownT_tup] at h
  simp only [Option.bind_eq_some_iff] at h
  obtain ⟨i, h1, q, h2, h3⟩ := h
  simp at h3
 | _ => simp [ownT] at h
theorem ownL_leaf {f : Nat → AV → Option (AV × List Nat)} : ∀ {ts : List Nat} {xs : List AV} {p : List AV × List Nat}, (∀ t x a I, f t x = some (a, I) → isFl a = true → isLeaf x = true) → ownL f ts xs = some p → p.1.all isFl = true → xs.all isLeaf = true
 | ts, [], p, _, h, _ => rfl
 | [], _ :: _, p, _, h, _ => by simp [ownL] at h
 | t :: ts, x :: xs, p, hf, h, hl => by
  obtain ⟨a, b, h1, h2, rfl⟩ := ownL_cons h
  rw [List.all_cons, Bool.and_eq_true] at hl
  rw [List.all_cons, Bool.and_eq_true]
  exact ⟨hf t x a.1 a.2 h1 hl.1, ownL_leaf hf h2 hl.2⟩
theorem own_leaf {d ty : Nat} {x a : AV} {I : List Nat} (h : ownT ti0 E0.tp H d ty x = some (a, I)) (hl : isFl a = true) : isLeaf x = true := by
 cases d with
 | zero => simp [ownT] at h
 | succ d =>
  cases x with
  | sc v =>
   obtain ⟨rfl, _⟩ : AV.sc v = a ∧ [] = I := by simpa [ownT] using h
   exact hl
  | nl => rfl
  | sl id off n z => rfl
  | agg cs =>
   rw [ownT_agg] at h
   simp only [Option.bind_eq_some_iff] at h
   obtain ⟨i, h1, q, h2, h3⟩ := h
   obtain ⟨rfl, _⟩ : AV.agg q.1 = a ∧ q.2 = I := by simpa using h3
   cases hl
  | tup cs =>
   rw [ownT_tup] at h
   simp only [Option.bind_eq_some_iff] at h
   obtain ⟨i, h1, q, h2, h3⟩ := h
   obtain ⟨rfl, _⟩ : AV.tup q.1 = a ∧ q.2 = I := by simpa using h3
   cases hl
  | _ => simp [ownT] at h
theorem src_own {sz m ty : Nat} {cty : List Nat} {y : AV} {cb : List AV} (hty : ∃ i j, ti0 ty = some i ∧ ti0 i.elem = some j ∧ j.size = sz ∧ j.cty = cty) (hp : Pk L (.own y ty (.ro m cb)) L2) (hf : cb.all isFl = true) : Src H L sz cty y m cb L2 := fun I h => by
 obtain ⟨i, j, e1, e2, rfl, rfl⟩ := hty
 obtain ⟨J, R, ⟨_, _, h1⟩, h2, h3⟩ := hp.sepI h
 rcases own_raw e1 e2 h1 with ⟨rfl, rfl, rfl, rfl⟩ | ⟨id, off, raw, J', b, rfl, rfl, hb, hlv, ha, h4, h5⟩
 ·exact ⟨[], [], R, [], rfl, rfl, rfl, by simp, by simp [ownL], h2, by simpa using h3⟩
 ·have hl := (rd_live h4).1
  refine ⟨raw, J', R, [id], rfl, ?_, ownL_leaf (fun t x a I h hl => own_leaf h hl) h5 hf, hl, h5, h2, ?_⟩
  ·show (if j.size = j.size then rdCells H id off (m * j.size) else none) = _
   rw [if_pos rfl, h4]
  ·refine h3.trans ?_
   rw [← List.append_assoc]
   exact (List.perm_append_comm (l₁ := [id]) (l₂ := J' ++ R))
theorem src_keep {sz m ty : Nat} {cty : List Nat} {y : AV} {cb : List AV} (hty : ∃ i j, ti0 ty = some i ∧ ti0 i.elem = some j ∧ j.size = sz ∧ j.cty = cty) (hp : Pk L (.own y ty (.ro m cb)) L2) (hf : cb.all isSc = true) : Src H L sz cty y m cb L := fun I h => by
 obtain ⟨i, j, e1, e2, rfl, rfl⟩ := hty
 obtain ⟨J, R, ⟨_, _, h1⟩, h2, h3⟩ := hp.sepI h
 rcases own_raw e1 e2 h1 with ⟨rfl, rfl, rfl, rfl⟩ | ⟨id, off, raw, J', b, rfl, rfl, hb, hlv, ha, h4, h5⟩
 ·exact ⟨[], [], I, [], rfl, rfl, rfl, by simp, by simp [ownL], h, by simp⟩
 ·have hl := (rd_live h4).1
  have key : ∀ {ts : List Nat} {xs cells : List AV} {I : List Nat}, ownL (ownT ti0 E0.tp H 5) ts xs = some (cells, I) → cells.all isSc = true → xs = cells ∧ I = [] := by
   intro ts xs
   induction xs generalizing ts with
   | nil =>
    intro cells I h _
    obtain ⟨_, e⟩ := ownL_nil h
    cases e
    exact ⟨rfl, rfl⟩
   | cons x xs ih =>
    intro cells I h hs
    cases ts with
    | nil => simp [ownL] at h
    | cons t ts =>
     obtain ⟨a, b, h1, h2, e⟩ := ownL_cons h
     cases e
     rw [List.all_cons, Bool.and_eq_true] at hs
     obtain ⟨rfl, e2⟩ := ih h2 hs.2
     have hx : x = a.1 ∧ a.2 = [] := by
      obtain ⟨a1, a2⟩ := a
      cases a1 with
      | sc v =>
       have := own_sc h1
       subst this
       have : (AV.sc v, ([] : List Nat)) = (.sc v, a2) := Option.some.inj h1
       cases this
       exact ⟨rfl, rfl⟩
      | _ => simp [isSc] at hs
     refine ⟨by rw [hx.1], by rw [hx.2, e2]; rfl⟩
  obtain ⟨rfl, rfl⟩ := key h5 hf
  refine ⟨raw, [], I, [], rfl, ?_, isSc_leaf hf, hl, h5, h, by simp⟩
  show (if j.size = j.size then rdCells H id off (m * j.size) else none) = _
  rw [if_pos rfl, h4]
theorem g_appX {sz bytes k m ty : Nat} {cty : List Nat} {x y : AV} {ca cb : List AV} (hs : Sep H L) (hty : ∃ i j, ti0 ty = some i ∧ ti0 i.elem = some j ∧ j.size = sz ∧ j.cty = cty) (hx : Pk L (.own x ty (.ro k ca)) L1) (hy : Src H L1 sz cty y m cb L2) (hok : okLW (okW ti0 E0.tp 5) (List.replicate m cty).flatten cb) (hb : (k + m) * bytes ≤ 140737488355328)
  (h : ∀ x' H', isLeaf x' = true → Sep H' (.own x' ty (.ro (k + m) (ca ++ cb)) :: L2) → (∃ id cx cy, x' = .sl id 0 (k + m) sz ∧ H'[id]? = some ⟨cx ++ cy, true, true⟩ ∧ content H sz y = some cy ∧ cx.length = k * sz) → Gd G (KH x' H')) : Gd G (pApp sz bytes x y H fun x H => KH x H) := by
 obtain ⟨i, j, e1, e2, rfl, rfl⟩ := hty
 obtain ⟨I, hI, hn⟩ := hs
 obtain ⟨J, R, ⟨hlx, hox, h1⟩, h2, h3⟩ := hx.sepI hI
 obtain ⟨raw, Jy, Ry, X, q1, q2, q3, q4, q5, q6, q7⟩ := hy R h2
 have hn' : (J ++ (Jy ++ (Ry ++ X))).Nodup := (h3.trans (List.Perm.append_left J q7)).nodup_iff.1 hn
 have hRlt : ∀ i ∈ Jy ++ Ry, i < H.length := fun z hz => by
  refine h2.lt z ?_
  refine q7.symm.mem_iff.1 ?_
  rw [← List.append_assoc]
  exact List.mem_append_left _ hz
 have hok' : okW ti0 E0.tp 6 ty (.ro (k + m) (ca ++ cb)) := by
  obtain ⟨i', j', g1, g2, g3, g4⟩ := hox
  rw [e1] at g1
  cases g1
  rw [e2] at g2
  cases g2
  refine ⟨i, j, e1, e2, ?_, ?_⟩
  ·have := okLW_len hok
   have hq := ownL_len q5
   rw [List.length_append, g3, hq.2, q4, Nat.add_mul]
  ·rw [← List.replicate_append_replicate, List.flatten_append]
   exact okLW_append g4 hok
 have fin : ∀ (H1 : Heap) (cx : List AV) (Jx : List Nat), H1.length = H.length → cx.all isLeaf = true ∨ True → ownL (ownT ti0 E0.tp H1 5) (List.replicate k j.cty).flatten cx = some (ca, Jx) → ownL (ownT ti0 E0.tp H1 5) (List.replicate m j.cty).flatten raw = some (cb, Jy) → SepI H1 L2 Ry → (Jx ++ (Jy ++ (Ry ++ X))).Nodup → (∀ i ∈ Jx, i < H1.length) → cx.length = k * j.size →
   Sep (H1 ++ [⟨cx ++ raw, true, true⟩]) (.own (.sl H1.length 0 (k + m) j.size) ty (.ro (k + m) (ca ++ cb)) :: L2) := by
  intro H1 cx Jx hl1 _ a1 a2 a3 a4 a5 a6
  have hg : (H1 ++ [(⟨cx ++ raw, true, true⟩ : Blk)])[H1.length]? = some ⟨cx ++ raw, true, true⟩ := by
   rw [List.getElem?_append_right (Nat.le_refl _), Nat.sub_self]
   rfl
  have fr : ∀ z, z < H1.length → (H1 ++ [(⟨cx ++ raw, true, true⟩ : Blk)])[z]? = H1[z]? := fun z hz => List.getElem?_append_left hz
  have b1 := ownL_frame (f' := ownT ti0 E0.tp (H1 ++ [⟨cx ++ raw, true, true⟩]) 5) (fun t x a h hi => own_frame 5 t x a h fun z hz => fr z (a5 z (hi z hz))) a1
  have b2 := ownL_frame (f' := ownT ti0 E0.tp (H1 ++ [⟨cx ++ raw, true, true⟩]) 5) (fun t x a h hi => own_frame 5 t x a h fun z hz => fr z (by rw [hl1]; exact hRlt z (List.mem_append_left _ (hi z hz)))) a2
  have b3 := a3.grow [⟨cx ++ raw, true, true⟩]
  have b4 := ownL_append b1 b2
  rw [← List.flatten_append, List.replicate_append_replicate] at b4
  refine ⟨(H1.length :: (Jx ++ Jy)) ++ Ry, ⟨H1.length :: (Jx ++ Jy), Ry, rfl, ⟨rfl, hok', ?_⟩, b3⟩, ?_⟩
  ·rw [ownT_sl]
   have ha : isApp (H1 ++ [⟨cx ++ raw, true, true⟩]) H1.length = true := by simp only [isApp, hg]
   have hrd : rdCells (H1 ++ [⟨cx ++ raw, true, true⟩]) H1.length 0 ((k + m) * j.size) = some (cx ++ raw) := by
    have : (cx ++ raw).length = (k + m) * j.size := by rw [List.length_append, a6, q4, Nat.add_mul]
    simp only [rdCells, hg, if_true, Nat.zero_add, List.drop_zero, ← this, Nat.le_refl, List.take_length]
   simp only [e1, e2, Option.bind_some, if_true, ha, hrd, b4]
  ·rw [List.cons_append, List.nodup_cons]
   have hn3 : (Jx ++ Jy ++ Ry).Nodup := by
    rw [List.append_assoc]
    have : (Jx ++ (Jy ++ Ry) ++ X).Nodup := by simpa only [List.append_assoc] using a4
    exact (List.nodup_append.1 this).1
   refine ⟨fun hm => ?_, hn3⟩
   rcases List.mem_append.1 hm with hm | hm
   ·rcases List.mem_append.1 hm with hm | hm
    ·exact Nat.lt_irrefl _ (a5 _ hm)
    ·have := hRlt _ (List.mem_append_left _ hm)
     omega
   ·have := hRlt _ (List.mem_append_right _ hm)
    omega
 rcases own_raw e1 e2 h1 with ⟨rfl, rfl, rfl, rfl⟩ | ⟨id, off, cx, J', b, rfl, rfl, hb1, hlv, hap, h4, h5⟩
 ·have hc : content H j.size .nl = some [] := rfl
  refine g_congr (b := KH (.sl H.length 0 (0 + m) j.size) (H ++ [⟨[] ++ raw, true, true⟩])) ?_ (h _ _ rfl (fin H [] [] rfl (.inr trivial) (by simp [ownL]) q5 q6 (by simpa using hn') (by simp) (by simp)) ⟨_, [], raw, rfl, by rw [List.getElem?_append_right (Nat.le_refl _), Nat.sub_self]; rfl, q2, by simp⟩)
  have hl0 : lenA .nl = some 0 := rfl
  have hk0 : kill H .nl = some H := rfl
  simp only [pApp, hl0, Option.bind_some, q1, q2, hc, hk0]
  rw [if_pos hb, if_pos q3]
  rfl
 ·have hc : content H j.size (.sl id off k j.size) = some cx := by
   show (if j.size = j.size then rdCells H id off (k * j.size) else none) = _
   rw [if_pos rfl, h4]
  have hk : kill H (.sl id off k j.size) = some (H.set id { b with live := false }) := by
   show (H[id]?).bind (fun b => if b.app then some (H.set id { b with live := false }) else none) = _
   rw [hb1, Option.bind_some, if_pos hap]
  have hn2 : (id :: (J' ++ (Jy ++ (Ry ++ X)))).Nodup := hn'
  have hnid := (List.nodup_cons.1 hn2).1
  have hset : ∀ z, z ≠ id → (H.set id { b with live := false })[z]? = H[z]? := fun z hz => List.getElem?_set_ne (fun e => hz e.symm)
  have c1 := ownL_frame (f' := ownT ti0 E0.tp (H.set id { b with live := false }) 5) (fun t x a h hi => own_frame 5 t x a h fun z hz => hset z (fun e => hnid (e ▸ List.mem_append_left _ (hi z hz)))) h5
  have c2 := ownL_frame (f' := ownT ti0 E0.tp (H.set id { b with live := false }) 5) (fun t x a h hi => own_frame 5 t x a h fun z hz => hset z (fun e => hnid (e ▸ List.mem_append_right _ (List.mem_append_left _ (hi z hz))))) q5
  have c3 := q6.frame (H' := H.set id { b with live := false }) fun z hz => hset z (fun e => hnid (e ▸ List.mem_append_right _ (List.mem_append_right _ (List.mem_append_left _ hz))))
  have hJlt : ∀ z ∈ J', z < H.length := fun z hz => own_lt 6 ty _ _ h1 z (List.mem_cons_of_mem _ hz)
  refine g_congr (b := KH (.sl (H.set id { b with live := false }).length 0 (k + m) j.size) (H.set id { b with live := false } ++ [⟨cx ++ raw, true, true⟩])) ?_ (h _ _ rfl (fin _ cx J' (by simp) (.inr trivial) c1 c2 c3 (List.nodup_cons.1 hn2).2 (fun z hz => by rw [List.length_set]; exact hJlt z hz) (rd_live h4).1) ⟨_, cx, raw, rfl, by rw [List.getElem?_append_right (Nat.le_refl _), Nat.sub_self]; rfl, q2, (rd_live h4).1⟩)
  have hl0 : lenA (.sl id off k j.size) = some k := rfl
  simp only [pApp, hl0, Option.bind_some, q1, q2, hc, hk]
  rw [if_pos hb, if_pos q3]
  rfl
theorem g_app {sz bytes k m ty : Nat} {cty : List Nat} {x y : AV} {ca cb : List AV} (hs : Sep H L) (hty : ∃ i j, ti0 ty = some i ∧ ti0 i.elem = some j ∧ j.size = sz ∧ j.cty = cty) (hx : Pk L (.own x ty (.ro k ca)) L1) (hy : Src H L1 sz cty y m cb L2) (hok : okLW (okW ti0 E0.tp 5) (List.replicate m cty).flatten cb) (hb : (k + m) * bytes ≤ 140737488355328)
  (h : ∀ x' H', isLeaf x' = true → Sep H' (.own x' ty (.ro (k + m) (ca ++ cb)) :: L2) → Gd G (KH x' H')) : Gd G (pApp sz bytes x y H fun x H => KH x H) := g_appX hs hty hx hy hok hb fun x' H' h1 h2 _ => h x' H' h1 h2
theorem tree_gd {G : Option AV → Prop} {o : Option AV} (h : Gd G o) : G o := h
theorem ret_tup {ty : Nat} {tys : List Nat} {raw cells : List AV} (hs : Sep H L) (hts : E0.tp ty = some tys) (hr : OwnR L raw tys cells L') (hok : okLW (okW ti0 E0.tp 7) tys cells) : ownTree ti0 E0.tp ty H (.tup raw) = some (.tup cells) := by
 obtain ⟨I, h1, h2⟩ := hs
 obtain ⟨J, R, g1, g2, g3⟩ := hr.sound h1 7 hok
 have hn := (List.nodup_append.1 (g3.nodup_iff.1 h2)).1
 rw [ownTree, ownT_tup, hts, Option.bind_some, g1, Option.bind_some, Option.bind_some, if_pos hn]
theorem ret_agg {ty : Nat} {cty : List Nat} {raw cells : List AV} (hs : Sep H L) (hty : ∃ i, ti0 ty = some i ∧ i.cty = cty) (hr : OwnR L raw cty cells L') (hok : okLW (okW ti0 E0.tp 7) cty cells) : ownTree ti0 E0.tp ty H (.agg raw) = some (.agg cells) := by
 obtain ⟨i, e1, rfl⟩ := hty
 obtain ⟨I, h1, h2⟩ := hs
 obtain ⟨J, R, g1, g2, g3⟩ := hr.sound h1 7 hok
 have hn := (List.nodup_append.1 (g3.nodup_iff.1 h2)).1
 rw [ownTree, ownT_agg, e1, Option.bind_some, g1, Option.bind_some, Option.bind_some, if_pos hn]
theorem ret_own {ty : Nat} {x t : AV} (hs : Sep H L) (hp : Pk L (.own x ty t) L') : ownTree ti0 E0.tp ty H x = some t := by
 obtain ⟨_, h1, I, h2, h3⟩ := hs.own hp
 rw [ownTree, own_dep 6 8 ty x t I h2 (okW_le h1 (by decide)), Option.bind_some, if_pos h3]
theorem g_ret {G : Option AV → Prop} {ty : Nat} {x t : AV} (e : ownTree ti0 E0.tp ty H x = some t) (h : G (some t)) : Gd G (ownTree ti0 E0.tp ty H x) := by
 rw [e]
 exact h
end
end Go.Proofs.YtejjggnchdldoaaDoor.Abs
set_option linter.unusedVariables false
set_option maxRecDepth 100000
namespace Go.Proofs.YtejjggnchdldoaaDoor.Abs
open Go
variable {β : Type}
theorem okAg {d ty : Nat} {cty : List Nat} {cs : List AV} (hty : ∃ i, ti0 ty = some i ∧ i.cty = cty) (h : okLW (okW ti0 E0.tp d) cty cs) : okW ti0 E0.tp (d + 1) ty (.agg cs) := by
 obtain ⟨i, hi, rfl⟩ := hty
 exact ⟨i, hi, h⟩
theorem okNl {d ty : Nat} (h : ∃ i j, ti0 ty = some i ∧ ti0 i.elem = some j) : okW ti0 E0.tp (d + 1) ty (.ro 0 []) := by
 obtain ⟨i, j, h1, h2⟩ := h
 exact ⟨i, j, h1, h2, by simp, by simp [okLW]⟩
theorem Gd.both {G : Option β → Prop} {a b : Option β} (h1 : Gd G a) (h2 : a = b) : Gd G (pBoth a b) := by
 rw [pBoth_eq rfl h2.symm]
 exact h1
theorem g_neg {G : Option β → Prop} {K : AV → Option β} {a : Int} (h0 : -9223372036854775808 ≤ -a) (h1 : -a ≤ 9223372036854775807) (h : Gd G (K (.sc (.int .i64 (-a))))) : Gd G (pUn .neg (.sc (.int .i64 a)) fun t => K t) := by
 refine g_congr ?_ h
 show K (.sc (.int .i64 (IntKind.i64.wrap (0 - a)))) = _
 rw [wrap64 _ (by omega) (by omega), Int.zero_sub]
theorem okB6 (s : ByteArray) : okW ti0 E0.tp 6 23 (bytesC s) := okW_bytes (d := 4) tyByteS s
theorem okB5 (s : ByteArray) : okW ti0 E0.tp 5 23 (bytesC s) := okW_bytes (d := 3) tyByteS s
theorem okI6 (l : List Int) : okW ti0 E0.tp 6 22 (intsC l) := okW_flat (d := 4) (fun z : Int => .int .i64 z) tyIntS l
theorem okI5 (l : List Int) : okW ti0 E0.tp 5 22 (intsC l) := okW_flat (d := 3) (fun z : Int => .int .i64 z) tyIntS l
theorem okS6 (l : List ByteArray) : okW ti0 E0.tp 6 25 (strsC l) := okW_flat (d := 4) (fun z : ByteArray => .string z) tyStringS l
theorem okS5 (l : List ByteArray) : okW ti0 E0.tp 5 25 (strsC l) := okW_flat (d := 3) (fun z : ByteArray => .string z) tyStringS l
theorem okRWant (l : List WantV) : okW ti0 E0.tp 6 24 (rowsC encWant l) := okW_rows (d := 5) lenWant ⟨_, _, rfl, rfl, rfl, rfl⟩ (okWWant 4) l
theorem okR5Want (l : List WantV) : okW ti0 E0.tp 5 24 (rowsC encWant l) := okW_rows (d := 4) lenWant ⟨_, _, rfl, rfl, rfl, rfl⟩ (okWWant 3) l
theorem InsL.mono {ts : List Nat} {cs : List AV} {Φ Ψ : List AV → List Ck → Prop} (h : InsL ts cs Φ) (m : ∀ xs Lx, Φ xs Lx → Ψ xs Lx) : InsL ts cs Ψ := fun H L hs => by
 obtain ⟨xs, Lx, a, b, c⟩ := h H L hs
 exact ⟨xs, Lx, a, b, m _ _ c⟩
theorem insPacket (p : PacketV) : InsL ctyPacket (encPacket p) fun xs Lx => ∃ x6 x13 x19 x22 x23 x24 : AV, isLeaf x6 = true ∧ isLeaf x13 = true ∧ isLeaf x19 = true ∧ isLeaf x22 = true ∧ isLeaf x23 = true ∧ isLeaf x24 = true ∧ xs = [.sc (.int .i64 p.fType), .sc (.bool p.fDup), .sc (.int .i64 p.fQos), .sc (.bool p.fRetain), .sc (.int .i64 p.fId), .sc (.string p.fTopic), x6, .sc (.string p.fClient), .sc (.int .i64 p.fLevel), .sc (.bool p.fClean), .sc (.int .i64 p.fKeep), .sc (.bool p.fHasWill), .sc (.string p.fWTopic), x13, .sc (.int .i64 p.fWQos), .sc (.bool p.fWRetain), .sc (.bool p.fHasUser), .sc (.string p.fUser), .sc (.bool p.fHasPass), x19, .sc (.int .i64 p.fCode), .sc (.bool p.fPresent), x22, x23, x24] ∧ Lx = [.own x24 22 (intsC p.fCodes), .own x23 25 (strsC p.fNames), .own x22 24 (rowsC encWant p.fWants), .own x19 23 (bytesC p.fPass), .own x13 23 (bytesC p.fWBody), .own x6 23 (bytesC p.fBody)] :=
 InsL.mono (ins_sc (ins_sc (ins_sc (ins_sc (ins_sc (ins_sc (ins_ro (ty := 23) rfl (okB6 p.fBody) (ins_sc (ins_sc (ins_sc (ins_sc (ins_sc (ins_sc (ins_ro (ty := 23) rfl (okB6 p.fWBody) (ins_sc (ins_sc (ins_sc (ins_sc (ins_sc (ins_ro (ty := 23) rfl (okB6 p.fPass) (ins_sc (ins_sc (ins_ro (ty := 24) rfl (okRWant p.fWants) (ins_ro (ty := 25) rfl (okS6 p.fNames) (ins_ro (ty := 22) rfl (okI6 p.fCodes) ins_nil))))))))))))))))))))))))) (by
  rintro _ _ ⟨_, rfl, ⟨_, rfl, ⟨_, rfl, ⟨_, rfl, ⟨_, rfl, ⟨_, rfl, ⟨x6, _, _, l6, rfl, rfl, ⟨_, rfl, ⟨_, rfl, ⟨_, rfl, ⟨_, rfl, ⟨_, rfl, ⟨_, rfl, ⟨x13, _, _, l13, rfl, rfl, ⟨_, rfl, ⟨_, rfl, ⟨_, rfl, ⟨_, rfl, ⟨_, rfl, ⟨x19, _, _, l19, rfl, rfl, ⟨_, rfl, ⟨_, rfl, ⟨x22, _, _, l22, rfl, rfl, ⟨x23, _, _, l23, rfl, rfl, ⟨x24, _, _, l24, rfl, rfl, ⟨rfl, rfl⟩⟩⟩⟩⟩⟩⟩⟩⟩⟩⟩⟩⟩⟩⟩⟩⟩⟩⟩⟩⟩⟩⟩⟩⟩⟩
  exact ⟨x6, x13, x19, x22, x23, x24, l6, l13, l19, l22, l23, l24, rfl, rfl⟩)
theorem eltWant {raw : List AV} {y : WantV} (hl : raw.length = 2) (hlf : raw.all isLeaf = true) (hs : ∀ (k : Nat) (v : Value), (encWant y)[k]? = some (AV.sc v) → raw[k]? = some (AV.sc v)) : raw = [.sc (.string y.fFilter), .sc (.int .i64 y.fQos)] := by
 match raw, hl with
 | [r0, r1], _ =>
  obtain rfl : r0 = _ := Option.some.inj (hs 0 _ rfl)
  obtain rfl : r1 = _ := Option.some.inj (hs 1 _ rfl)
  exact rfl
theorem eltPacket {raw : List AV} {y : PacketV} (hl : raw.length = 25) (hlf : raw.all isLeaf = true) (hs : ∀ (k : Nat) (v : Value), (encPacket y)[k]? = some (AV.sc v) → raw[k]? = some (AV.sc v)) : ∃ r6 r13 r19 r22 r23 r24 : AV, isLeaf r6 = true ∧ isLeaf r13 = true ∧ isLeaf r19 = true ∧ isLeaf r22 = true ∧ isLeaf r23 = true ∧ isLeaf r24 = true ∧ raw = [.sc (.int .i64 y.fType), .sc (.bool y.fDup), .sc (.int .i64 y.fQos), .sc (.bool y.fRetain), .sc (.int .i64 y.fId), .sc (.string y.fTopic), r6, .sc (.string y.fClient), .sc (.int .i64 y.fLevel), .sc (.bool y.fClean), .sc (.int .i64 y.fKeep), .sc (.bool y.fHasWill), .sc (.string y.fWTopic), r13, .sc (.int .i64 y.fWQos), .sc (.bool y.fWRetain), .sc (.bool y.fHasUser), .sc (.string y.fUser), .sc (.bool y.fHasPass), r19, .sc (.int .i64 y.fCode), .sc (.bool y.fPresent), r22, r23, r24] := by
 match raw, hl with
 | [r0, r1, r2, r3, r4, r5, r6, r7, r8, r9, r10, r11, r12, r13, r14, r15, r16, r17, r18, r19, r20, r21, r22, r23, r24], _ =>
  obtain rfl : r0 = _ := Option.some.inj (hs 0 _ rfl)
  obtain rfl : r1 = _ := Option.some.inj (hs 1 _ rfl)
  obtain rfl : r2 = _ := Option.some.inj (hs 2 _ rfl)
  obtain rfl : r3 = _ := Option.some.inj (hs 3 _ rfl)
  obtain rfl : r4 = _ := Option.some.inj (hs 4 _ rfl)
  obtain rfl : r5 = _ := Option.some.inj (hs 5 _ rfl)
  obtain rfl : r7 = _ := Option.some.inj (hs 7 _ rfl)
  obtain rfl : r8 = _ := Option.some.inj (hs 8 _ rfl)
  obtain rfl : r9 = _ := Option.some.inj (hs 9 _ rfl)
  obtain rfl : r10 = _ := Option.some.inj (hs 10 _ rfl)
  obtain rfl : r11 = _ := Option.some.inj (hs 11 _ rfl)
  obtain rfl : r12 = _ := Option.some.inj (hs 12 _ rfl)
  obtain rfl : r14 = _ := Option.some.inj (hs 14 _ rfl)
  obtain rfl : r15 = _ := Option.some.inj (hs 15 _ rfl)
  obtain rfl : r16 = _ := Option.some.inj (hs 16 _ rfl)
  obtain rfl : r17 = _ := Option.some.inj (hs 17 _ rfl)
  obtain rfl : r18 = _ := Option.some.inj (hs 18 _ rfl)
  obtain rfl : r20 = _ := Option.some.inj (hs 20 _ rfl)
  obtain rfl : r21 = _ := Option.some.inj (hs 21 _ rfl)
  simp only [List.all_cons, Bool.and_eq_true] at hlf
  exact ⟨r6, r13, r19, r22, r23, r24, hlf.2.2.2.2.2.2.1, hlf.2.2.2.2.2.2.2.2.2.2.2.2.2.1, hlf.2.2.2.2.2.2.2.2.2.2.2.2.2.2.2.2.2.2.2.1, hlf.2.2.2.2.2.2.2.2.2.2.2.2.2.2.2.2.2.2.2.2.2.2.1, hlf.2.2.2.2.2.2.2.2.2.2.2.2.2.2.2.2.2.2.2.2.2.2.2.1, hlf.2.2.2.2.2.2.2.2.2.2.2.2.2.2.2.2.2.2.2.2.2.2.2.2.1, rfl⟩
end Go.Proofs.YtejjggnchdldoaaDoor.Abs
set_option linter.unusedVariables false
set_option linter.unusedSimpArgs false
namespace Go.Proofs.YtejjggnchdldoaaDoor.Abs
open Go
inductive Sel : List Ck → List Ck → Prop
 | nil {L : List Ck} : Sel L []
 | cons {L L1 L' : List Ck} {c : Ck} : Pk L c L1 → Sel L1 L' → Sel L (c :: L')
 | rest {L : List Ck} : Sel L L
 | skip {L L' : List Ck} {c : Ck} : Sel L L' → Sel (c :: L) L'
section
variable {β : Type} {n : Nat} {H : Heap} {L L' L1 L2 : List Ck} {G : Option β → Prop} {K : AV → Option β} {KH : AV → Heap → Option β}
theorem Sep.none (h : Sep H L) : Sep H [] := by
 induction L with
 | nil => exact h
 | cons c L ih => exact ih h.tail
theorem SepI.cons_iff {c : Ck} {I : List Nat} : SepI H (c :: L) I ↔ ∃ J R, I = J ++ R ∧ CkOk H c J ∧ SepI H L R := Iff.rfl
theorem Sel.sepI : ∀ {L L' : List Ck} {I : List Nat}, Sel L L' → SepI H L I → ∃ J X, SepI H L' J ∧ I.Perm (J ++ X)
 | _, _, I, .nil, h => ⟨[], I, rfl, List.Perm.refl _⟩
 | _, _, I, .rest, h => ⟨I, [], h, by simp⟩
 | _, _, I, .skip q, h => by
  obtain ⟨J, R, rfl, g1, g2⟩ := h
  obtain ⟨J', X, e1, e2⟩ := q.sepI g2
  refine ⟨J', J ++ X, e1, ?_⟩
  refine (List.Perm.append_left J e2).trans ?_
  rw [← List.append_assoc, ← List.append_assoc]
  exact List.Perm.append_right X List.perm_append_comm
 | _, _, I, .cons p q, h => by
  obtain ⟨J, R, g1, g2, g3⟩ := p.sepI h
  obtain ⟨J', X, e1, e2⟩ := q.sepI g2
  refine ⟨J ++ J', X, ⟨J, J', rfl, g1, e1⟩, ?_⟩
  rw [List.append_assoc]
  exact g3.trans (List.Perm.append_left J e2)
theorem Sep.sel (h : Sep H L) (q : Sel L L') : Sep H L' := by
 obtain ⟨I, h1, h2⟩ := h
 obtain ⟨J, X, g1, g2⟩ := q.sepI h1
 exact ⟨J, g1, (List.nodup_append.1 (g2.nodup_iff.1 h2)).1⟩
theorem g_apart {x off : Nat} {ts : List AV} {cs : List AV} {a : Bool} {m : Option β} (hs : Sep H L) (hp : Pk L (.blk x cs a) L1) (ht : ∀ y ∈ ts, ∃ j o ds b, y = .ptr j o ∧ ∃ L2, Pk L1 (.blk j ds b) L2) (h : Gd G m) : Gd G (pApart (.ptr x off) ts H m) := by
 have e : apartB (.ptr x off) ts H = true := by
  have hb := hs.blk hp
  simp only [apartB, hb, Bool.true_and, List.all_eq_true]
  intro y hy
  obtain ⟨j, o, ds, b, rfl, L2, hq⟩ := ht y hy
  obtain ⟨I, ⟨J, R, rfl, ⟨rfl, h1⟩, h2⟩, h3⟩ := hs.pick hp
  obtain ⟨J', R', ⟨rfl, g1⟩, g2, g3⟩ := hq.sepI h2
  have hne : x ≠ j := by
   rintro rfl
   have hn := (List.nodup_cons.1 h3).1
   exact hn (g3.symm.mem_iff.1 (by simp))
  simp [g1, hne]
 unfold pApart
 rw [if_pos e]
 exact h
theorem Gd.bothE {r a b : Option β} (h1 : Gd (· = r) a) (h2 : Gd (· = r) b) : Gd (· = r) (pBoth a b) := pBoth_eq h1 h2
theorem g_same {x o o' : Nat} {m : Option β} (h : Gd G m) : Gd G (pSame (.ptr x o) (.ptr x o') m) := by
 simp only [pSame, if_true]
 exact h
theorem g_iadr {α : Type} {w : Nat} {enc : α → List AV} {l pre t : List α} {x : α} {i : Int} (hi : i = (pre.length : Nat)) (hw : ∀ x, (enc x).length = w) (h0 : 0 < w) (hl : l = pre ++ x :: t) (h : Gd G (K (.rp (enc x ++ (t.map enc).flatten)))) : Gd G (pIadr w (rowsC enc l) (.sc (.int .i64 i)) fun t => K t) := by
 subst hl
 subst hi
 exact g_congr (el_ro hw h0 pre x t _) h
theorem g_iadrN {α : Type} {w : Nat} {enc : α → List AV} {l : List α} {i : Int} (hw : ∀ x, (enc x).length = w) (h0 : 0 < w) (hi : 0 ≤ i) (hl : i < (l.length : Nat)) (h : ∀ x rest, l[i.toNat]? = some x → Gd G (K (.rp (enc x ++ rest)))) : Gd G (pIadr w (rowsC enc l) (.sc (.int .i64 i)) fun t => K t) := by
 have hlt : i.toNat < l.length := by omega
 refine g_iadr (pre := l.take i.toNat) (x := l[i.toNat]) (t := l.drop (i.toNat + 1)) (by simp; omega) hw h0 ?_ (h _ _ (List.getElem?_eq_getElem hlt))
 rw [← List.drop_eq_getElem_cons hlt, List.take_append_drop]
theorem ints_iadr {l pre t : List Int} {x i : Int} (hi : i = (pre.length : Nat)) (hl : l = pre ++ x :: t) (h : Gd G (K (.rp (encI x ++ (t.map encI).flatten)))) : Gd G (pIadr 1 (intsC l) (.sc (.int .i64 i)) fun t => K t) := by
 rw [ints_rows]
 exact g_iadr hi (fun _ => rfl) (by decide) hl h
theorem strs_iadr {l pre t : List ByteArray} {x : ByteArray} {i : Int} (hi : i = (pre.length : Nat)) (hl : l = pre ++ x :: t) (h : Gd G (K (.rp (encS x ++ (t.map encS).flatten)))) : Gd G (pIadr 1 (strsC l) (.sc (.int .i64 i)) fun t => K t) := by
 rw [strs_rows]
 exact g_iadr hi (fun _ => rfl) (by decide) hl h
def bAt (s : ByteArray) (i : Int) : Int := ((s.data.toList.getD i.toNat 0).toNat : Nat)
theorem bAt_range (s : ByteArray) (i : Int) : 0 ≤ bAt s i ∧ bAt s i < 256 := by
 have := (s.data.toList.getD i.toNat 0).toNat_lt
 unfold bAt
 omega
theorem g_iadrB {s : ByteArray} {i : Int} (h0 : 0 ≤ i) (h1 : i < (s.size : Nat)) (h : ∀ rest, Gd G (K (.rp (.sc (.int .u8 (bAt s i)) :: rest)))) : Gd G (pIadr 1 (bytesC s) (.sc (.int .i64 i)) fun t => K t) := by
 have hlt : i.toNat < s.size := by omega
 have e : (bytesAV s).drop (i.toNat * 1) = .sc (.int .u8 (bAt s i)) :: (bytesAV s).drop (i.toNat + 1) := by
  rw [Nat.mul_one, List.drop_eq_getElem_cons (by rw [bytesAV_len]; omega)]
  congr 1
  simp [bytesAV, bAt, List.getD_eq_getElem?_getD, hlt]
 have e2 : (.sc (.int .i64 i) : AV) = .sc (.int .i64 (i.toNat : Nat)) := by
  rw [Int.toNat_of_nonneg h0]
 rw [e2]
 refine g_congr (iadr_ro 1 s.size (bytesAV s) i.toNat _ hlt (by rw [bytesAV_len]; omega)) ?_
 rw [e]
 exact h _
theorem rows_app {α : Type} {enc : α → List AV} (l q : List α) : rowsC enc (l ++ q) = .ro (l.length + q.length) ((l.map enc).flatten ++ (q.map enc).flatten) := by
 show AV.ro _ _ = _
 rw [List.length_append, List.map_append, List.flatten_append]
theorem g_appR {α : Type} {enc : α → List AV} {sz bytes ty : Nat} {cty : List Nat} {x : AV} {l : List α} {i : Nat} {raw cb : List AV} {a : Bool} {e : α} {L3 : List Ck} (hs : Sep H L) (hty : ∃ i j, ti0 ty = some i ∧ ti0 i.elem = some j ∧ j.size = sz ∧ j.cty = cty) (hx : Pk L (.own x ty (rowsC enc l)) L1) (hp : Pk L1 (.blk i raw a) L2) (hl : raw.length = sz) (hf : raw.all isLeaf = true) (hr : OwnR L2 raw cty cb L3) (hok : okLW (okW ti0 E0.tp 5) cty cb) (he : cb = enc e) (hb : (l.length + 1) * bytes ≤ 140737488355328)
  (h : ∀ x' H', isLeaf x' = true → Sep H' (.own x' ty (rowsC enc (l ++ [e])) :: L3) → Gd G (KH x' H')) : Gd G (pApp sz bytes x (.sl i 0 1 sz) H fun x H => KH x H) := by
 have e1 : (List.replicate 1 cty).flatten = cty := by simp
 refine g_app hs hty hx (src_blk hp (by omega) hf (by rw [e1]; exact hr) (by rw [e1]; exact hok)) (by rw [e1]; exact hok) hb fun x' H' lx hs' => h x' H' lx ?_
 rw [rows_app]
 simpa [he] using hs'
theorem g_appI1 {ty : Nat} {cty : List Nat} {x : AV} {l : List Int} {i : Nat} {z : Int} {a : Bool} (hs : Sep H L) (hx : Pk L (.own x ty (intsC l)) L1) (hp : Pk L1 (.blk i [.sc (.int .i64 z)] a) L2) (hty : ∃ i j, ti0 ty = some i ∧ ti0 i.elem = some j ∧ j.size = 1 ∧ j.cty = cty) (hc : cty.length = 1) (hb : (l.length + 1) * 8 ≤ 140737488355328)
  (h : ∀ x' H', isLeaf x' = true → Sep H' (.own x' ty (intsC (l ++ [z])) :: L2) → Gd G (KH x' H')) : Gd G (pApp 1 8 x (.sl i 0 1 1) H fun x H => KH x H) := by
 obtain ⟨c, rfl⟩ := List.length_eq_one_iff.1 hc
 rw [ints_rows] at hx h
 exact g_appR hs hty hx hp rfl rfl (.sc .nil) ⟨trivial, trivial⟩ rfl hb h
theorem g_appS1 {ty : Nat} {cty : List Nat} {x : AV} {l : List ByteArray} {i : Nat} {z : ByteArray} {a : Bool} (hs : Sep H L) (hx : Pk L (.own x ty (strsC l)) L1) (hp : Pk L1 (.blk i [.sc (.string z)] a) L2) (hty : ∃ i j, ti0 ty = some i ∧ ti0 i.elem = some j ∧ j.size = 1 ∧ j.cty = cty) (hc : cty.length = 1) (hb : (l.length + 1) * 16 ≤ 140737488355328)
  (h : ∀ x' H', isLeaf x' = true → Sep H' (.own x' ty (strsC (l ++ [z])) :: L2) → Gd G (KH x' H')) : Gd G (pApp 1 16 x (.sl i 0 1 1) H fun x H => KH x H) := by
 obtain ⟨c, rfl⟩ := List.length_eq_one_iff.1 hc
 rw [strs_rows] at hx h
 exact g_appR hs hty hx hp rfl rfl (.sc .nil) ⟨trivial, trivial⟩ rfl hb h
theorem ownL_at {f : Nat → AV → Option (AV × List Nat)} : ∀ {ts : List Nat} {xs cells : List AV} {I : List Nat} {k ty : Nat} {y t : AV}, ownL f ts xs = some (cells, I) → xs[k]? = some y → ts[k]? = some ty → cells[k]? = some t → ∃ J, f ty y = some (t, J) ∧ ∀ i ∈ J, i ∈ I
 | ts, [], cells, I, k, ty, y, t, h, hy, _, _ => by simp at hy
 | [], _ :: _, _, _, _, _, _, _, h, _, _, _ => by simp [ownL] at h
 | t0 :: ts, x :: xs, cells, I, k, ty, y, t, h, hy, ht, hc => by
  obtain ⟨a, b, h1, h2, e⟩ := ownL_cons h
  cases e
  cases k with
  | zero =>
   simp only [List.getElem?_cons_zero, Option.some.injEq] at hy ht hc
   subst hy
   subst ht
   subst hc
   exact ⟨a.2, h1, fun i hi => List.mem_append_left _ hi⟩
  | succ k =>
   obtain ⟨J, g1, g2⟩ := ownL_at (cells := b.1) (I := b.2) h2 (by simpa using hy) (by simpa using ht) (by simpa using hc)
   exact ⟨J, g1, fun i hi => List.mem_append_right _ (g2 i hi)⟩
theorem g_appRK {α : Type} {enc : α → List AV} {sz bytes ty : Nat} {cty : List Nat} {x : AV} {l : List α} {i k ty' : Nat} {y t' : AV} {raw cb : List AV} {a : Bool} {e : α} {L3 : List Ck} (hs : Sep H L) (hty : ∃ i j, ti0 ty = some i ∧ ti0 i.elem = some j ∧ j.size = sz ∧ j.cty = cty) (hx : Pk L (.own x ty (rowsC enc l)) L1) (hp : Pk L1 (.blk i raw a) L2) (hl : raw.length = sz) (hf : raw.all isLeaf = true) (hr : OwnR L2 raw cty cb L3) (hok : okLW (okW ti0 E0.tp 5) cty cb) (he : cb = enc e) (hb : (l.length + 1) * bytes ≤ 140737488355328)
  (hw : ∀ x, (enc x).length = sz) (hc : cty.length = sz) (hk : raw[k]? = some y) (hk2 : cty[k]? = some ty') (hk3 : cb[k]? = some t') (hok5 : okW ti0 E0.tp 6 ty' t')
  (h : ∀ x' H', isLeaf x' = true → Sep H' (.shr x' ty (rowsC enc (l ++ [e])) y ty' t' :: L3) → Gd G (KH x' H')) : Gd G (pApp sz bytes x (.sl i 0 1 sz) H fun x H => KH x H) := by
 have e1 : (List.replicate 1 cty).flatten = cty := by simp
 have hblk := (hs.pick hx).tail.blk hp
 obtain ⟨ti, tj, t1, t2, t3, t4⟩ := hty
 refine g_appX hs ⟨ti, tj, t1, t2, t3, t4⟩ hx (src_blk hp (by omega) hf (by rw [e1]; exact hr) (by rw [e1]; exact hok)) (by rw [e1]; exact hok) hb fun x' H' lx hs' ⟨id, cx, cy, q1, q2, q3, q4⟩ => h x' H' lx ?_
 have hcy : cy = raw := by
  have : content H sz (.sl i 0 1 sz) = some raw := by
   show (if sz = sz then rdCells H i 0 (1 * sz) else none) = _
   simp only [if_true, rdCells, hblk, Nat.one_mul, Nat.zero_add, List.drop_zero, ← hl, Nat.le_refl, List.take_length]
  rw [this] at q3
  exact (Option.some.inj q3).symm
 subst hcy
 obtain ⟨I, ⟨J, R, rfl, ⟨h0, h1, h2⟩, h3⟩, h4⟩ := hs'
 have hrow : AV.ro (l.length + 1) ((l.map enc).flatten ++ cb) = rowsC enc (l ++ [e]) := by
  rw [rows_app]
  simp [he]
 rw [hrow] at h1 h2
 refine ⟨J ++ R, ⟨J, R, rfl, ⟨⟨h0, h1, h2⟩, hok5, ?_⟩, h3⟩, h4⟩
 rw [← hrow] at h2
 rcases own_raw t1 t2 h2 with ⟨rfl, _⟩ | ⟨id', off, raw', J', b, p1, p2, p3, p4, p5, p6, p7⟩
 ·cases q1
 ·rw [q1] at p1
  cases p1
  rw [q2] at p3
  cases p3
  have hraw : raw' = cx ++ cy := by
   have hlen : (cx ++ cy).length = (l.length + 1) * tj.size := by rw [List.length_append, q4, hl, t3, Nat.add_mul, Nat.one_mul]
   simp only [rdCells, q2, if_true, Nat.zero_add, List.drop_zero] at p6
   rw [if_pos (by rw [hlen]; exact Nat.le_refl _), ← hlen, List.take_length] at p6
   exact (Option.some.inj p6).symm
  subst hraw
  have hlk : k < cy.length := (List.getElem?_eq_some_iff.1 hk).1
  obtain ⟨J2, g1, g2⟩ := ownL_at (k := l.length * tj.size + k) (ty := ty') (y := y) (t := t') p7 (by
   rw [List.getElem?_append_right (by omega), q4, Nat.add_sub_cancel_left]
   exact hk) (by
   rw [List.replicate_succ', List.flatten_append, List.getElem?_append_right (by simp [t4, hc])]
   simp [t4, hc, hk2]) (by
   have hlr := rows_len hw l
   rw [List.getElem?_append_right (by omega), hlr, Nat.add_sub_cancel_left]
   exact hk3)
  exact ⟨J2, own_dep 5 6 ty' y t' J2 g1 hok5, fun z hz => by rw [p2]; exact List.mem_cons_of_mem _ (g2 z hz)⟩
theorem g_appS {α : Type} {enc : α → List AV} {sz bytes ty : Nat} {cty : List Nat} {x y : AV} {l q : List α} (hs : Sep H L) (hty : ∃ i j, ti0 ty = some i ∧ ti0 i.elem = some j ∧ j.size = sz ∧ j.cty = cty) (hx : Pk L (.own x ty (rowsC enc l)) L1) (hy : Src H L1 sz cty y q.length (q.map enc).flatten L2) (hok : okLW (okW ti0 E0.tp 5) (List.replicate q.length cty).flatten (q.map enc).flatten) (hb : (l.length + q.length) * bytes ≤ 140737488355328)
  (h : ∀ x' H', isLeaf x' = true → Sep H' (.own x' ty (rowsC enc (l ++ q)) :: L2) → Gd G (KH x' H')) : Gd G (pApp sz bytes x y H fun x H => KH x H) := by
 refine g_app hs hty hx hy hok hb fun x' H' lx hs' => h x' H' lx ?_
 rw [rows_app]
 exact hs'
theorem g_appN {sz bytes m ty : Nat} {cty : List Nat} {y : AV} {cb : List AV} (hs : Sep H L) (hty : ∃ i j, ti0 ty = some i ∧ ti0 i.elem = some j ∧ j.size = sz ∧ j.cty = cty) (hy : Src H L sz cty y m cb L2) (hok : okLW (okW ti0 E0.tp 5) (List.replicate m cty).flatten cb) (hb : m * bytes ≤ 140737488355328)
  (h : ∀ x' H', isLeaf x' = true → Sep H' (.own x' ty (.ro m cb) :: L2) → Gd G (KH x' H')) : Gd G (pApp sz bytes .nl y H fun x H => KH x H) := by
 obtain ⟨i, j, e1, e2, e3, e4⟩ := hty
 refine g_app (hs.nl (ty := ty) ⟨i, j, e1, e2⟩) ⟨i, j, e1, e2, e3, e4⟩ .here hy hok (by rw [Nat.zero_add]; exact hb) fun x' H' lx hs' => h x' H' lx ?_
 rw [Nat.zero_add, List.nil_append] at hs'
 exact hs'
theorem okLW_scs {d : Nat} : ∀ {ts : List Nat} {l : List AV}, ts.length = l.length → l.all isSc = true → okLW (okW ti0 E0.tp (d + 1)) ts l
 | [], [], _, _ => trivial
 | t :: ts, x :: l, h, hl => by
  rw [List.all_cons, Bool.and_eq_true] at hl
  refine ⟨?_, okLW_scs (by simpa using h) hl.2⟩
  cases x with
  | sc v => trivial
  | _ => simp [isSc] at hl
 | [], _ :: _, h, _ => by simp at h
 | _ :: _, [], h, _ => by simp at h
theorem sc_bytes (s : ByteArray) : (bytesAV s).all isSc = true := by
 simp only [bytesAV, List.all_map, List.all_eq_true]
 intro b _
 rfl
theorem sc_ints (l : List Int) : (l.map fun z => AV.sc (.int .i64 z)).all isSc = true := by
 simp only [List.all_map, List.all_eq_true]
 intro b _
 rfl
theorem sc_strs (l : List ByteArray) : (l.map fun z => AV.sc (.string z)).all isSc = true := by
 simp only [List.all_map, List.all_eq_true]
 intro b _
 rfl
theorem sc_rows {α : Type} {enc : α → List AV} (hf : ∀ x, (enc x).all isSc = true) (l : List α) : ((l.map enc).flatten).all isSc = true := by
 rw [List.all_flatten, List.all_map, List.all_eq_true]
 intro x _
 exact hf x
theorem len_rep {cty : List Nat} {w m : Nat} (h : cty.length = w) : ((List.replicate m cty).flatten).length = m * w := by simp [h]
theorem g_copyB {s : ByteArray} (hs : Sep H L) (hb : s.size ≤ 140737488355328) (h : ∀ x' H', isLeaf x' = true → Sep H' (.own x' 23 (bytesC s) :: L) → Gd G (KH x' H')) : Gd G (pApp 1 1 .nl (bytesC s) H fun x H => KH x H) :=
 g_appN hs ⟨_, _, rfl, rfl, rfl, rfl⟩ (src_ro rfl (by rw [bytesAV_len]; omega) (sc_bytes s)) (okLW_scs (by rw [len_rep (w := 1) rfl, bytesAV_len, Nat.mul_one]) (sc_bytes s)) (by omega) h
theorem g_copyF {α : Type} {enc : α → List AV} {w bytes ty : Nat} {cty : List Nat} {l : List α} (hs : Sep H L) (hty : ∃ i j, ti0 ty = some i ∧ ti0 i.elem = some j ∧ j.size = w ∧ j.cty = cty) (hc : cty.length = w) (hw : ∀ x, (enc x).length = w) (hf : ∀ x, (enc x).all isSc = true) (hb : l.length * bytes ≤ 140737488355328) (h : ∀ x' H', isLeaf x' = true → Sep H' (.own x' ty (rowsC enc l) :: L) → Gd G (KH x' H')) : Gd G (pApp w bytes .nl (rowsC enc l) H fun x H => KH x H) :=
 g_appN hs hty (src_ro hc (rows_len hw l) (sc_rows hf l)) (okLW_scs (by rw [len_rep hc, rows_len hw]) (sc_rows hf l)) hb h
theorem g_copyI {ty : Nat} {cty : List Nat} {l : List Int} (hs : Sep H L) (hty : ∃ i j, ti0 ty = some i ∧ ti0 i.elem = some j ∧ j.size = 1 ∧ j.cty = cty) (hc : cty.length = 1) (hb : l.length * 8 ≤ 140737488355328) (h : ∀ x' H', isLeaf x' = true → Sep H' (.own x' ty (intsC l) :: L) → Gd G (KH x' H')) : Gd G (pApp 1 8 .nl (intsC l) H fun x H => KH x H) := by
 rw [ints_rows] at h ⊢
 exact g_copyF hs hty hc (fun _ => rfl) (fun _ => rfl) hb h
theorem g_copyS {ty : Nat} {cty : List Nat} {l : List ByteArray} (hs : Sep H L) (hty : ∃ i j, ti0 ty = some i ∧ ti0 i.elem = some j ∧ j.size = 1 ∧ j.cty = cty) (hc : cty.length = 1) (hb : l.length * 16 ≤ 140737488355328) (h : ∀ x' H', isLeaf x' = true → Sep H' (.own x' ty (strsC l) :: L) → Gd G (KH x' H')) : Gd G (pApp 1 16 .nl (strsC l) H fun x H => KH x H) := by
 rw [strs_rows] at h ⊢
 exact g_copyF hs hty hc (fun _ => rfl) (fun _ => rfl) hb h
end
end Go.Proofs.YtejjggnchdldoaaDoor.Abs
set_option linter.unusedVariables false
set_option linter.unusedSimpArgs false
set_option maxRecDepth 100000
set_option maxHeartbeats 3200000
namespace Go.Proofs.YtejjggnchdldoaaDoor.Abs
open Go
def pktT (t : Int) : PacketV := ⟨t, false, 0, false, 0, ⟨#[]⟩, ⟨#[]⟩, ⟨#[]⟩, 0, false, 0, false, ⟨#[]⟩, ⟨#[]⟩, 0, false, false, ⟨#[]⟩, false, ⟨#[]⟩, 0, false, [], [], []⟩
def nmWill (p q : PacketV) : PacketV := if p.fHasWill then { q with fHasWill := true, fWTopic := p.fWTopic, fWBody := p.fWBody, fWQos := p.fWQos, fWRetain := p.fWRetain } else q
def nmUser (p q : PacketV) : PacketV := if p.fHasUser then (if p.fHasPass then { q with fHasUser := true, fUser := p.fUser, fHasPass := true, fPass := p.fPass } else { q with fHasUser := true, fUser := p.fUser }) else q
def vNamed (pc : Bool) (p : PacketV) : PacketV :=
 if p.fType = 1 then nmUser p (nmWill p { pktT p.fType with fClient := p.fClient, fLevel := p.fLevel, fClean := p.fClean, fKeep := p.fKeep })
 else if p.fType = 2 then { pktT p.fType with fCode := p.fCode, fPresent := p.fPresent && (!pc || decide (p.fCode = 0)) }
 else if p.fType = 3 then (if 0 < p.fQos then { pktT p.fType with fQos := p.fQos, fRetain := p.fRetain, fTopic := p.fTopic, fBody := p.fBody, fDup := p.fDup, fId := p.fId } else { pktT p.fType with fQos := p.fQos, fRetain := p.fRetain, fTopic := p.fTopic, fBody := p.fBody })
 else if p.fType = 4 ∨ p.fType = 5 ∨ p.fType = 6 ∨ p.fType = 7 ∨ p.fType = 11 then { pktT p.fType with fId := p.fId }
 else if p.fType = 8 then { pktT p.fType with fId := p.fId, fWants := p.fWants }
 else if p.fType = 9 then { pktT p.fType with fId := p.fId, fCodes := p.fCodes }
 else if p.fType = 10 then { pktT p.fType with fId := p.fId, fNames := p.fNames }
 else pktT p.fType
theorem implNamedK (n : Nat) (hn : 1048576 < n) (p : PacketV) {β : Type} {G : Option β → Prop} {KH : AV → Heap → Option β} {H : Heap} {L : List Ck} (s0 : Sep H (L)) (hk : ∀ raw H', (∀ L', VwL L' 7 raw (encPacket (vNamed false p))) → Sep H' L → Gd G (KH (.agg raw) H')) : Gd G (evalFn E0 (n + 1) β 82 [.agg (encPacket p)] H fun x H => KH x H) := by
 rw [f82_eq, f82]
 try simp only [PR_box, PR_new, PR_newSl, PR_fadr, PR_load, PR_store, PR_bin, PR_binB, PR_binA, PR_un, PR_cond, PR_guard, PR_pick, PR_len, PR_lenS, PR_iadr, PR_idx, PR_slice, PR_sliceS, PR_fill, PR_make, PR_app, PR_appS, PR_cvI, PR_cvSS, PR_cvBS, PR_cvSB, PR_extr, PR_nil, PR_clear, PR_fld, PR_apart, PR_same]
 refine g_box s0 (cells_fl (flPacket _)) fun i1 H s2 => ?_
 refine g_new s2 fun i3 H s4 => ?_
 refine g_fadr (o' := 0) rfl ?_
 refine g_ld (c := .sc (.int .i64 p.fType)) s4 (.there (.here)) rfl ?_
 refine g_fill (cs := [.sc (.int .i64 p.fType), .sc (.bool false), .sc (.int .i64 0), .sc (.bool false), .sc (.int .i64 0), .sc (.string (⟨#[]⟩)), .nl, .sc (.string (⟨#[]⟩)), .sc (.int .i64 0), .sc (.bool false), .sc (.int .i64 0), .sc (.bool false), .sc (.string (⟨#[]⟩)), .nl, .sc (.int .i64 0), .sc (.bool false), .sc (.bool false), .sc (.string (⟨#[]⟩)), .sc (.bool false), .nl, .sc (.int .i64 0), .sc (.bool false), .nl, .nl, .nl]) rfl ?_
 refine g_new s4 fun i5 H s6 => ?_
 refine g_st (cs' := [.sc (.int .i64 p.fType), .sc (.bool false), .sc (.int .i64 0), .sc (.bool false), .sc (.int .i64 0), .sc (.string (⟨#[]⟩)), .nl, .sc (.string (⟨#[]⟩)), .sc (.int .i64 0), .sc (.bool false), .sc (.int .i64 0), .sc (.bool false), .sc (.string (⟨#[]⟩)), .nl, .sc (.int .i64 0), .sc (.bool false), .sc (.bool false), .sc (.string (⟨#[]⟩)), .sc (.bool false), .nl, .sc (.int .i64 0), .sc (.bool false), .nl, .nl, .nl]) s6 (.here) (cells_agg (lf_c rfl (lf_c rfl (lf_c rfl (lf_c rfl (lf_c rfl (lf_c rfl (lf_c rfl (lf_c rfl (lf_c rfl (lf_c rfl (lf_c rfl (lf_c rfl (lf_c rfl (lf_c rfl (lf_c rfl (lf_c rfl (lf_c rfl (lf_c rfl (lf_c rfl (lf_c rfl (lf_c rfl (lf_c rfl (lf_c rfl (lf_c rfl (lf_c rfl rfl)))))))))))))))))))))))))) rfl (Nat.le_of_ble_eq_true rfl) rfl fun H s7 => ?_
 refine g_fadr (o' := 0) rfl ?_
 refine g_ld (c := .sc (.int .i64 p.fType)) s7 (.there (.there (.here))) rfl ?_
 refine g_eql ?_
 refine w_split ((decide (p.fType = 1))) (fun h8 => ?_) (fun h8 => ?_)
 ·refine g_cT h8 ?_
  refine g_fadr (o' := 7) rfl ?_
  refine g_ld (c := .sc (.string p.fClient)) s7 (.there (.there (.here))) rfl ?_
  refine g_fadr (o' := 8) rfl ?_
  refine g_fadr (o' := 9) rfl ?_
  refine g_fadr (o' := 10) rfl ?_
  refine g_fadr (o' := 11) rfl ?_
  refine g_fadr (o' := 16) rfl ?_
  refine g_fadr (o' := 7) rfl ?_
  refine g_apart s7 (.there (.there (.here))) (fun y hy => (List.mem_cons.1 hy).elim (fun e => ⟨_, _, _, _, e, _, (.here)⟩) ((fun y hy => absurd hy (by simp)) y)) ?_
  refine g_ld (c := .sc (.int .i64 p.fLevel)) s7 (.there (.there (.here))) rfl ?_
  refine g_apart s7 (.there (.there (.here))) (fun y hy => (List.mem_cons.1 hy).elim (fun e => ⟨_, _, _, _, e, _, (.here)⟩) ((fun y hy => absurd hy (by simp)) y)) ?_
  refine g_ld (c := .sc (.bool p.fClean)) s7 (.there (.there (.here))) rfl ?_
  refine g_apart s7 (.there (.there (.here))) (fun y hy => (List.mem_cons.1 hy).elim (fun e => ⟨_, _, _, _, e, _, (.here)⟩) ((fun y hy => absurd hy (by simp)) y)) ?_
  refine g_ld (c := .sc (.int .i64 p.fKeep)) s7 (.there (.there (.here))) rfl ?_
  refine g_apart s7 (.there (.there (.here))) (fun y hy => (List.mem_cons.1 hy).elim (fun e => ⟨_, _, _, _, e, _, (.here)⟩) ((fun y hy => absurd hy (by simp)) y)) ?_
  refine g_ld (c := .sc (.bool p.fHasWill)) s7 (.there (.there (.here))) rfl ?_
  refine g_apart s7 (.there (.there (.here))) (fun y hy => (List.mem_cons.1 hy).elim (fun e => ⟨_, _, _, _, e, _, (.here)⟩) ((fun y hy => absurd hy (by simp)) y)) ?_
  refine g_ld (c := .sc (.bool p.fHasUser)) s7 (.there (.there (.here))) rfl ?_
  refine g_same ?_
  refine g_st (cs' := [.sc (.int .i64 p.fType), .sc (.bool false), .sc (.int .i64 0), .sc (.bool false), .sc (.int .i64 0), .sc (.string (⟨#[]⟩)), .nl, .sc (.string p.fClient), .sc (.int .i64 0), .sc (.bool false), .sc (.int .i64 0), .sc (.bool false), .sc (.string (⟨#[]⟩)), .nl, .sc (.int .i64 0), .sc (.bool false), .sc (.bool false), .sc (.string (⟨#[]⟩)), .sc (.bool false), .nl, .sc (.int .i64 0), .sc (.bool false), .nl, .nl, .nl]) s7 (.here) (cells_leaf rfl) rfl (Nat.le_of_ble_eq_true rfl) rfl fun H s9 => ?_
  refine g_fadr (o' := 8) rfl ?_
  refine g_same ?_
  refine g_st (cs' := [.sc (.int .i64 p.fType), .sc (.bool false), .sc (.int .i64 0), .sc (.bool false), .sc (.int .i64 0), .sc (.string (⟨#[]⟩)), .nl, .sc (.string p.fClient), .sc (.int .i64 p.fLevel), .sc (.bool false), .sc (.int .i64 0), .sc (.bool false), .sc (.string (⟨#[]⟩)), .nl, .sc (.int .i64 0), .sc (.bool false), .sc (.bool false), .sc (.string (⟨#[]⟩)), .sc (.bool false), .nl, .sc (.int .i64 0), .sc (.bool false), .nl, .nl, .nl]) s9 (.here) (cells_leaf rfl) rfl (Nat.le_of_ble_eq_true rfl) rfl fun H s10 => ?_
  refine g_fadr (o' := 9) rfl ?_
  refine g_same ?_
  refine g_st (cs' := [.sc (.int .i64 p.fType), .sc (.bool false), .sc (.int .i64 0), .sc (.bool false), .sc (.int .i64 0), .sc (.string (⟨#[]⟩)), .nl, .sc (.string p.fClient), .sc (.int .i64 p.fLevel), .sc (.bool p.fClean), .sc (.int .i64 0), .sc (.bool false), .sc (.string (⟨#[]⟩)), .nl, .sc (.int .i64 0), .sc (.bool false), .sc (.bool false), .sc (.string (⟨#[]⟩)), .sc (.bool false), .nl, .sc (.int .i64 0), .sc (.bool false), .nl, .nl, .nl]) s10 (.here) (cells_leaf rfl) rfl (Nat.le_of_ble_eq_true rfl) rfl fun H s11 => ?_
  refine g_fadr (o' := 10) rfl ?_
  refine g_same ?_
  refine g_st (cs' := [.sc (.int .i64 p.fType), .sc (.bool false), .sc (.int .i64 0), .sc (.bool false), .sc (.int .i64 0), .sc (.string (⟨#[]⟩)), .nl, .sc (.string p.fClient), .sc (.int .i64 p.fLevel), .sc (.bool p.fClean), .sc (.int .i64 p.fKeep), .sc (.bool false), .sc (.string (⟨#[]⟩)), .nl, .sc (.int .i64 0), .sc (.bool false), .sc (.bool false), .sc (.string (⟨#[]⟩)), .sc (.bool false), .nl, .sc (.int .i64 0), .sc (.bool false), .nl, .nl, .nl]) s11 (.here) (cells_leaf rfl) rfl (Nat.le_of_ble_eq_true rfl) rfl fun H s12 => ?_
  refine g_fadr (o' := 11) rfl ?_
  refine g_same ?_
  refine g_st (cs' := [.sc (.int .i64 p.fType), .sc (.bool false), .sc (.int .i64 0), .sc (.bool false), .sc (.int .i64 0), .sc (.string (⟨#[]⟩)), .nl, .sc (.string p.fClient), .sc (.int .i64 p.fLevel), .sc (.bool p.fClean), .sc (.int .i64 p.fKeep), .sc (.bool p.fHasWill), .sc (.string (⟨#[]⟩)), .nl, .sc (.int .i64 0), .sc (.bool false), .sc (.bool false), .sc (.string (⟨#[]⟩)), .sc (.bool false), .nl, .sc (.int .i64 0), .sc (.bool false), .nl, .nl, .nl]) s12 (.here) (cells_leaf rfl) rfl (Nat.le_of_ble_eq_true rfl) rfl fun H s13 => ?_
  refine g_fadr (o' := 16) rfl ?_
  refine g_st (cs' := [.sc (.int .i64 p.fType), .sc (.bool false), .sc (.int .i64 0), .sc (.bool false), .sc (.int .i64 0), .sc (.string (⟨#[]⟩)), .nl, .sc (.string p.fClient), .sc (.int .i64 p.fLevel), .sc (.bool p.fClean), .sc (.int .i64 p.fKeep), .sc (.bool p.fHasWill), .sc (.string (⟨#[]⟩)), .nl, .sc (.int .i64 0), .sc (.bool false), .sc (.bool p.fHasUser), .sc (.string (⟨#[]⟩)), .sc (.bool false), .nl, .sc (.int .i64 0), .sc (.bool false), .nl, .nl, .nl]) s13 (.here) (cells_leaf rfl) rfl (Nat.le_of_ble_eq_true rfl) rfl fun H s14 => ?_
  refine g_fadr (o' := 11) rfl ?_
  refine g_ld (c := .sc (.bool p.fHasWill)) s14 (.there (.there (.here))) rfl ?_
  refine g_letJ ?_
  refine w_split (p.fHasWill) (fun h15 => ?_) (fun h15 => ?_)
  ·refine g_cT h15 ?_
   refine g_fadr (o' := 12) rfl ?_
   refine g_ld (c := .sc (.string p.fWTopic)) s14 (.there (.there (.here))) rfl ?_
   refine g_fadr (o' := 13) rfl ?_
   refine g_fadr (o' := 14) rfl ?_
   refine g_fadr (o' := 15) rfl ?_
   refine g_fadr (o' := 12) rfl ?_
   refine g_apart s14 (.there (.there (.here))) (fun y hy => (List.mem_cons.1 hy).elim (fun e => ⟨_, _, _, _, e, _, (.here)⟩) ((fun y hy => absurd hy (by simp)) y)) ?_
   refine g_ld (c := bytesC p.fWBody) s14 (.there (.there (.here))) rfl ?_
   refine g_apart s14 (.there (.there (.here))) (fun y hy => (List.mem_cons.1 hy).elim (fun e => ⟨_, _, _, _, e, _, (.here)⟩) ((fun y hy => absurd hy (by simp)) y)) ?_
   refine g_ld (c := .sc (.int .i64 p.fWQos)) s14 (.there (.there (.here))) rfl ?_
   refine g_apart s14 (.there (.there (.here))) (fun y hy => (List.mem_cons.1 hy).elim (fun e => ⟨_, _, _, _, e, _, (.here)⟩) ((fun y hy => absurd hy (by simp)) y)) ?_
   refine g_ld (c := .sc (.bool p.fWRetain)) s14 (.there (.there (.here))) rfl ?_
   refine g_same ?_
   refine g_st (cs' := [.sc (.int .i64 p.fType), .sc (.bool false), .sc (.int .i64 0), .sc (.bool false), .sc (.int .i64 0), .sc (.string (⟨#[]⟩)), .nl, .sc (.string p.fClient), .sc (.int .i64 p.fLevel), .sc (.bool p.fClean), .sc (.int .i64 p.fKeep), .sc (.bool p.fHasWill), .sc (.string p.fWTopic), .nl, .sc (.int .i64 0), .sc (.bool false), .sc (.bool p.fHasUser), .sc (.string (⟨#[]⟩)), .sc (.bool false), .nl, .sc (.int .i64 0), .sc (.bool false), .nl, .nl, .nl]) s14 (.here) (cells_leaf rfl) rfl (Nat.le_of_ble_eq_true rfl) rfl fun H s16 => ?_
   refine g_fadr (o' := 13) rfl ?_
   refine g_same ?_
   refine g_st (cs' := [.sc (.int .i64 p.fType), .sc (.bool false), .sc (.int .i64 0), .sc (.bool false), .sc (.int .i64 0), .sc (.string (⟨#[]⟩)), .nl, .sc (.string p.fClient), .sc (.int .i64 p.fLevel), .sc (.bool p.fClean), .sc (.int .i64 p.fKeep), .sc (.bool p.fHasWill), .sc (.string p.fWTopic), bytesC p.fWBody, .sc (.int .i64 0), .sc (.bool false), .sc (.bool p.fHasUser), .sc (.string (⟨#[]⟩)), .sc (.bool false), .nl, .sc (.int .i64 0), .sc (.bool false), .nl, .nl, .nl]) s16 (.here) (cells_leaf rfl) rfl (Nat.le_of_ble_eq_true rfl) rfl fun H s17 => ?_
   refine g_fadr (o' := 14) rfl ?_
   refine g_same ?_
   refine g_st (cs' := [.sc (.int .i64 p.fType), .sc (.bool false), .sc (.int .i64 0), .sc (.bool false), .sc (.int .i64 0), .sc (.string (⟨#[]⟩)), .nl, .sc (.string p.fClient), .sc (.int .i64 p.fLevel), .sc (.bool p.fClean), .sc (.int .i64 p.fKeep), .sc (.bool p.fHasWill), .sc (.string p.fWTopic), bytesC p.fWBody, .sc (.int .i64 p.fWQos), .sc (.bool false), .sc (.bool p.fHasUser), .sc (.string (⟨#[]⟩)), .sc (.bool false), .nl, .sc (.int .i64 0), .sc (.bool false), .nl, .nl, .nl]) s17 (.here) (cells_leaf rfl) rfl (Nat.le_of_ble_eq_true rfl) rfl fun H s18 => ?_
   refine g_fadr (o' := 15) rfl ?_
   refine g_st (cs' := [.sc (.int .i64 p.fType), .sc (.bool false), .sc (.int .i64 0), .sc (.bool false), .sc (.int .i64 0), .sc (.string (⟨#[]⟩)), .nl, .sc (.string p.fClient), .sc (.int .i64 p.fLevel), .sc (.bool p.fClean), .sc (.int .i64 p.fKeep), .sc (.bool p.fHasWill), .sc (.string p.fWTopic), bytesC p.fWBody, .sc (.int .i64 p.fWQos), .sc (.bool p.fWRetain), .sc (.bool p.fHasUser), .sc (.string (⟨#[]⟩)), .sc (.bool false), .nl, .sc (.int .i64 0), .sc (.bool false), .nl, .nl, .nl]) s18 (.here) (cells_leaf rfl) rfl (Nat.le_of_ble_eq_true rfl) rfl fun H s19 => ?_
   refine g_fadr (o' := 16) rfl ?_
   refine g_ld (c := .sc (.bool p.fHasUser)) s19 (.there (.there (.here))) rfl ?_
   refine g_letJ ?_
   refine w_split (p.fHasUser) (fun h20 => ?_) (fun h20 => ?_)
   ·refine g_cT h20 ?_
    refine g_fadr (o' := 17) rfl ?_
    refine g_ld (c := .sc (.string p.fUser)) s19 (.there (.there (.here))) rfl ?_
    refine g_fadr (o' := 18) rfl ?_
    refine g_fadr (o' := 17) rfl ?_
    refine g_apart s19 (.there (.there (.here))) (fun y hy => (List.mem_cons.1 hy).elim (fun e => ⟨_, _, _, _, e, _, (.here)⟩) ((fun y hy => absurd hy (by simp)) y)) ?_
    refine g_ld (c := .sc (.bool p.fHasPass)) s19 (.there (.there (.here))) rfl ?_
    refine g_same ?_
    refine g_st (cs' := [.sc (.int .i64 p.fType), .sc (.bool false), .sc (.int .i64 0), .sc (.bool false), .sc (.int .i64 0), .sc (.string (⟨#[]⟩)), .nl, .sc (.string p.fClient), .sc (.int .i64 p.fLevel), .sc (.bool p.fClean), .sc (.int .i64 p.fKeep), .sc (.bool p.fHasWill), .sc (.string p.fWTopic), bytesC p.fWBody, .sc (.int .i64 p.fWQos), .sc (.bool p.fWRetain), .sc (.bool p.fHasUser), .sc (.string p.fUser), .sc (.bool false), .nl, .sc (.int .i64 0), .sc (.bool false), .nl, .nl, .nl]) s19 (.here) (cells_leaf rfl) rfl (Nat.le_of_ble_eq_true rfl) rfl fun H s21 => ?_
    refine g_fadr (o' := 18) rfl ?_
    refine g_st (cs' := [.sc (.int .i64 p.fType), .sc (.bool false), .sc (.int .i64 0), .sc (.bool false), .sc (.int .i64 0), .sc (.string (⟨#[]⟩)), .nl, .sc (.string p.fClient), .sc (.int .i64 p.fLevel), .sc (.bool p.fClean), .sc (.int .i64 p.fKeep), .sc (.bool p.fHasWill), .sc (.string p.fWTopic), bytesC p.fWBody, .sc (.int .i64 p.fWQos), .sc (.bool p.fWRetain), .sc (.bool p.fHasUser), .sc (.string p.fUser), .sc (.bool p.fHasPass), .nl, .sc (.int .i64 0), .sc (.bool false), .nl, .nl, .nl]) s21 (.here) (cells_leaf rfl) rfl (Nat.le_of_ble_eq_true rfl) rfl fun H s22 => ?_
    refine g_fadr (o' := 18) rfl ?_
    refine g_ld (c := .sc (.bool p.fHasPass)) s22 (.here) rfl ?_
    refine w_split (p.fHasPass) (fun h23 => ?_) (fun h23 => ?_)
    ·refine g_cT h23 ?_
     refine g_fadr (o' := 19) rfl ?_
     refine g_ld (c := bytesC p.fPass) s22 (.there (.there (.here))) rfl ?_
     refine g_fadr (o' := 19) rfl ?_
     refine g_st (cs' := [.sc (.int .i64 p.fType), .sc (.bool false), .sc (.int .i64 0), .sc (.bool false), .sc (.int .i64 0), .sc (.string (⟨#[]⟩)), .nl, .sc (.string p.fClient), .sc (.int .i64 p.fLevel), .sc (.bool p.fClean), .sc (.int .i64 p.fKeep), .sc (.bool p.fHasWill), .sc (.string p.fWTopic), bytesC p.fWBody, .sc (.int .i64 p.fWQos), .sc (.bool p.fWRetain), .sc (.bool p.fHasUser), .sc (.string p.fUser), .sc (.bool p.fHasPass), bytesC p.fPass, .sc (.int .i64 0), .sc (.bool false), .nl, .nl, .nl]) s22 (.here) (cells_leaf rfl) rfl (Nat.le_of_ble_eq_true rfl) rfl fun H s24 => ?_
     refine g_ldW s24 (.here) rfl ?_
     refine g_st (cs' := [.sc (.int .i64 p.fType), .sc (.bool false), .sc (.int .i64 0), .sc (.bool false), .sc (.int .i64 0), .sc (.string (⟨#[]⟩)), .nl, .sc (.string p.fClient), .sc (.int .i64 p.fLevel), .sc (.bool p.fClean), .sc (.int .i64 p.fKeep), .sc (.bool p.fHasWill), .sc (.string p.fWTopic), bytesC p.fWBody, .sc (.int .i64 p.fWQos), .sc (.bool p.fWRetain), .sc (.bool p.fHasUser), .sc (.string p.fUser), .sc (.bool p.fHasPass), bytesC p.fPass, .sc (.int .i64 0), .sc (.bool false), .nl, .nl, .nl]) s24 (.there (.here)) (cells_agg (lf_c rfl (lf_c rfl (lf_c rfl (lf_c rfl (lf_c rfl (lf_c rfl (lf_c rfl (lf_c rfl (lf_c rfl (lf_c rfl (lf_c rfl (lf_c rfl (lf_c rfl (lf_c rfl (lf_c rfl (lf_c rfl (lf_c rfl (lf_c rfl (lf_c rfl (lf_c rfl (lf_c rfl (lf_c rfl (lf_c rfl (lf_c rfl (lf_c rfl rfl)))))))))))))))))))))))))) rfl (Nat.le_of_ble_eq_true rfl) rfl fun H s25 => ?_
     refine g_ldW s25 (.here) rfl ?_
     have e : vNamed false p = (⟨p.fType, false, 0, false, 0, ⟨#[]⟩, ⟨#[]⟩, p.fClient, p.fLevel, p.fClean, p.fKeep, p.fHasWill, p.fWTopic, p.fWBody, p.fWQos, p.fWRetain, p.fHasUser, p.fUser, p.fHasPass, p.fPass, 0, false, [], [], []⟩ : PacketV) := by
      clear hk s0 s2 s4 s6 s7 s9 s10 s11 s12 s13 s14 s16 s17 s18 s19 s21 s22 s24 s25
      simp only [decide_eq_true_eq, decide_eq_false_iff_not] at h8 h15 h20 h23
      simp [vNamed, nmWill, nmUser, pktT, h8, h15, h20, h23]
     rw [e] at hk
     exact hk _ _ (fun L' => (.cons .sc (.cons .sc (.cons .sc (.cons .sc (.cons .sc (.cons .sc (.cons .nl (.cons .sc (.cons .sc (.cons .sc (.cons .sc (.cons .sc (.cons .sc (.cons .ro (.cons .sc (.cons .sc (.cons .sc (.cons .sc (.cons .sc (.cons .ro (.cons .sc (.cons .sc (.cons .nl (.cons .nl (.cons .nl .nil)))))))))))))))))))))))))) s25.tail.tail.tail
    ·refine g_cF h23 ?_
     refine g_ldW s22 (.here) rfl ?_
     refine g_st (cs' := [.sc (.int .i64 p.fType), .sc (.bool false), .sc (.int .i64 0), .sc (.bool false), .sc (.int .i64 0), .sc (.string (⟨#[]⟩)), .nl, .sc (.string p.fClient), .sc (.int .i64 p.fLevel), .sc (.bool p.fClean), .sc (.int .i64 p.fKeep), .sc (.bool p.fHasWill), .sc (.string p.fWTopic), bytesC p.fWBody, .sc (.int .i64 p.fWQos), .sc (.bool p.fWRetain), .sc (.bool p.fHasUser), .sc (.string p.fUser), .sc (.bool p.fHasPass), .nl, .sc (.int .i64 0), .sc (.bool false), .nl, .nl, .nl]) s22 (.there (.here)) (cells_agg (lf_c rfl (lf_c rfl (lf_c rfl (lf_c rfl (lf_c rfl (lf_c rfl (lf_c rfl (lf_c rfl (lf_c rfl (lf_c rfl (lf_c rfl (lf_c rfl (lf_c rfl (lf_c rfl (lf_c rfl (lf_c rfl (lf_c rfl (lf_c rfl (lf_c rfl (lf_c rfl (lf_c rfl (lf_c rfl (lf_c rfl (lf_c rfl (lf_c rfl rfl)))))))))))))))))))))))))) rfl (Nat.le_of_ble_eq_true rfl) rfl fun H s26 => ?_
     refine g_ldW s26 (.here) rfl ?_
     have e : vNamed false p = (⟨p.fType, false, 0, false, 0, ⟨#[]⟩, ⟨#[]⟩, p.fClient, p.fLevel, p.fClean, p.fKeep, p.fHasWill, p.fWTopic, p.fWBody, p.fWQos, p.fWRetain, p.fHasUser, p.fUser, p.fHasPass, ⟨#[]⟩, 0, false, [], [], []⟩ : PacketV) := by
      clear hk s0 s2 s4 s6 s7 s9 s10 s11 s12 s13 s14 s16 s17 s18 s19 s21 s22 s26
      simp only [decide_eq_true_eq, decide_eq_false_iff_not] at h8 h15 h20 h23
      simp [vNamed, nmWill, nmUser, pktT, h8, h15, h20, h23]
     rw [e] at hk
     exact hk _ _ (fun L' => (.cons .sc (.cons .sc (.cons .sc (.cons .sc (.cons .sc (.cons .sc (.cons .nl (.cons .sc (.cons .sc (.cons .sc (.cons .sc (.cons .sc (.cons .sc (.cons .ro (.cons .sc (.cons .sc (.cons .sc (.cons .sc (.cons .sc (.cons .nl (.cons .sc (.cons .sc (.cons .nl (.cons .nl (.cons .nl .nil)))))))))))))))))))))))))) s26.tail.tail.tail
   ·refine g_cF h20 ?_
    refine g_fadr (o' := 18) rfl ?_
    refine g_ld (c := .sc (.bool false)) s19 (.here) rfl ?_
    refine g_cF rfl ?_
    refine g_ldW s19 (.here) rfl ?_
    refine g_st (cs' := [.sc (.int .i64 p.fType), .sc (.bool false), .sc (.int .i64 0), .sc (.bool false), .sc (.int .i64 0), .sc (.string (⟨#[]⟩)), .nl, .sc (.string p.fClient), .sc (.int .i64 p.fLevel), .sc (.bool p.fClean), .sc (.int .i64 p.fKeep), .sc (.bool p.fHasWill), .sc (.string p.fWTopic), bytesC p.fWBody, .sc (.int .i64 p.fWQos), .sc (.bool p.fWRetain), .sc (.bool p.fHasUser), .sc (.string (⟨#[]⟩)), .sc (.bool false), .nl, .sc (.int .i64 0), .sc (.bool false), .nl, .nl, .nl]) s19 (.there (.here)) (cells_agg (lf_c rfl (lf_c rfl (lf_c rfl (lf_c rfl (lf_c rfl (lf_c rfl (lf_c rfl (lf_c rfl (lf_c rfl (lf_c rfl (lf_c rfl (lf_c rfl (lf_c rfl (lf_c rfl (lf_c rfl (lf_c rfl (lf_c rfl (lf_c rfl (lf_c rfl (lf_c rfl (lf_c rfl (lf_c rfl (lf_c rfl (lf_c rfl (lf_c rfl rfl)))))))))))))))))))))))))) rfl (Nat.le_of_ble_eq_true rfl) rfl fun H s27 => ?_
    refine g_ldW s27 (.here) rfl ?_
    have e : vNamed false p = (⟨p.fType, false, 0, false, 0, ⟨#[]⟩, ⟨#[]⟩, p.fClient, p.fLevel, p.fClean, p.fKeep, p.fHasWill, p.fWTopic, p.fWBody, p.fWQos, p.fWRetain, p.fHasUser, ⟨#[]⟩, false, ⟨#[]⟩, 0, false, [], [], []⟩ : PacketV) := by
     clear hk s0 s2 s4 s6 s7 s9 s10 s11 s12 s13 s14 s16 s17 s18 s19 s27
     simp only [decide_eq_true_eq, decide_eq_false_iff_not] at h8 h15 h20
     simp [vNamed, nmWill, nmUser, pktT, h8, h15, h20]
    rw [e] at hk
    exact hk _ _ (fun L' => (.cons .sc (.cons .sc (.cons .sc (.cons .sc (.cons .sc (.cons .sc (.cons .nl (.cons .sc (.cons .sc (.cons .sc (.cons .sc (.cons .sc (.cons .sc (.cons .ro (.cons .sc (.cons .sc (.cons .sc (.cons .sc (.cons .sc (.cons .nl (.cons .sc (.cons .sc (.cons .nl (.cons .nl (.cons .nl .nil)))))))))))))))))))))))))) s27.tail.tail.tail
  ·refine g_cF h15 ?_
   refine g_fadr (o' := 16) rfl ?_
   refine g_ld (c := .sc (.bool p.fHasUser)) s14 (.there (.there (.here))) rfl ?_
   refine g_letJ ?_
   refine w_split (p.fHasUser) (fun h28 => ?_) (fun h28 => ?_)
   ·refine g_cT h28 ?_
    refine g_fadr (o' := 17) rfl ?_
    refine g_ld (c := .sc (.string p.fUser)) s14 (.there (.there (.here))) rfl ?_
    refine g_fadr (o' := 18) rfl ?_
    refine g_fadr (o' := 17) rfl ?_
    refine g_apart s14 (.there (.there (.here))) (fun y hy => (List.mem_cons.1 hy).elim (fun e => ⟨_, _, _, _, e, _, (.here)⟩) ((fun y hy => absurd hy (by simp)) y)) ?_
    refine g_ld (c := .sc (.bool p.fHasPass)) s14 (.there (.there (.here))) rfl ?_
    refine g_same ?_
    refine g_st (cs' := [.sc (.int .i64 p.fType), .sc (.bool false), .sc (.int .i64 0), .sc (.bool false), .sc (.int .i64 0), .sc (.string (⟨#[]⟩)), .nl, .sc (.string p.fClient), .sc (.int .i64 p.fLevel), .sc (.bool p.fClean), .sc (.int .i64 p.fKeep), .sc (.bool p.fHasWill), .sc (.string (⟨#[]⟩)), .nl, .sc (.int .i64 0), .sc (.bool false), .sc (.bool p.fHasUser), .sc (.string p.fUser), .sc (.bool false), .nl, .sc (.int .i64 0), .sc (.bool false), .nl, .nl, .nl]) s14 (.here) (cells_leaf rfl) rfl (Nat.le_of_ble_eq_true rfl) rfl fun H s29 => ?_
    refine g_fadr (o' := 18) rfl ?_
    refine g_st (cs' := [.sc (.int .i64 p.fType), .sc (.bool false), .sc (.int .i64 0), .sc (.bool false), .sc (.int .i64 0), .sc (.string (⟨#[]⟩)), .nl, .sc (.string p.fClient), .sc (.int .i64 p.fLevel), .sc (.bool p.fClean), .sc (.int .i64 p.fKeep), .sc (.bool p.fHasWill), .sc (.string (⟨#[]⟩)), .nl, .sc (.int .i64 0), .sc (.bool false), .sc (.bool p.fHasUser), .sc (.string p.fUser), .sc (.bool p.fHasPass), .nl, .sc (.int .i64 0), .sc (.bool false), .nl, .nl, .nl]) s29 (.here) (cells_leaf rfl) rfl (Nat.le_of_ble_eq_true rfl) rfl fun H s30 => ?_
    refine g_fadr (o' := 18) rfl ?_
    refine g_ld (c := .sc (.bool p.fHasPass)) s30 (.here) rfl ?_
    refine w_split (p.fHasPass) (fun h31 => ?_) (fun h31 => ?_)
    ·refine g_cT h31 ?_
     refine g_fadr (o' := 19) rfl ?_
     refine g_ld (c := bytesC p.fPass) s30 (.there (.there (.here))) rfl ?_
     refine g_fadr (o' := 19) rfl ?_
     refine g_st (cs' := [.sc (.int .i64 p.fType), .sc (.bool false), .sc (.int .i64 0), .sc (.bool false), .sc (.int .i64 0), .sc (.string (⟨#[]⟩)), .nl, .sc (.string p.fClient), .sc (.int .i64 p.fLevel), .sc (.bool p.fClean), .sc (.int .i64 p.fKeep), .sc (.bool p.fHasWill), .sc (.string (⟨#[]⟩)), .nl, .sc (.int .i64 0), .sc (.bool false), .sc (.bool p.fHasUser), .sc (.string p.fUser), .sc (.bool p.fHasPass), bytesC p.fPass, .sc (.int .i64 0), .sc (.bool false), .nl, .nl, .nl]) s30 (.here) (cells_leaf rfl) rfl (Nat.le_of_ble_eq_true rfl) rfl fun H s32 => ?_
     refine g_ldW s32 (.here) rfl ?_
     refine g_st (cs' := [.sc (.int .i64 p.fType), .sc (.bool false), .sc (.int .i64 0), .sc (.bool false), .sc (.int .i64 0), .sc (.string (⟨#[]⟩)), .nl, .sc (.string p.fClient), .sc (.int .i64 p.fLevel), .sc (.bool p.fClean), .sc (.int .i64 p.fKeep), .sc (.bool p.fHasWill), .sc (.string (⟨#[]⟩)), .nl, .sc (.int .i64 0), .sc (.bool false), .sc (.bool p.fHasUser), .sc (.string p.fUser), .sc (.bool p.fHasPass), bytesC p.fPass, .sc (.int .i64 0), .sc (.bool false), .nl, .nl, .nl]) s32 (.there (.here)) (cells_agg (lf_c rfl (lf_c rfl (lf_c rfl (lf_c rfl (lf_c rfl (lf_c rfl (lf_c rfl (lf_c rfl (lf_c rfl (lf_c rfl (lf_c rfl (lf_c rfl (lf_c rfl (lf_c rfl (lf_c rfl (lf_c rfl (lf_c rfl (lf_c rfl (lf_c rfl (lf_c rfl (lf_c rfl (lf_c rfl (lf_c rfl (lf_c rfl (lf_c rfl rfl)))))))))))))))))))))))))) rfl (Nat.le_of_ble_eq_true rfl) rfl fun H s33 => ?_
     refine g_ldW s33 (.here) rfl ?_
     have e : vNamed false p = (⟨p.fType, false, 0, false, 0, ⟨#[]⟩, ⟨#[]⟩, p.fClient, p.fLevel, p.fClean, p.fKeep, p.fHasWill, ⟨#[]⟩, ⟨#[]⟩, 0, false, p.fHasUser, p.fUser, p.fHasPass, p.fPass, 0, false, [], [], []⟩ : PacketV) := by
      clear hk s0 s2 s4 s6 s7 s9 s10 s11 s12 s13 s14 s29 s30 s32 s33
      simp only [decide_eq_true_eq, decide_eq_false_iff_not] at h8 h15 h28 h31
      simp [vNamed, nmWill, nmUser, pktT, h8, h15, h28, h31]
     rw [e] at hk
     exact hk _ _ (fun L' => (.cons .sc (.cons .sc (.cons .sc (.cons .sc (.cons .sc (.cons .sc (.cons .nl (.cons .sc (.cons .sc (.cons .sc (.cons .sc (.cons .sc (.cons .sc (.cons .nl (.cons .sc (.cons .sc (.cons .sc (.cons .sc (.cons .sc (.cons .ro (.cons .sc (.cons .sc (.cons .nl (.cons .nl (.cons .nl .nil)))))))))))))))))))))))))) s33.tail.tail.tail
    ·refine g_cF h31 ?_
     refine g_ldW s30 (.here) rfl ?_
     refine g_st (cs' := [.sc (.int .i64 p.fType), .sc (.bool false), .sc (.int .i64 0), .sc (.bool false), .sc (.int .i64 0), .sc (.string (⟨#[]⟩)), .nl, .sc (.string p.fClient), .sc (.int .i64 p.fLevel), .sc (.bool p.fClean), .sc (.int .i64 p.fKeep), .sc (.bool p.fHasWill), .sc (.string (⟨#[]⟩)), .nl, .sc (.int .i64 0), .sc (.bool false), .sc (.bool p.fHasUser), .sc (.string p.fUser), .sc (.bool p.fHasPass), .nl, .sc (.int .i64 0), .sc (.bool false), .nl, .nl, .nl]) s30 (.there (.here)) (cells_agg (lf_c rfl (lf_c rfl (lf_c rfl (lf_c rfl (lf_c rfl (lf_c rfl (lf_c rfl (lf_c rfl (lf_c rfl (lf_c rfl (lf_c rfl (lf_c rfl (lf_c rfl (lf_c rfl (lf_c rfl (lf_c rfl (lf_c rfl (lf_c rfl (lf_c rfl (lf_c rfl (lf_c rfl (lf_c rfl (lf_c rfl (lf_c rfl (lf_c rfl rfl)))))))))))))))))))))))))) rfl (Nat.le_of_ble_eq_true rfl) rfl fun H s34 => ?_
     refine g_ldW s34 (.here) rfl ?_
     have e : vNamed false p = (⟨p.fType, false, 0, false, 0, ⟨#[]⟩, ⟨#[]⟩, p.fClient, p.fLevel, p.fClean, p.fKeep, p.fHasWill, ⟨#[]⟩, ⟨#[]⟩, 0, false, p.fHasUser, p.fUser, p.fHasPass, ⟨#[]⟩, 0, false, [], [], []⟩ : PacketV) := by
      clear hk s0 s2 s4 s6 s7 s9 s10 s11 s12 s13 s14 s29 s30 s34
      simp only [decide_eq_true_eq, decide_eq_false_iff_not] at h8 h15 h28 h31
      simp [vNamed, nmWill, nmUser, pktT, h8, h15, h28, h31]
     rw [e] at hk
     exact hk _ _ (fun L' => (.cons .sc (.cons .sc (.cons .sc (.cons .sc (.cons .sc (.cons .sc (.cons .nl (.cons .sc (.cons .sc (.cons .sc (.cons .sc (.cons .sc (.cons .sc (.cons .nl (.cons .sc (.cons .sc (.cons .sc (.cons .sc (.cons .sc (.cons .nl (.cons .sc (.cons .sc (.cons .nl (.cons .nl (.cons .nl .nil)))))))))))))))))))))))))) s34.tail.tail.tail
   ·refine g_cF h28 ?_
    refine g_fadr (o' := 18) rfl ?_
    refine g_ld (c := .sc (.bool false)) s14 (.here) rfl ?_
    refine g_cF rfl ?_
    refine g_ldW s14 (.here) rfl ?_
    refine g_st (cs' := [.sc (.int .i64 p.fType), .sc (.bool false), .sc (.int .i64 0), .sc (.bool false), .sc (.int .i64 0), .sc (.string (⟨#[]⟩)), .nl, .sc (.string p.fClient), .sc (.int .i64 p.fLevel), .sc (.bool p.fClean), .sc (.int .i64 p.fKeep), .sc (.bool p.fHasWill), .sc (.string (⟨#[]⟩)), .nl, .sc (.int .i64 0), .sc (.bool false), .sc (.bool p.fHasUser), .sc (.string (⟨#[]⟩)), .sc (.bool false), .nl, .sc (.int .i64 0), .sc (.bool false), .nl, .nl, .nl]) s14 (.there (.here)) (cells_agg (lf_c rfl (lf_c rfl (lf_c rfl (lf_c rfl (lf_c rfl (lf_c rfl (lf_c rfl (lf_c rfl (lf_c rfl (lf_c rfl (lf_c rfl (lf_c rfl (lf_c rfl (lf_c rfl (lf_c rfl (lf_c rfl (lf_c rfl (lf_c rfl (lf_c rfl (lf_c rfl (lf_c rfl (lf_c rfl (lf_c rfl (lf_c rfl (lf_c rfl rfl)))))))))))))))))))))))))) rfl (Nat.le_of_ble_eq_true rfl) rfl fun H s35 => ?_
    refine g_ldW s35 (.here) rfl ?_
    have e : vNamed false p = (⟨p.fType, false, 0, false, 0, ⟨#[]⟩, ⟨#[]⟩, p.fClient, p.fLevel, p.fClean, p.fKeep, p.fHasWill, ⟨#[]⟩, ⟨#[]⟩, 0, false, p.fHasUser, ⟨#[]⟩, false, ⟨#[]⟩, 0, false, [], [], []⟩ : PacketV) := by
     clear hk s0 s2 s4 s6 s7 s9 s10 s11 s12 s13 s14 s35
     simp only [decide_eq_true_eq, decide_eq_false_iff_not] at h8 h15 h28
     simp [vNamed, nmWill, nmUser, pktT, h8, h15, h28]
    rw [e] at hk
    exact hk _ _ (fun L' => (.cons .sc (.cons .sc (.cons .sc (.cons .sc (.cons .sc (.cons .sc (.cons .nl (.cons .sc (.cons .sc (.cons .sc (.cons .sc (.cons .sc (.cons .sc (.cons .nl (.cons .sc (.cons .sc (.cons .sc (.cons .sc (.cons .sc (.cons .nl (.cons .sc (.cons .sc (.cons .nl (.cons .nl (.cons .nl .nil)))))))))))))))))))))))))) s35.tail.tail.tail
 ·refine g_cF h8 ?_
  refine g_eql ?_
  refine w_split ((decide (p.fType = 2))) (fun h36 => ?_) (fun h36 => ?_)
  ·refine g_cT h36 ?_
   refine g_fadr (o' := 20) rfl ?_
   refine g_ld (c := .sc (.int .i64 p.fCode)) s7 (.there (.there (.here))) rfl ?_
   refine g_fadr (o' := 21) rfl ?_
   refine g_fadr (o' := 20) rfl ?_
   refine g_apart s7 (.there (.there (.here))) (fun y hy => (List.mem_cons.1 hy).elim (fun e => ⟨_, _, _, _, e, _, (.here)⟩) ((fun y hy => absurd hy (by simp)) y)) ?_
   refine g_ld (c := .sc (.bool p.fPresent)) s7 (.there (.there (.here))) rfl ?_
   refine g_same ?_
   refine g_st (cs' := [.sc (.int .i64 p.fType), .sc (.bool false), .sc (.int .i64 0), .sc (.bool false), .sc (.int .i64 0), .sc (.string (⟨#[]⟩)), .nl, .sc (.string (⟨#[]⟩)), .sc (.int .i64 0), .sc (.bool false), .sc (.int .i64 0), .sc (.bool false), .sc (.string (⟨#[]⟩)), .nl, .sc (.int .i64 0), .sc (.bool false), .sc (.bool false), .sc (.string (⟨#[]⟩)), .sc (.bool false), .nl, .sc (.int .i64 p.fCode), .sc (.bool false), .nl, .nl, .nl]) s7 (.here) (cells_leaf rfl) rfl (Nat.le_of_ble_eq_true rfl) rfl fun H s37 => ?_
   refine g_fadr (o' := 21) rfl ?_
   refine g_st (cs' := [.sc (.int .i64 p.fType), .sc (.bool false), .sc (.int .i64 0), .sc (.bool false), .sc (.int .i64 0), .sc (.string (⟨#[]⟩)), .nl, .sc (.string (⟨#[]⟩)), .sc (.int .i64 0), .sc (.bool false), .sc (.int .i64 0), .sc (.bool false), .sc (.string (⟨#[]⟩)), .nl, .sc (.int .i64 0), .sc (.bool false), .sc (.bool false), .sc (.string (⟨#[]⟩)), .sc (.bool false), .nl, .sc (.int .i64 p.fCode), .sc (.bool p.fPresent), .nl, .nl, .nl]) s37 (.here) (cells_leaf rfl) rfl (Nat.le_of_ble_eq_true rfl) rfl fun H s38 => ?_
   refine g_ldW s38 (.here) rfl ?_
   refine g_st (cs' := [.sc (.int .i64 p.fType), .sc (.bool false), .sc (.int .i64 0), .sc (.bool false), .sc (.int .i64 0), .sc (.string (⟨#[]⟩)), .nl, .sc (.string (⟨#[]⟩)), .sc (.int .i64 0), .sc (.bool false), .sc (.int .i64 0), .sc (.bool false), .sc (.string (⟨#[]⟩)), .nl, .sc (.int .i64 0), .sc (.bool false), .sc (.bool false), .sc (.string (⟨#[]⟩)), .sc (.bool false), .nl, .sc (.int .i64 p.fCode), .sc (.bool p.fPresent), .nl, .nl, .nl]) s38 (.there (.here)) (cells_agg (lf_c rfl (lf_c rfl (lf_c rfl (lf_c rfl (lf_c rfl (lf_c rfl (lf_c rfl (lf_c rfl (lf_c rfl (lf_c rfl (lf_c rfl (lf_c rfl (lf_c rfl (lf_c rfl (lf_c rfl (lf_c rfl (lf_c rfl (lf_c rfl (lf_c rfl (lf_c rfl (lf_c rfl (lf_c rfl (lf_c rfl (lf_c rfl (lf_c rfl rfl)))))))))))))))))))))))))) rfl (Nat.le_of_ble_eq_true rfl) rfl fun H s39 => ?_
   refine g_ldW s39 (.here) rfl ?_
   have e : vNamed false p = (⟨p.fType, false, 0, false, 0, ⟨#[]⟩, ⟨#[]⟩, ⟨#[]⟩, 0, false, 0, false, ⟨#[]⟩, ⟨#[]⟩, 0, false, false, ⟨#[]⟩, false, ⟨#[]⟩, p.fCode, p.fPresent, [], [], []⟩ : PacketV) := by
    clear hk s0 s2 s4 s6 s7 s37 s38 s39
    simp only [decide_eq_true_eq, decide_eq_false_iff_not] at h8 h36
    simp [vNamed, nmWill, nmUser, pktT, h8, h36]
   rw [e] at hk
   exact hk _ _ (fun L' => (.cons .sc (.cons .sc (.cons .sc (.cons .sc (.cons .sc (.cons .sc (.cons .nl (.cons .sc (.cons .sc (.cons .sc (.cons .sc (.cons .sc (.cons .sc (.cons .nl (.cons .sc (.cons .sc (.cons .sc (.cons .sc (.cons .sc (.cons .nl (.cons .sc (.cons .sc (.cons .nl (.cons .nl (.cons .nl .nil)))))))))))))))))))))))))) s39.tail.tail.tail
  ·refine g_cF h36 ?_
   refine g_eql ?_
   refine w_split ((decide (p.fType = 3))) (fun h40 => ?_) (fun h40 => ?_)
   ·refine g_cT h40 ?_
    refine g_fadr (o' := 2) rfl ?_
    refine g_ld (c := .sc (.int .i64 p.fQos)) s7 (.there (.there (.here))) rfl ?_
    refine g_fadr (o' := 3) rfl ?_
    refine g_fadr (o' := 5) rfl ?_
    refine g_fadr (o' := 6) rfl ?_
    refine g_fadr (o' := 2) rfl ?_
    refine g_apart s7 (.there (.there (.here))) (fun y hy => (List.mem_cons.1 hy).elim (fun e => ⟨_, _, _, _, e, _, (.here)⟩) ((fun y hy => absurd hy (by simp)) y)) ?_
    refine g_ld (c := .sc (.bool p.fRetain)) s7 (.there (.there (.here))) rfl ?_
    refine g_apart s7 (.there (.there (.here))) (fun y hy => (List.mem_cons.1 hy).elim (fun e => ⟨_, _, _, _, e, _, (.here)⟩) ((fun y hy => absurd hy (by simp)) y)) ?_
    refine g_ld (c := .sc (.string p.fTopic)) s7 (.there (.there (.here))) rfl ?_
    refine g_apart s7 (.there (.there (.here))) (fun y hy => (List.mem_cons.1 hy).elim (fun e => ⟨_, _, _, _, e, _, (.here)⟩) ((fun y hy => absurd hy (by simp)) y)) ?_
    refine g_ld (c := bytesC p.fBody) s7 (.there (.there (.here))) rfl ?_
    refine g_same ?_
    refine g_st (cs' := [.sc (.int .i64 p.fType), .sc (.bool false), .sc (.int .i64 p.fQos), .sc (.bool false), .sc (.int .i64 0), .sc (.string (⟨#[]⟩)), .nl, .sc (.string (⟨#[]⟩)), .sc (.int .i64 0), .sc (.bool false), .sc (.int .i64 0), .sc (.bool false), .sc (.string (⟨#[]⟩)), .nl, .sc (.int .i64 0), .sc (.bool false), .sc (.bool false), .sc (.string (⟨#[]⟩)), .sc (.bool false), .nl, .sc (.int .i64 0), .sc (.bool false), .nl, .nl, .nl]) s7 (.here) (cells_leaf rfl) rfl (Nat.le_of_ble_eq_true rfl) rfl fun H s41 => ?_
    refine g_fadr (o' := 3) rfl ?_
    refine g_same ?_
    refine g_st (cs' := [.sc (.int .i64 p.fType), .sc (.bool false), .sc (.int .i64 p.fQos), .sc (.bool p.fRetain), .sc (.int .i64 0), .sc (.string (⟨#[]⟩)), .nl, .sc (.string (⟨#[]⟩)), .sc (.int .i64 0), .sc (.bool false), .sc (.int .i64 0), .sc (.bool false), .sc (.string (⟨#[]⟩)), .nl, .sc (.int .i64 0), .sc (.bool false), .sc (.bool false), .sc (.string (⟨#[]⟩)), .sc (.bool false), .nl, .sc (.int .i64 0), .sc (.bool false), .nl, .nl, .nl]) s41 (.here) (cells_leaf rfl) rfl (Nat.le_of_ble_eq_true rfl) rfl fun H s42 => ?_
    refine g_fadr (o' := 5) rfl ?_
    refine g_same ?_
    refine g_st (cs' := [.sc (.int .i64 p.fType), .sc (.bool false), .sc (.int .i64 p.fQos), .sc (.bool p.fRetain), .sc (.int .i64 0), .sc (.string p.fTopic), .nl, .sc (.string (⟨#[]⟩)), .sc (.int .i64 0), .sc (.bool false), .sc (.int .i64 0), .sc (.bool false), .sc (.string (⟨#[]⟩)), .nl, .sc (.int .i64 0), .sc (.bool false), .sc (.bool false), .sc (.string (⟨#[]⟩)), .sc (.bool false), .nl, .sc (.int .i64 0), .sc (.bool false), .nl, .nl, .nl]) s42 (.here) (cells_leaf rfl) rfl (Nat.le_of_ble_eq_true rfl) rfl fun H s43 => ?_
    refine g_fadr (o' := 6) rfl ?_
    refine g_st (cs' := [.sc (.int .i64 p.fType), .sc (.bool false), .sc (.int .i64 p.fQos), .sc (.bool p.fRetain), .sc (.int .i64 0), .sc (.string p.fTopic), bytesC p.fBody, .sc (.string (⟨#[]⟩)), .sc (.int .i64 0), .sc (.bool false), .sc (.int .i64 0), .sc (.bool false), .sc (.string (⟨#[]⟩)), .nl, .sc (.int .i64 0), .sc (.bool false), .sc (.bool false), .sc (.string (⟨#[]⟩)), .sc (.bool false), .nl, .sc (.int .i64 0), .sc (.bool false), .nl, .nl, .nl]) s43 (.here) (cells_leaf rfl) rfl (Nat.le_of_ble_eq_true rfl) rfl fun H s44 => ?_
    refine g_fadr (o' := 2) rfl ?_
    refine g_ld (c := .sc (.int .i64 p.fQos)) s44 (.there (.there (.here))) rfl ?_
    refine g_gtr ?_
    refine w_split ((decide (0 < p.fQos))) (fun h45 => ?_) (fun h45 => ?_)
    ·refine g_cT h45 ?_
     refine g_fadr (o' := 1) rfl ?_
     refine g_ld (c := .sc (.bool p.fDup)) s44 (.there (.there (.here))) rfl ?_
     refine g_fadr (o' := 4) rfl ?_
     refine g_fadr (o' := 1) rfl ?_
     refine g_apart s44 (.there (.there (.here))) (fun y hy => (List.mem_cons.1 hy).elim (fun e => ⟨_, _, _, _, e, _, (.here)⟩) ((fun y hy => absurd hy (by simp)) y)) ?_
     refine g_ld (c := .sc (.int .i64 p.fId)) s44 (.there (.there (.here))) rfl ?_
     refine g_same ?_
     refine g_st (cs' := [.sc (.int .i64 p.fType), .sc (.bool p.fDup), .sc (.int .i64 p.fQos), .sc (.bool p.fRetain), .sc (.int .i64 0), .sc (.string p.fTopic), bytesC p.fBody, .sc (.string (⟨#[]⟩)), .sc (.int .i64 0), .sc (.bool false), .sc (.int .i64 0), .sc (.bool false), .sc (.string (⟨#[]⟩)), .nl, .sc (.int .i64 0), .sc (.bool false), .sc (.bool false), .sc (.string (⟨#[]⟩)), .sc (.bool false), .nl, .sc (.int .i64 0), .sc (.bool false), .nl, .nl, .nl]) s44 (.here) (cells_leaf rfl) rfl (Nat.le_of_ble_eq_true rfl) rfl fun H s46 => ?_
     refine g_fadr (o' := 4) rfl ?_
     refine g_st (cs' := [.sc (.int .i64 p.fType), .sc (.bool p.fDup), .sc (.int .i64 p.fQos), .sc (.bool p.fRetain), .sc (.int .i64 p.fId), .sc (.string p.fTopic), bytesC p.fBody, .sc (.string (⟨#[]⟩)), .sc (.int .i64 0), .sc (.bool false), .sc (.int .i64 0), .sc (.bool false), .sc (.string (⟨#[]⟩)), .nl, .sc (.int .i64 0), .sc (.bool false), .sc (.bool false), .sc (.string (⟨#[]⟩)), .sc (.bool false), .nl, .sc (.int .i64 0), .sc (.bool false), .nl, .nl, .nl]) s46 (.here) (cells_leaf rfl) rfl (Nat.le_of_ble_eq_true rfl) rfl fun H s47 => ?_
     refine g_ldW s47 (.here) rfl ?_
     refine g_st (cs' := [.sc (.int .i64 p.fType), .sc (.bool p.fDup), .sc (.int .i64 p.fQos), .sc (.bool p.fRetain), .sc (.int .i64 p.fId), .sc (.string p.fTopic), bytesC p.fBody, .sc (.string (⟨#[]⟩)), .sc (.int .i64 0), .sc (.bool false), .sc (.int .i64 0), .sc (.bool false), .sc (.string (⟨#[]⟩)), .nl, .sc (.int .i64 0), .sc (.bool false), .sc (.bool false), .sc (.string (⟨#[]⟩)), .sc (.bool false), .nl, .sc (.int .i64 0), .sc (.bool false), .nl, .nl, .nl]) s47 (.there (.here)) (cells_agg (lf_c rfl (lf_c rfl (lf_c rfl (lf_c rfl (lf_c rfl (lf_c rfl (lf_c rfl (lf_c rfl (lf_c rfl (lf_c rfl (lf_c rfl (lf_c rfl (lf_c rfl (lf_c rfl (lf_c rfl (lf_c rfl (lf_c rfl (lf_c rfl (lf_c rfl (lf_c rfl (lf_c rfl (lf_c rfl (lf_c rfl (lf_c rfl (lf_c rfl rfl)))))))))))))))))))))))))) rfl (Nat.le_of_ble_eq_true rfl) rfl fun H s48 => ?_
     refine g_ldW s48 (.here) rfl ?_
     have e : vNamed false p = (⟨p.fType, p.fDup, p.fQos, p.fRetain, p.fId, p.fTopic, p.fBody, ⟨#[]⟩, 0, false, 0, false, ⟨#[]⟩, ⟨#[]⟩, 0, false, false, ⟨#[]⟩, false, ⟨#[]⟩, 0, false, [], [], []⟩ : PacketV) := by
      clear hk s0 s2 s4 s6 s7 s41 s42 s43 s44 s46 s47 s48
      simp only [decide_eq_true_eq, decide_eq_false_iff_not] at h8 h36 h40 h45
      simp [vNamed, nmWill, nmUser, pktT, h8, h36, h40, h45]
     rw [e] at hk
     exact hk _ _ (fun L' => (.cons .sc (.cons .sc (.cons .sc (.cons .sc (.cons .sc (.cons .sc (.cons .ro (.cons .sc (.cons .sc (.cons .sc (.cons .sc (.cons .sc (.cons .sc (.cons .nl (.cons .sc (.cons .sc (.cons .sc (.cons .sc (.cons .sc (.cons .nl (.cons .sc (.cons .sc (.cons .nl (.cons .nl (.cons .nl .nil)))))))))))))))))))))))))) s48.tail.tail.tail
    ·refine g_cF h45 ?_
     refine g_ldW s44 (.here) rfl ?_
     refine g_st (cs' := [.sc (.int .i64 p.fType), .sc (.bool false), .sc (.int .i64 p.fQos), .sc (.bool p.fRetain), .sc (.int .i64 0), .sc (.string p.fTopic), bytesC p.fBody, .sc (.string (⟨#[]⟩)), .sc (.int .i64 0), .sc (.bool false), .sc (.int .i64 0), .sc (.bool false), .sc (.string (⟨#[]⟩)), .nl, .sc (.int .i64 0), .sc (.bool false), .sc (.bool false), .sc (.string (⟨#[]⟩)), .sc (.bool false), .nl, .sc (.int .i64 0), .sc (.bool false), .nl, .nl, .nl]) s44 (.there (.here)) (cells_agg (lf_c rfl (lf_c rfl (lf_c rfl (lf_c rfl (lf_c rfl (lf_c rfl (lf_c rfl (lf_c rfl (lf_c rfl (lf_c rfl (lf_c rfl (lf_c rfl (lf_c rfl (lf_c rfl (lf_c rfl (lf_c rfl (lf_c rfl (lf_c rfl (lf_c rfl (lf_c rfl (lf_c rfl (lf_c rfl (lf_c rfl (lf_c rfl (lf_c rfl rfl)))))))))))))))))))))))))) rfl (Nat.le_of_ble_eq_true rfl) rfl fun H s49 => ?_
     refine g_ldW s49 (.here) rfl ?_
     have e : vNamed false p = (⟨p.fType, false, p.fQos, p.fRetain, 0, p.fTopic, p.fBody, ⟨#[]⟩, 0, false, 0, false, ⟨#[]⟩, ⟨#[]⟩, 0, false, false, ⟨#[]⟩, false, ⟨#[]⟩, 0, false, [], [], []⟩ : PacketV) := by
      clear hk s0 s2 s4 s6 s7 s41 s42 s43 s44 s49
      simp only [decide_eq_true_eq, decide_eq_false_iff_not] at h8 h36 h40 h45
      simp [vNamed, nmWill, nmUser, pktT, h8, h36, h40, h45]
     rw [e] at hk
     exact hk _ _ (fun L' => (.cons .sc (.cons .sc (.cons .sc (.cons .sc (.cons .sc (.cons .sc (.cons .ro (.cons .sc (.cons .sc (.cons .sc (.cons .sc (.cons .sc (.cons .sc (.cons .nl (.cons .sc (.cons .sc (.cons .sc (.cons .sc (.cons .sc (.cons .nl (.cons .sc (.cons .sc (.cons .nl (.cons .nl (.cons .nl .nil)))))))))))))))))))))))))) s49.tail.tail.tail
   ·refine g_cF h40 ?_
    refine g_eql ?_
    refine g_letJ ?_
    refine w_split ((decide (p.fType = 4))) (fun h50 => ?_) (fun h50 => ?_)
    ·refine g_cT h50 ?_
     refine g_cT h50 ?_
     refine g_fadr (o' := 4) rfl ?_
     refine g_ld (c := .sc (.int .i64 p.fId)) s7 (.there (.there (.here))) rfl ?_
     refine g_fadr (o' := 4) rfl ?_
     refine g_st (cs' := [.sc (.int .i64 p.fType), .sc (.bool false), .sc (.int .i64 0), .sc (.bool false), .sc (.int .i64 p.fId), .sc (.string (⟨#[]⟩)), .nl, .sc (.string (⟨#[]⟩)), .sc (.int .i64 0), .sc (.bool false), .sc (.int .i64 0), .sc (.bool false), .sc (.string (⟨#[]⟩)), .nl, .sc (.int .i64 0), .sc (.bool false), .sc (.bool false), .sc (.string (⟨#[]⟩)), .sc (.bool false), .nl, .sc (.int .i64 0), .sc (.bool false), .nl, .nl, .nl]) s7 (.here) (cells_leaf rfl) rfl (Nat.le_of_ble_eq_true rfl) rfl fun H s51 => ?_
     refine g_ldW s51 (.here) rfl ?_
     refine g_st (cs' := [.sc (.int .i64 p.fType), .sc (.bool false), .sc (.int .i64 0), .sc (.bool false), .sc (.int .i64 p.fId), .sc (.string (⟨#[]⟩)), .nl, .sc (.string (⟨#[]⟩)), .sc (.int .i64 0), .sc (.bool false), .sc (.int .i64 0), .sc (.bool false), .sc (.string (⟨#[]⟩)), .nl, .sc (.int .i64 0), .sc (.bool false), .sc (.bool false), .sc (.string (⟨#[]⟩)), .sc (.bool false), .nl, .sc (.int .i64 0), .sc (.bool false), .nl, .nl, .nl]) s51 (.there (.here)) (cells_agg (lf_c rfl (lf_c rfl (lf_c rfl (lf_c rfl (lf_c rfl (lf_c rfl (lf_c rfl (lf_c rfl (lf_c rfl (lf_c rfl (lf_c rfl (lf_c rfl (lf_c rfl (lf_c rfl (lf_c rfl (lf_c rfl (lf_c rfl (lf_c rfl (lf_c rfl (lf_c rfl (lf_c rfl (lf_c rfl (lf_c rfl (lf_c rfl (lf_c rfl rfl)))))))))))))))))))))))))) rfl (Nat.le_of_ble_eq_true rfl) rfl fun H s52 => ?_
     refine g_ldW s52 (.here) rfl ?_
     have e : vNamed false p = (⟨p.fType, false, 0, false, p.fId, ⟨#[]⟩, ⟨#[]⟩, ⟨#[]⟩, 0, false, 0, false, ⟨#[]⟩, ⟨#[]⟩, 0, false, false, ⟨#[]⟩, false, ⟨#[]⟩, 0, false, [], [], []⟩ : PacketV) := by
      clear hk s0 s2 s4 s6 s7 s51 s52
      simp only [decide_eq_true_eq, decide_eq_false_iff_not] at h8 h36 h40 h50
      simp [vNamed, nmWill, nmUser, pktT, h8, h36, h40, h50]
     rw [e] at hk
     exact hk _ _ (fun L' => (.cons .sc (.cons .sc (.cons .sc (.cons .sc (.cons .sc (.cons .sc (.cons .nl (.cons .sc (.cons .sc (.cons .sc (.cons .sc (.cons .sc (.cons .sc (.cons .nl (.cons .sc (.cons .sc (.cons .sc (.cons .sc (.cons .sc (.cons .nl (.cons .sc (.cons .sc (.cons .nl (.cons .nl (.cons .nl .nil)))))))))))))))))))))))))) s52.tail.tail.tail
    ·refine g_cF h50 ?_
     refine g_eql ?_
     refine w_split ((decide (p.fType = 5))) (fun h53 => ?_) (fun h53 => ?_)
     ·refine g_cT h53 ?_
      refine g_cT h53 ?_
      refine g_fadr (o' := 4) rfl ?_
      refine g_ld (c := .sc (.int .i64 p.fId)) s7 (.there (.there (.here))) rfl ?_
      refine g_fadr (o' := 4) rfl ?_
      refine g_st (cs' := [.sc (.int .i64 p.fType), .sc (.bool false), .sc (.int .i64 0), .sc (.bool false), .sc (.int .i64 p.fId), .sc (.string (⟨#[]⟩)), .nl, .sc (.string (⟨#[]⟩)), .sc (.int .i64 0), .sc (.bool false), .sc (.int .i64 0), .sc (.bool false), .sc (.string (⟨#[]⟩)), .nl, .sc (.int .i64 0), .sc (.bool false), .sc (.bool false), .sc (.string (⟨#[]⟩)), .sc (.bool false), .nl, .sc (.int .i64 0), .sc (.bool false), .nl, .nl, .nl]) s7 (.here) (cells_leaf rfl) rfl (Nat.le_of_ble_eq_true rfl) rfl fun H s54 => ?_
      refine g_ldW s54 (.here) rfl ?_
      refine g_st (cs' := [.sc (.int .i64 p.fType), .sc (.bool false), .sc (.int .i64 0), .sc (.bool false), .sc (.int .i64 p.fId), .sc (.string (⟨#[]⟩)), .nl, .sc (.string (⟨#[]⟩)), .sc (.int .i64 0), .sc (.bool false), .sc (.int .i64 0), .sc (.bool false), .sc (.string (⟨#[]⟩)), .nl, .sc (.int .i64 0), .sc (.bool false), .sc (.bool false), .sc (.string (⟨#[]⟩)), .sc (.bool false), .nl, .sc (.int .i64 0), .sc (.bool false), .nl, .nl, .nl]) s54 (.there (.here)) (cells_agg (lf_c rfl (lf_c rfl (lf_c rfl (lf_c rfl (lf_c rfl (lf_c rfl (lf_c rfl (lf_c rfl (lf_c rfl (lf_c rfl (lf_c rfl (lf_c rfl (lf_c rfl (lf_c rfl (lf_c rfl (lf_c rfl (lf_c rfl (lf_c rfl (lf_c rfl (lf_c rfl (lf_c rfl (lf_c rfl (lf_c rfl (lf_c rfl (lf_c rfl rfl)))))))))))))))))))))))))) rfl (Nat.le_of_ble_eq_true rfl) rfl fun H s55 => ?_
      refine g_ldW s55 (.here) rfl ?_
      have e : vNamed false p = (⟨p.fType, false, 0, false, p.fId, ⟨#[]⟩, ⟨#[]⟩, ⟨#[]⟩, 0, false, 0, false, ⟨#[]⟩, ⟨#[]⟩, 0, false, false, ⟨#[]⟩, false, ⟨#[]⟩, 0, false, [], [], []⟩ : PacketV) := by
       clear hk s0 s2 s4 s6 s7 s54 s55
       simp only [decide_eq_true_eq, decide_eq_false_iff_not] at h8 h36 h40 h50 h53
       simp [vNamed, nmWill, nmUser, pktT, h8, h36, h40, h50, h53]
      rw [e] at hk
      exact hk _ _ (fun L' => (.cons .sc (.cons .sc (.cons .sc (.cons .sc (.cons .sc (.cons .sc (.cons .nl (.cons .sc (.cons .sc (.cons .sc (.cons .sc (.cons .sc (.cons .sc (.cons .nl (.cons .sc (.cons .sc (.cons .sc (.cons .sc (.cons .sc (.cons .nl (.cons .sc (.cons .sc (.cons .nl (.cons .nl (.cons .nl .nil)))))))))))))))))))))))))) s55.tail.tail.tail
     ·refine g_cF h53 ?_
      refine g_eql ?_
      refine w_split ((decide (p.fType = 6))) (fun h56 => ?_) (fun h56 => ?_)
      ·refine g_cT h56 ?_
       refine g_cT h56 ?_
       refine g_fadr (o' := 4) rfl ?_
       refine g_ld (c := .sc (.int .i64 p.fId)) s7 (.there (.there (.here))) rfl ?_
       refine g_fadr (o' := 4) rfl ?_
       refine g_st (cs' := [.sc (.int .i64 p.fType), .sc (.bool false), .sc (.int .i64 0), .sc (.bool false), .sc (.int .i64 p.fId), .sc (.string (⟨#[]⟩)), .nl, .sc (.string (⟨#[]⟩)), .sc (.int .i64 0), .sc (.bool false), .sc (.int .i64 0), .sc (.bool false), .sc (.string (⟨#[]⟩)), .nl, .sc (.int .i64 0), .sc (.bool false), .sc (.bool false), .sc (.string (⟨#[]⟩)), .sc (.bool false), .nl, .sc (.int .i64 0), .sc (.bool false), .nl, .nl, .nl]) s7 (.here) (cells_leaf rfl) rfl (Nat.le_of_ble_eq_true rfl) rfl fun H s57 => ?_
       refine g_ldW s57 (.here) rfl ?_
       refine g_st (cs' := [.sc (.int .i64 p.fType), .sc (.bool false), .sc (.int .i64 0), .sc (.bool false), .sc (.int .i64 p.fId), .sc (.string (⟨#[]⟩)), .nl, .sc (.string (⟨#[]⟩)), .sc (.int .i64 0), .sc (.bool false), .sc (.int .i64 0), .sc (.bool false), .sc (.string (⟨#[]⟩)), .nl, .sc (.int .i64 0), .sc (.bool false), .sc (.bool false), .sc (.string (⟨#[]⟩)), .sc (.bool false), .nl, .sc (.int .i64 0), .sc (.bool false), .nl, .nl, .nl]) s57 (.there (.here)) (cells_agg (lf_c rfl (lf_c rfl (lf_c rfl (lf_c rfl (lf_c rfl (lf_c rfl (lf_c rfl (lf_c rfl (lf_c rfl (lf_c rfl (lf_c rfl (lf_c rfl (lf_c rfl (lf_c rfl (lf_c rfl (lf_c rfl (lf_c rfl (lf_c rfl (lf_c rfl (lf_c rfl (lf_c rfl (lf_c rfl (lf_c rfl (lf_c rfl (lf_c rfl rfl)))))))))))))))))))))))))) rfl (Nat.le_of_ble_eq_true rfl) rfl fun H s58 => ?_
       refine g_ldW s58 (.here) rfl ?_
       have e : vNamed false p = (⟨p.fType, false, 0, false, p.fId, ⟨#[]⟩, ⟨#[]⟩, ⟨#[]⟩, 0, false, 0, false, ⟨#[]⟩, ⟨#[]⟩, 0, false, false, ⟨#[]⟩, false, ⟨#[]⟩, 0, false, [], [], []⟩ : PacketV) := by
        clear hk s0 s2 s4 s6 s7 s57 s58
        simp only [decide_eq_true_eq, decide_eq_false_iff_not] at h8 h36 h40 h50 h53 h56
        simp [vNamed, nmWill, nmUser, pktT, h8, h36, h40, h50, h53, h56]
       rw [e] at hk
       exact hk _ _ (fun L' => (.cons .sc (.cons .sc (.cons .sc (.cons .sc (.cons .sc (.cons .sc (.cons .nl (.cons .sc (.cons .sc (.cons .sc (.cons .sc (.cons .sc (.cons .sc (.cons .nl (.cons .sc (.cons .sc (.cons .sc (.cons .sc (.cons .sc (.cons .nl (.cons .sc (.cons .sc (.cons .nl (.cons .nl (.cons .nl .nil)))))))))))))))))))))))))) s58.tail.tail.tail
      ·refine g_cF h56 ?_
       refine g_eql ?_
       refine w_split ((decide (p.fType = 7))) (fun h59 => ?_) (fun h59 => ?_)
       ·refine g_cT h59 ?_
        refine g_cT h59 ?_
        refine g_fadr (o' := 4) rfl ?_
        refine g_ld (c := .sc (.int .i64 p.fId)) s7 (.there (.there (.here))) rfl ?_
        refine g_fadr (o' := 4) rfl ?_
        refine g_st (cs' := [.sc (.int .i64 p.fType), .sc (.bool false), .sc (.int .i64 0), .sc (.bool false), .sc (.int .i64 p.fId), .sc (.string (⟨#[]⟩)), .nl, .sc (.string (⟨#[]⟩)), .sc (.int .i64 0), .sc (.bool false), .sc (.int .i64 0), .sc (.bool false), .sc (.string (⟨#[]⟩)), .nl, .sc (.int .i64 0), .sc (.bool false), .sc (.bool false), .sc (.string (⟨#[]⟩)), .sc (.bool false), .nl, .sc (.int .i64 0), .sc (.bool false), .nl, .nl, .nl]) s7 (.here) (cells_leaf rfl) rfl (Nat.le_of_ble_eq_true rfl) rfl fun H s60 => ?_
        refine g_ldW s60 (.here) rfl ?_
        refine g_st (cs' := [.sc (.int .i64 p.fType), .sc (.bool false), .sc (.int .i64 0), .sc (.bool false), .sc (.int .i64 p.fId), .sc (.string (⟨#[]⟩)), .nl, .sc (.string (⟨#[]⟩)), .sc (.int .i64 0), .sc (.bool false), .sc (.int .i64 0), .sc (.bool false), .sc (.string (⟨#[]⟩)), .nl, .sc (.int .i64 0), .sc (.bool false), .sc (.bool false), .sc (.string (⟨#[]⟩)), .sc (.bool false), .nl, .sc (.int .i64 0), .sc (.bool false), .nl, .nl, .nl]) s60 (.there (.here)) (cells_agg (lf_c rfl (lf_c rfl (lf_c rfl (lf_c rfl (lf_c rfl (lf_c rfl (lf_c rfl (lf_c rfl (lf_c rfl (lf_c rfl (lf_c rfl (lf_c rfl (lf_c rfl (lf_c rfl (lf_c rfl (lf_c rfl (lf_c rfl (lf_c rfl (lf_c rfl (lf_c rfl (lf_c rfl (lf_c rfl (lf_c rfl (lf_c rfl (lf_c rfl rfl)))))))))))))))))))))))))) rfl (Nat.le_of_ble_eq_true rfl) rfl fun H s61 => ?_
        refine g_ldW s61 (.here) rfl ?_
        have e : vNamed false p = (⟨p.fType, false, 0, false, p.fId, ⟨#[]⟩, ⟨#[]⟩, ⟨#[]⟩, 0, false, 0, false, ⟨#[]⟩, ⟨#[]⟩, 0, false, false, ⟨#[]⟩, false, ⟨#[]⟩, 0, false, [], [], []⟩ : PacketV) := by
         clear hk s0 s2 s4 s6 s7 s60 s61
         simp only [decide_eq_true_eq, decide_eq_false_iff_not] at h8 h36 h40 h50 h53 h56 h59
         simp [vNamed, nmWill, nmUser, pktT, h8, h36, h40, h50, h53, h56, h59]
        rw [e] at hk
        exact hk _ _ (fun L' => (.cons .sc (.cons .sc (.cons .sc (.cons .sc (.cons .sc (.cons .sc (.cons .nl (.cons .sc (.cons .sc (.cons .sc (.cons .sc (.cons .sc (.cons .sc (.cons .nl (.cons .sc (.cons .sc (.cons .sc (.cons .sc (.cons .sc (.cons .nl (.cons .sc (.cons .sc (.cons .nl (.cons .nl (.cons .nl .nil)))))))))))))))))))))))))) s61.tail.tail.tail
       ·refine g_cF h59 ?_
        refine g_eql ?_
        refine w_split ((decide (p.fType = 11))) (fun h62 => ?_) (fun h62 => ?_)
        ·refine g_cT h62 ?_
         refine g_fadr (o' := 4) rfl ?_
         refine g_ld (c := .sc (.int .i64 p.fId)) s7 (.there (.there (.here))) rfl ?_
         refine g_fadr (o' := 4) rfl ?_
         refine g_st (cs' := [.sc (.int .i64 p.fType), .sc (.bool false), .sc (.int .i64 0), .sc (.bool false), .sc (.int .i64 p.fId), .sc (.string (⟨#[]⟩)), .nl, .sc (.string (⟨#[]⟩)), .sc (.int .i64 0), .sc (.bool false), .sc (.int .i64 0), .sc (.bool false), .sc (.string (⟨#[]⟩)), .nl, .sc (.int .i64 0), .sc (.bool false), .sc (.bool false), .sc (.string (⟨#[]⟩)), .sc (.bool false), .nl, .sc (.int .i64 0), .sc (.bool false), .nl, .nl, .nl]) s7 (.here) (cells_leaf rfl) rfl (Nat.le_of_ble_eq_true rfl) rfl fun H s63 => ?_
         refine g_ldW s63 (.here) rfl ?_
         refine g_st (cs' := [.sc (.int .i64 p.fType), .sc (.bool false), .sc (.int .i64 0), .sc (.bool false), .sc (.int .i64 p.fId), .sc (.string (⟨#[]⟩)), .nl, .sc (.string (⟨#[]⟩)), .sc (.int .i64 0), .sc (.bool false), .sc (.int .i64 0), .sc (.bool false), .sc (.string (⟨#[]⟩)), .nl, .sc (.int .i64 0), .sc (.bool false), .sc (.bool false), .sc (.string (⟨#[]⟩)), .sc (.bool false), .nl, .sc (.int .i64 0), .sc (.bool false), .nl, .nl, .nl]) s63 (.there (.here)) (cells_agg (lf_c rfl (lf_c rfl (lf_c rfl (lf_c rfl (lf_c rfl (lf_c rfl (lf_c rfl (lf_c rfl (lf_c rfl (lf_c rfl (lf_c rfl (lf_c rfl (lf_c rfl (lf_c rfl (lf_c rfl (lf_c rfl (lf_c rfl (lf_c rfl (lf_c rfl (lf_c rfl (lf_c rfl (lf_c rfl (lf_c rfl (lf_c rfl (lf_c rfl rfl)))))))))))))))))))))))))) rfl (Nat.le_of_ble_eq_true rfl) rfl fun H s64 => ?_
         refine g_ldW s64 (.here) rfl ?_
         have e : vNamed false p = (⟨p.fType, false, 0, false, p.fId, ⟨#[]⟩, ⟨#[]⟩, ⟨#[]⟩, 0, false, 0, false, ⟨#[]⟩, ⟨#[]⟩, 0, false, false, ⟨#[]⟩, false, ⟨#[]⟩, 0, false, [], [], []⟩ : PacketV) := by
          clear hk s0 s2 s4 s6 s7 s63 s64
          simp only [decide_eq_true_eq, decide_eq_false_iff_not] at h8 h36 h40 h50 h53 h56 h59 h62
          simp [vNamed, nmWill, nmUser, pktT, h8, h36, h40, h50, h53, h56, h59, h62]
         rw [e] at hk
         exact hk _ _ (fun L' => (.cons .sc (.cons .sc (.cons .sc (.cons .sc (.cons .sc (.cons .sc (.cons .nl (.cons .sc (.cons .sc (.cons .sc (.cons .sc (.cons .sc (.cons .sc (.cons .nl (.cons .sc (.cons .sc (.cons .sc (.cons .sc (.cons .sc (.cons .nl (.cons .sc (.cons .sc (.cons .nl (.cons .nl (.cons .nl .nil)))))))))))))))))))))))))) s64.tail.tail.tail
        ·refine g_cF h62 ?_
         refine g_eql ?_
         refine w_split ((decide (p.fType = 8))) (fun h65 => ?_) (fun h65 => ?_)
         ·refine g_cT h65 ?_
          refine g_fadr (o' := 4) rfl ?_
          refine g_ld (c := .sc (.int .i64 p.fId)) s7 (.there (.there (.here))) rfl ?_
          refine g_fadr (o' := 22) rfl ?_
          refine g_fadr (o' := 4) rfl ?_
          refine g_apart s7 (.there (.there (.here))) (fun y hy => (List.mem_cons.1 hy).elim (fun e => ⟨_, _, _, _, e, _, (.here)⟩) ((fun y hy => absurd hy (by simp)) y)) ?_
          refine g_ld (c := rowsC encWant p.fWants) s7 (.there (.there (.here))) rfl ?_
          refine g_same ?_
          refine g_st (cs' := [.sc (.int .i64 p.fType), .sc (.bool false), .sc (.int .i64 0), .sc (.bool false), .sc (.int .i64 p.fId), .sc (.string (⟨#[]⟩)), .nl, .sc (.string (⟨#[]⟩)), .sc (.int .i64 0), .sc (.bool false), .sc (.int .i64 0), .sc (.bool false), .sc (.string (⟨#[]⟩)), .nl, .sc (.int .i64 0), .sc (.bool false), .sc (.bool false), .sc (.string (⟨#[]⟩)), .sc (.bool false), .nl, .sc (.int .i64 0), .sc (.bool false), .nl, .nl, .nl]) s7 (.here) (cells_leaf rfl) rfl (Nat.le_of_ble_eq_true rfl) rfl fun H s66 => ?_
          refine g_fadr (o' := 22) rfl ?_
          refine g_st (cs' := [.sc (.int .i64 p.fType), .sc (.bool false), .sc (.int .i64 0), .sc (.bool false), .sc (.int .i64 p.fId), .sc (.string (⟨#[]⟩)), .nl, .sc (.string (⟨#[]⟩)), .sc (.int .i64 0), .sc (.bool false), .sc (.int .i64 0), .sc (.bool false), .sc (.string (⟨#[]⟩)), .nl, .sc (.int .i64 0), .sc (.bool false), .sc (.bool false), .sc (.string (⟨#[]⟩)), .sc (.bool false), .nl, .sc (.int .i64 0), .sc (.bool false), rowsC encWant p.fWants, .nl, .nl]) s66 (.here) (cells_leaf rfl) rfl (Nat.le_of_ble_eq_true rfl) rfl fun H s67 => ?_
          refine g_ldW s67 (.here) rfl ?_
          refine g_st (cs' := [.sc (.int .i64 p.fType), .sc (.bool false), .sc (.int .i64 0), .sc (.bool false), .sc (.int .i64 p.fId), .sc (.string (⟨#[]⟩)), .nl, .sc (.string (⟨#[]⟩)), .sc (.int .i64 0), .sc (.bool false), .sc (.int .i64 0), .sc (.bool false), .sc (.string (⟨#[]⟩)), .nl, .sc (.int .i64 0), .sc (.bool false), .sc (.bool false), .sc (.string (⟨#[]⟩)), .sc (.bool false), .nl, .sc (.int .i64 0), .sc (.bool false), rowsC encWant p.fWants, .nl, .nl]) s67 (.there (.here)) (cells_agg (lf_c rfl (lf_c rfl (lf_c rfl (lf_c rfl (lf_c rfl (lf_c rfl (lf_c rfl (lf_c rfl (lf_c rfl (lf_c rfl (lf_c rfl (lf_c rfl (lf_c rfl (lf_c rfl (lf_c rfl (lf_c rfl (lf_c rfl (lf_c rfl (lf_c rfl (lf_c rfl (lf_c rfl (lf_c rfl (lf_c rfl (lf_c rfl (lf_c rfl rfl)))))))))))))))))))))))))) rfl (Nat.le_of_ble_eq_true rfl) rfl fun H s68 => ?_
          refine g_ldW s68 (.here) rfl ?_
          have e : vNamed false p = (⟨p.fType, false, 0, false, p.fId, ⟨#[]⟩, ⟨#[]⟩, ⟨#[]⟩, 0, false, 0, false, ⟨#[]⟩, ⟨#[]⟩, 0, false, false, ⟨#[]⟩, false, ⟨#[]⟩, 0, false, p.fWants, [], []⟩ : PacketV) := by
           clear hk s0 s2 s4 s6 s7 s66 s67 s68
           simp only [decide_eq_true_eq, decide_eq_false_iff_not] at h8 h36 h40 h50 h53 h56 h59 h62 h65
           simp [vNamed, nmWill, nmUser, pktT, h8, h36, h40, h50, h53, h56, h59, h62, h65]
          rw [e] at hk
          exact hk _ _ (fun L' => (.cons .sc (.cons .sc (.cons .sc (.cons .sc (.cons .sc (.cons .sc (.cons .nl (.cons .sc (.cons .sc (.cons .sc (.cons .sc (.cons .sc (.cons .sc (.cons .nl (.cons .sc (.cons .sc (.cons .sc (.cons .sc (.cons .sc (.cons .nl (.cons .sc (.cons .sc (.cons .ro (.cons .nl (.cons .nl .nil)))))))))))))))))))))))))) s68.tail.tail.tail
         ·refine g_cF h65 ?_
          refine g_eql ?_
          refine w_split ((decide (p.fType = 9))) (fun h69 => ?_) (fun h69 => ?_)
          ·refine g_cT h69 ?_
           refine g_fadr (o' := 4) rfl ?_
           refine g_ld (c := .sc (.int .i64 p.fId)) s7 (.there (.there (.here))) rfl ?_
           refine g_fadr (o' := 24) rfl ?_
           refine g_fadr (o' := 4) rfl ?_
           refine g_apart s7 (.there (.there (.here))) (fun y hy => (List.mem_cons.1 hy).elim (fun e => ⟨_, _, _, _, e, _, (.here)⟩) ((fun y hy => absurd hy (by simp)) y)) ?_
           refine g_ld (c := intsC p.fCodes) s7 (.there (.there (.here))) rfl ?_
           refine g_same ?_
           refine g_st (cs' := [.sc (.int .i64 p.fType), .sc (.bool false), .sc (.int .i64 0), .sc (.bool false), .sc (.int .i64 p.fId), .sc (.string (⟨#[]⟩)), .nl, .sc (.string (⟨#[]⟩)), .sc (.int .i64 0), .sc (.bool false), .sc (.int .i64 0), .sc (.bool false), .sc (.string (⟨#[]⟩)), .nl, .sc (.int .i64 0), .sc (.bool false), .sc (.bool false), .sc (.string (⟨#[]⟩)), .sc (.bool false), .nl, .sc (.int .i64 0), .sc (.bool false), .nl, .nl, .nl]) s7 (.here) (cells_leaf rfl) rfl (Nat.le_of_ble_eq_true rfl) rfl fun H s70 => ?_
           refine g_fadr (o' := 24) rfl ?_
           refine g_st (cs' := [.sc (.int .i64 p.fType), .sc (.bool false), .sc (.int .i64 0), .sc (.bool false), .sc (.int .i64 p.fId), .sc (.string (⟨#[]⟩)), .nl, .sc (.string (⟨#[]⟩)), .sc (.int .i64 0), .sc (.bool false), .sc (.int .i64 0), .sc (.bool false), .sc (.string (⟨#[]⟩)), .nl, .sc (.int .i64 0), .sc (.bool false), .sc (.bool false), .sc (.string (⟨#[]⟩)), .sc (.bool false), .nl, .sc (.int .i64 0), .sc (.bool false), .nl, .nl, intsC p.fCodes]) s70 (.here) (cells_leaf rfl) rfl (Nat.le_of_ble_eq_true rfl) rfl fun H s71 => ?_
           refine g_ldW s71 (.here) rfl ?_
           refine g_st (cs' := [.sc (.int .i64 p.fType), .sc (.bool false), .sc (.int .i64 0), .sc (.bool false), .sc (.int .i64 p.fId), .sc (.string (⟨#[]⟩)), .nl, .sc (.string (⟨#[]⟩)), .sc (.int .i64 0), .sc (.bool false), .sc (.int .i64 0), .sc (.bool false), .sc (.string (⟨#[]⟩)), .nl, .sc (.int .i64 0), .sc (.bool false), .sc (.bool false), .sc (.string (⟨#[]⟩)), .sc (.bool false), .nl, .sc (.int .i64 0), .sc (.bool false), .nl, .nl, intsC p.fCodes]) s71 (.there (.here)) (cells_agg (lf_c rfl (lf_c rfl (lf_c rfl (lf_c rfl (lf_c rfl (lf_c rfl (lf_c rfl (lf_c rfl (lf_c rfl (lf_c rfl (lf_c rfl (lf_c rfl (lf_c rfl (lf_c rfl (lf_c rfl (lf_c rfl (lf_c rfl (lf_c rfl (lf_c rfl (lf_c rfl (lf_c rfl (lf_c rfl (lf_c rfl (lf_c rfl (lf_c rfl rfl)))))))))))))))))))))))))) rfl (Nat.le_of_ble_eq_true rfl) rfl fun H s72 => ?_
           refine g_ldW s72 (.here) rfl ?_
           have e : vNamed false p = (⟨p.fType, false, 0, false, p.fId, ⟨#[]⟩, ⟨#[]⟩, ⟨#[]⟩, 0, false, 0, false, ⟨#[]⟩, ⟨#[]⟩, 0, false, false, ⟨#[]⟩, false, ⟨#[]⟩, 0, false, [], [], p.fCodes⟩ : PacketV) := by
            clear hk s0 s2 s4 s6 s7 s70 s71 s72
            simp only [decide_eq_true_eq, decide_eq_false_iff_not] at h8 h36 h40 h50 h53 h56 h59 h62 h65 h69
            simp [vNamed, nmWill, nmUser, pktT, h8, h36, h40, h50, h53, h56, h59, h62, h65, h69]
           rw [e] at hk
           exact hk _ _ (fun L' => (.cons .sc (.cons .sc (.cons .sc (.cons .sc (.cons .sc (.cons .sc (.cons .nl (.cons .sc (.cons .sc (.cons .sc (.cons .sc (.cons .sc (.cons .sc (.cons .nl (.cons .sc (.cons .sc (.cons .sc (.cons .sc (.cons .sc (.cons .nl (.cons .sc (.cons .sc (.cons .nl (.cons .nl (.cons .ro .nil)))))))))))))))))))))))))) s72.tail.tail.tail
          ·refine g_cF h69 ?_
           refine g_eql ?_
           refine w_split ((decide (p.fType = 10))) (fun h73 => ?_) (fun h73 => ?_)
           ·refine g_cT h73 ?_
            refine g_fadr (o' := 4) rfl ?_
            refine g_ld (c := .sc (.int .i64 p.fId)) s7 (.there (.there (.here))) rfl ?_
            refine g_fadr (o' := 23) rfl ?_
            refine g_fadr (o' := 4) rfl ?_
            refine g_apart s7 (.there (.there (.here))) (fun y hy => (List.mem_cons.1 hy).elim (fun e => ⟨_, _, _, _, e, _, (.here)⟩) ((fun y hy => absurd hy (by simp)) y)) ?_
            refine g_ld (c := strsC p.fNames) s7 (.there (.there (.here))) rfl ?_
            refine g_same ?_
            refine g_st (cs' := [.sc (.int .i64 p.fType), .sc (.bool false), .sc (.int .i64 0), .sc (.bool false), .sc (.int .i64 p.fId), .sc (.string (⟨#[]⟩)), .nl, .sc (.string (⟨#[]⟩)), .sc (.int .i64 0), .sc (.bool false), .sc (.int .i64 0), .sc (.bool false), .sc (.string (⟨#[]⟩)), .nl, .sc (.int .i64 0), .sc (.bool false), .sc (.bool false), .sc (.string (⟨#[]⟩)), .sc (.bool false), .nl, .sc (.int .i64 0), .sc (.bool false), .nl, .nl, .nl]) s7 (.here) (cells_leaf rfl) rfl (Nat.le_of_ble_eq_true rfl) rfl fun H s74 => ?_
            refine g_fadr (o' := 23) rfl ?_
            refine g_st (cs' := [.sc (.int .i64 p.fType), .sc (.bool false), .sc (.int .i64 0), .sc (.bool false), .sc (.int .i64 p.fId), .sc (.string (⟨#[]⟩)), .nl, .sc (.string (⟨#[]⟩)), .sc (.int .i64 0), .sc (.bool false), .sc (.int .i64 0), .sc (.bool false), .sc (.string (⟨#[]⟩)), .nl, .sc (.int .i64 0), .sc (.bool false), .sc (.bool false), .sc (.string (⟨#[]⟩)), .sc (.bool false), .nl, .sc (.int .i64 0), .sc (.bool false), .nl, strsC p.fNames, .nl]) s74 (.here) (cells_leaf rfl) rfl (Nat.le_of_ble_eq_true rfl) rfl fun H s75 => ?_
            refine g_ldW s75 (.here) rfl ?_
            refine g_st (cs' := [.sc (.int .i64 p.fType), .sc (.bool false), .sc (.int .i64 0), .sc (.bool false), .sc (.int .i64 p.fId), .sc (.string (⟨#[]⟩)), .nl, .sc (.string (⟨#[]⟩)), .sc (.int .i64 0), .sc (.bool false), .sc (.int .i64 0), .sc (.bool false), .sc (.string (⟨#[]⟩)), .nl, .sc (.int .i64 0), .sc (.bool false), .sc (.bool false), .sc (.string (⟨#[]⟩)), .sc (.bool false), .nl, .sc (.int .i64 0), .sc (.bool false), .nl, strsC p.fNames, .nl]) s75 (.there (.here)) (cells_agg (lf_c rfl (lf_c rfl (lf_c rfl (lf_c rfl (lf_c rfl (lf_c rfl (lf_c rfl (lf_c rfl (lf_c rfl (lf_c rfl (lf_c rfl (lf_c rfl (lf_c rfl (lf_c rfl (lf_c rfl (lf_c rfl (lf_c rfl (lf_c rfl (lf_c rfl (lf_c rfl (lf_c rfl (lf_c rfl (lf_c rfl (lf_c rfl (lf_c rfl rfl)))))))))))))))))))))))))) rfl (Nat.le_of_ble_eq_true rfl) rfl fun H s76 => ?_
            refine g_ldW s76 (.here) rfl ?_
            have e : vNamed false p = (⟨p.fType, false, 0, false, p.fId, ⟨#[]⟩, ⟨#[]⟩, ⟨#[]⟩, 0, false, 0, false, ⟨#[]⟩, ⟨#[]⟩, 0, false, false, ⟨#[]⟩, false, ⟨#[]⟩, 0, false, [], p.fNames, []⟩ : PacketV) := by
             clear hk s0 s2 s4 s6 s7 s74 s75 s76
             simp only [decide_eq_true_eq, decide_eq_false_iff_not] at h8 h36 h40 h50 h53 h56 h59 h62 h65 h69 h73
             simp [vNamed, nmWill, nmUser, pktT, h8, h36, h40, h50, h53, h56, h59, h62, h65, h69, h73]
            rw [e] at hk
            exact hk _ _ (fun L' => (.cons .sc (.cons .sc (.cons .sc (.cons .sc (.cons .sc (.cons .sc (.cons .nl (.cons .sc (.cons .sc (.cons .sc (.cons .sc (.cons .sc (.cons .sc (.cons .nl (.cons .sc (.cons .sc (.cons .sc (.cons .sc (.cons .sc (.cons .nl (.cons .sc (.cons .sc (.cons .nl (.cons .ro (.cons .nl .nil)))))))))))))))))))))))))) s76.tail.tail.tail
           ·refine g_cF h73 ?_
            refine g_ldW s7 (.here) rfl ?_
            refine g_st (cs' := [.sc (.int .i64 p.fType), .sc (.bool false), .sc (.int .i64 0), .sc (.bool false), .sc (.int .i64 0), .sc (.string (⟨#[]⟩)), .nl, .sc (.string (⟨#[]⟩)), .sc (.int .i64 0), .sc (.bool false), .sc (.int .i64 0), .sc (.bool false), .sc (.string (⟨#[]⟩)), .nl, .sc (.int .i64 0), .sc (.bool false), .sc (.bool false), .sc (.string (⟨#[]⟩)), .sc (.bool false), .nl, .sc (.int .i64 0), .sc (.bool false), .nl, .nl, .nl]) s7 (.there (.here)) (cells_agg (lf_c rfl (lf_c rfl (lf_c rfl (lf_c rfl (lf_c rfl (lf_c rfl (lf_c rfl (lf_c rfl (lf_c rfl (lf_c rfl (lf_c rfl (lf_c rfl (lf_c rfl (lf_c rfl (lf_c rfl (lf_c rfl (lf_c rfl (lf_c rfl (lf_c rfl (lf_c rfl (lf_c rfl (lf_c rfl (lf_c rfl (lf_c rfl (lf_c rfl rfl)))))))))))))))))))))))))) rfl (Nat.le_of_ble_eq_true rfl) rfl fun H s77 => ?_
            refine g_ldW s77 (.here) rfl ?_
            have e : vNamed false p = (⟨p.fType, false, 0, false, 0, ⟨#[]⟩, ⟨#[]⟩, ⟨#[]⟩, 0, false, 0, false, ⟨#[]⟩, ⟨#[]⟩, 0, false, false, ⟨#[]⟩, false, ⟨#[]⟩, 0, false, [], [], []⟩ : PacketV) := by
             clear hk s0 s2 s4 s6 s7 s77
             simp only [decide_eq_true_eq, decide_eq_false_iff_not] at h8 h36 h40 h50 h53 h56 h59 h62 h65 h69 h73
             simp [vNamed, nmWill, nmUser, pktT, h8, h36, h40, h50, h53, h56, h59, h62, h65, h69, h73]
            rw [e] at hk
            exact hk _ _ (fun L' => (.cons .sc (.cons .sc (.cons .sc (.cons .sc (.cons .sc (.cons .sc (.cons .nl (.cons .sc (.cons .sc (.cons .sc (.cons .sc (.cons .sc (.cons .sc (.cons .nl (.cons .sc (.cons .sc (.cons .sc (.cons .sc (.cons .sc (.cons .nl (.cons .sc (.cons .sc (.cons .nl (.cons .nl (.cons .nl .nil)))))))))))))))))))))))))) s77.tail.tail.tail
theorem specNamedK (n : Nat) (hn : 1048576 < n) (p : PacketV) {β : Type} {G : Option β → Prop} {KH : AV → Heap → Option β} {H : Heap} {L : List Ck} (s0 : Sep H (L)) (hk : ∀ raw H', (∀ L', VwL L' 7 raw (encPacket (vNamed true p))) → Sep H' L → Gd G (KH (.agg raw) H')) : Gd G (evalFn E0 (n + 1) β 79 [.agg (encPacket p)] H fun x H => KH x H) := by
 rw [f79_eq, f79]
 try simp only [PR_box, PR_new, PR_newSl, PR_fadr, PR_load, PR_store, PR_bin, PR_binB, PR_binA, PR_un, PR_cond, PR_guard, PR_pick, PR_len, PR_lenS, PR_iadr, PR_idx, PR_slice, PR_sliceS, PR_fill, PR_make, PR_app, PR_appS, PR_cvI, PR_cvSS, PR_cvBS, PR_cvSB, PR_extr, PR_nil, PR_clear, PR_fld, PR_apart, PR_same]
 refine g_box s0 (cells_fl (flPacket _)) fun i1 H s2 => ?_
 refine g_new s2 fun i3 H s4 => ?_
 refine g_fadr (o' := 0) rfl ?_
 refine g_ld (c := .sc (.int .i64 p.fType)) s4 (.there (.here)) rfl ?_
 refine g_fill (cs := [.sc (.int .i64 p.fType), .sc (.bool false), .sc (.int .i64 0), .sc (.bool false), .sc (.int .i64 0), .sc (.string (⟨#[]⟩)), .nl, .sc (.string (⟨#[]⟩)), .sc (.int .i64 0), .sc (.bool false), .sc (.int .i64 0), .sc (.bool false), .sc (.string (⟨#[]⟩)), .nl, .sc (.int .i64 0), .sc (.bool false), .sc (.bool false), .sc (.string (⟨#[]⟩)), .sc (.bool false), .nl, .sc (.int .i64 0), .sc (.bool false), .nl, .nl, .nl]) rfl ?_
 refine g_new s4 fun i5 H s6 => ?_
 refine g_st (cs' := [.sc (.int .i64 p.fType), .sc (.bool false), .sc (.int .i64 0), .sc (.bool false), .sc (.int .i64 0), .sc (.string (⟨#[]⟩)), .nl, .sc (.string (⟨#[]⟩)), .sc (.int .i64 0), .sc (.bool false), .sc (.int .i64 0), .sc (.bool false), .sc (.string (⟨#[]⟩)), .nl, .sc (.int .i64 0), .sc (.bool false), .sc (.bool false), .sc (.string (⟨#[]⟩)), .sc (.bool false), .nl, .sc (.int .i64 0), .sc (.bool false), .nl, .nl, .nl]) s6 (.here) (cells_agg (lf_c rfl (lf_c rfl (lf_c rfl (lf_c rfl (lf_c rfl (lf_c rfl (lf_c rfl (lf_c rfl (lf_c rfl (lf_c rfl (lf_c rfl (lf_c rfl (lf_c rfl (lf_c rfl (lf_c rfl (lf_c rfl (lf_c rfl (lf_c rfl (lf_c rfl (lf_c rfl (lf_c rfl (lf_c rfl (lf_c rfl (lf_c rfl (lf_c rfl rfl)))))))))))))))))))))))))) rfl (Nat.le_of_ble_eq_true rfl) rfl fun H s7 => ?_
 refine g_fadr (o' := 0) rfl ?_
 refine g_ld (c := .sc (.int .i64 p.fType)) s7 (.there (.there (.here))) rfl ?_
 refine g_eql ?_
 refine w_split ((decide (p.fType = 1))) (fun h8 => ?_) (fun h8 => ?_)
 ·refine g_cT h8 ?_
  refine g_fadr (o' := 8) rfl ?_
  refine g_ld (c := .sc (.int .i64 p.fLevel)) s7 (.there (.there (.here))) rfl ?_
  refine g_fadr (o' := 8) rfl ?_
  refine g_st (cs' := [.sc (.int .i64 p.fType), .sc (.bool false), .sc (.int .i64 0), .sc (.bool false), .sc (.int .i64 0), .sc (.string (⟨#[]⟩)), .nl, .sc (.string (⟨#[]⟩)), .sc (.int .i64 p.fLevel), .sc (.bool false), .sc (.int .i64 0), .sc (.bool false), .sc (.string (⟨#[]⟩)), .nl, .sc (.int .i64 0), .sc (.bool false), .sc (.bool false), .sc (.string (⟨#[]⟩)), .sc (.bool false), .nl, .sc (.int .i64 0), .sc (.bool false), .nl, .nl, .nl]) s7 (.here) (cells_leaf rfl) rfl (Nat.le_of_ble_eq_true rfl) rfl fun H s9 => ?_
  refine g_fadr (o' := 7) rfl ?_
  refine g_ld (c := .sc (.string p.fClient)) s9 (.there (.there (.here))) rfl ?_
  refine g_fadr (o' := 7) rfl ?_
  refine g_st (cs' := [.sc (.int .i64 p.fType), .sc (.bool false), .sc (.int .i64 0), .sc (.bool false), .sc (.int .i64 0), .sc (.string (⟨#[]⟩)), .nl, .sc (.string p.fClient), .sc (.int .i64 p.fLevel), .sc (.bool false), .sc (.int .i64 0), .sc (.bool false), .sc (.string (⟨#[]⟩)), .nl, .sc (.int .i64 0), .sc (.bool false), .sc (.bool false), .sc (.string (⟨#[]⟩)), .sc (.bool false), .nl, .sc (.int .i64 0), .sc (.bool false), .nl, .nl, .nl]) s9 (.here) (cells_leaf rfl) rfl (Nat.le_of_ble_eq_true rfl) rfl fun H s10 => ?_
  refine g_fadr (o' := 9) rfl ?_
  refine g_ld (c := .sc (.bool p.fClean)) s10 (.there (.there (.here))) rfl ?_
  refine g_fadr (o' := 9) rfl ?_
  refine g_st (cs' := [.sc (.int .i64 p.fType), .sc (.bool false), .sc (.int .i64 0), .sc (.bool false), .sc (.int .i64 0), .sc (.string (⟨#[]⟩)), .nl, .sc (.string p.fClient), .sc (.int .i64 p.fLevel), .sc (.bool p.fClean), .sc (.int .i64 0), .sc (.bool false), .sc (.string (⟨#[]⟩)), .nl, .sc (.int .i64 0), .sc (.bool false), .sc (.bool false), .sc (.string (⟨#[]⟩)), .sc (.bool false), .nl, .sc (.int .i64 0), .sc (.bool false), .nl, .nl, .nl]) s10 (.here) (cells_leaf rfl) rfl (Nat.le_of_ble_eq_true rfl) rfl fun H s11 => ?_
  refine g_fadr (o' := 10) rfl ?_
  refine g_ld (c := .sc (.int .i64 p.fKeep)) s11 (.there (.there (.here))) rfl ?_
  refine g_fadr (o' := 10) rfl ?_
  refine g_st (cs' := [.sc (.int .i64 p.fType), .sc (.bool false), .sc (.int .i64 0), .sc (.bool false), .sc (.int .i64 0), .sc (.string (⟨#[]⟩)), .nl, .sc (.string p.fClient), .sc (.int .i64 p.fLevel), .sc (.bool p.fClean), .sc (.int .i64 p.fKeep), .sc (.bool false), .sc (.string (⟨#[]⟩)), .nl, .sc (.int .i64 0), .sc (.bool false), .sc (.bool false), .sc (.string (⟨#[]⟩)), .sc (.bool false), .nl, .sc (.int .i64 0), .sc (.bool false), .nl, .nl, .nl]) s11 (.here) (cells_leaf rfl) rfl (Nat.le_of_ble_eq_true rfl) rfl fun H s12 => ?_
  refine g_fadr (o' := 11) rfl ?_
  refine g_ld (c := .sc (.bool p.fHasWill)) s12 (.there (.there (.here))) rfl ?_
  refine g_letJ ?_
  refine w_split (p.fHasWill) (fun h13 => ?_) (fun h13 => ?_)
  ·refine g_cT h13 ?_
   refine g_fadr (o' := 11) rfl ?_
   refine g_st (cs' := [.sc (.int .i64 p.fType), .sc (.bool false), .sc (.int .i64 0), .sc (.bool false), .sc (.int .i64 0), .sc (.string (⟨#[]⟩)), .nl, .sc (.string p.fClient), .sc (.int .i64 p.fLevel), .sc (.bool p.fClean), .sc (.int .i64 p.fKeep), .sc (.bool true), .sc (.string (⟨#[]⟩)), .nl, .sc (.int .i64 0), .sc (.bool false), .sc (.bool false), .sc (.string (⟨#[]⟩)), .sc (.bool false), .nl, .sc (.int .i64 0), .sc (.bool false), .nl, .nl, .nl]) s12 (.here) (cells_leaf rfl) rfl (Nat.le_of_ble_eq_true rfl) rfl fun H s14 => ?_
   refine g_fadr (o' := 12) rfl ?_
   refine g_ld (c := .sc (.string p.fWTopic)) s14 (.there (.there (.here))) rfl ?_
   refine g_fadr (o' := 12) rfl ?_
   refine g_st (cs' := [.sc (.int .i64 p.fType), .sc (.bool false), .sc (.int .i64 0), .sc (.bool false), .sc (.int .i64 0), .sc (.string (⟨#[]⟩)), .nl, .sc (.string p.fClient), .sc (.int .i64 p.fLevel), .sc (.bool p.fClean), .sc (.int .i64 p.fKeep), .sc (.bool true), .sc (.string p.fWTopic), .nl, .sc (.int .i64 0), .sc (.bool false), .sc (.bool false), .sc (.string (⟨#[]⟩)), .sc (.bool false), .nl, .sc (.int .i64 0), .sc (.bool false), .nl, .nl, .nl]) s14 (.here) (cells_leaf rfl) rfl (Nat.le_of_ble_eq_true rfl) rfl fun H s15 => ?_
   refine g_fadr (o' := 13) rfl ?_
   refine g_ld (c := bytesC p.fWBody) s15 (.there (.there (.here))) rfl ?_
   refine g_fadr (o' := 13) rfl ?_
   refine g_st (cs' := [.sc (.int .i64 p.fType), .sc (.bool false), .sc (.int .i64 0), .sc (.bool false), .sc (.int .i64 0), .sc (.string (⟨#[]⟩)), .nl, .sc (.string p.fClient), .sc (.int .i64 p.fLevel), .sc (.bool p.fClean), .sc (.int .i64 p.fKeep), .sc (.bool true), .sc (.string p.fWTopic), bytesC p.fWBody, .sc (.int .i64 0), .sc (.bool false), .sc (.bool false), .sc (.string (⟨#[]⟩)), .sc (.bool false), .nl, .sc (.int .i64 0), .sc (.bool false), .nl, .nl, .nl]) s15 (.here) (cells_leaf rfl) rfl (Nat.le_of_ble_eq_true rfl) rfl fun H s16 => ?_
   refine g_fadr (o' := 14) rfl ?_
   refine g_ld (c := .sc (.int .i64 p.fWQos)) s16 (.there (.there (.here))) rfl ?_
   refine g_fadr (o' := 14) rfl ?_
   refine g_st (cs' := [.sc (.int .i64 p.fType), .sc (.bool false), .sc (.int .i64 0), .sc (.bool false), .sc (.int .i64 0), .sc (.string (⟨#[]⟩)), .nl, .sc (.string p.fClient), .sc (.int .i64 p.fLevel), .sc (.bool p.fClean), .sc (.int .i64 p.fKeep), .sc (.bool true), .sc (.string p.fWTopic), bytesC p.fWBody, .sc (.int .i64 p.fWQos), .sc (.bool false), .sc (.bool false), .sc (.string (⟨#[]⟩)), .sc (.bool false), .nl, .sc (.int .i64 0), .sc (.bool false), .nl, .nl, .nl]) s16 (.here) (cells_leaf rfl) rfl (Nat.le_of_ble_eq_true rfl) rfl fun H s17 => ?_
   refine g_fadr (o' := 15) rfl ?_
   refine g_ld (c := .sc (.bool p.fWRetain)) s17 (.there (.there (.here))) rfl ?_
   refine g_fadr (o' := 15) rfl ?_
   refine g_st (cs' := [.sc (.int .i64 p.fType), .sc (.bool false), .sc (.int .i64 0), .sc (.bool false), .sc (.int .i64 0), .sc (.string (⟨#[]⟩)), .nl, .sc (.string p.fClient), .sc (.int .i64 p.fLevel), .sc (.bool p.fClean), .sc (.int .i64 p.fKeep), .sc (.bool true), .sc (.string p.fWTopic), bytesC p.fWBody, .sc (.int .i64 p.fWQos), .sc (.bool p.fWRetain), .sc (.bool false), .sc (.string (⟨#[]⟩)), .sc (.bool false), .nl, .sc (.int .i64 0), .sc (.bool false), .nl, .nl, .nl]) s17 (.here) (cells_leaf rfl) rfl (Nat.le_of_ble_eq_true rfl) rfl fun H s18 => ?_
   refine g_fadr (o' := 16) rfl ?_
   refine g_ld (c := .sc (.bool p.fHasUser)) s18 (.there (.there (.here))) rfl ?_
   refine w_split (p.fHasUser) (fun h19 => ?_) (fun h19 => ?_)
   ·refine g_cT h19 ?_
    refine g_fadr (o' := 16) rfl ?_
    refine g_st (cs' := [.sc (.int .i64 p.fType), .sc (.bool false), .sc (.int .i64 0), .sc (.bool false), .sc (.int .i64 0), .sc (.string (⟨#[]⟩)), .nl, .sc (.string p.fClient), .sc (.int .i64 p.fLevel), .sc (.bool p.fClean), .sc (.int .i64 p.fKeep), .sc (.bool true), .sc (.string p.fWTopic), bytesC p.fWBody, .sc (.int .i64 p.fWQos), .sc (.bool p.fWRetain), .sc (.bool true), .sc (.string (⟨#[]⟩)), .sc (.bool false), .nl, .sc (.int .i64 0), .sc (.bool false), .nl, .nl, .nl]) s18 (.here) (cells_leaf rfl) rfl (Nat.le_of_ble_eq_true rfl) rfl fun H s20 => ?_
    refine g_fadr (o' := 17) rfl ?_
    refine g_ld (c := .sc (.string p.fUser)) s20 (.there (.there (.here))) rfl ?_
    refine g_fadr (o' := 17) rfl ?_
    refine g_st (cs' := [.sc (.int .i64 p.fType), .sc (.bool false), .sc (.int .i64 0), .sc (.bool false), .sc (.int .i64 0), .sc (.string (⟨#[]⟩)), .nl, .sc (.string p.fClient), .sc (.int .i64 p.fLevel), .sc (.bool p.fClean), .sc (.int .i64 p.fKeep), .sc (.bool true), .sc (.string p.fWTopic), bytesC p.fWBody, .sc (.int .i64 p.fWQos), .sc (.bool p.fWRetain), .sc (.bool true), .sc (.string p.fUser), .sc (.bool false), .nl, .sc (.int .i64 0), .sc (.bool false), .nl, .nl, .nl]) s20 (.here) (cells_leaf rfl) rfl (Nat.le_of_ble_eq_true rfl) rfl fun H s21 => ?_
    refine g_fadr (o' := 18) rfl ?_
    refine g_ld (c := .sc (.bool p.fHasPass)) s21 (.there (.there (.here))) rfl ?_
    refine w_split (p.fHasPass) (fun h22 => ?_) (fun h22 => ?_)
    ·refine g_cT h22 ?_
     refine g_fadr (o' := 18) rfl ?_
     refine g_st (cs' := [.sc (.int .i64 p.fType), .sc (.bool false), .sc (.int .i64 0), .sc (.bool false), .sc (.int .i64 0), .sc (.string (⟨#[]⟩)), .nl, .sc (.string p.fClient), .sc (.int .i64 p.fLevel), .sc (.bool p.fClean), .sc (.int .i64 p.fKeep), .sc (.bool true), .sc (.string p.fWTopic), bytesC p.fWBody, .sc (.int .i64 p.fWQos), .sc (.bool p.fWRetain), .sc (.bool true), .sc (.string p.fUser), .sc (.bool true), .nl, .sc (.int .i64 0), .sc (.bool false), .nl, .nl, .nl]) s21 (.here) (cells_leaf rfl) rfl (Nat.le_of_ble_eq_true rfl) rfl fun H s23 => ?_
     refine g_fadr (o' := 19) rfl ?_
     refine g_ld (c := bytesC p.fPass) s23 (.there (.there (.here))) rfl ?_
     refine g_fadr (o' := 19) rfl ?_
     refine g_st (cs' := [.sc (.int .i64 p.fType), .sc (.bool false), .sc (.int .i64 0), .sc (.bool false), .sc (.int .i64 0), .sc (.string (⟨#[]⟩)), .nl, .sc (.string p.fClient), .sc (.int .i64 p.fLevel), .sc (.bool p.fClean), .sc (.int .i64 p.fKeep), .sc (.bool true), .sc (.string p.fWTopic), bytesC p.fWBody, .sc (.int .i64 p.fWQos), .sc (.bool p.fWRetain), .sc (.bool true), .sc (.string p.fUser), .sc (.bool true), bytesC p.fPass, .sc (.int .i64 0), .sc (.bool false), .nl, .nl, .nl]) s23 (.here) (cells_leaf rfl) rfl (Nat.le_of_ble_eq_true rfl) rfl fun H s24 => ?_
     refine g_ldW s24 (.here) rfl ?_
     refine g_st (cs' := [.sc (.int .i64 p.fType), .sc (.bool false), .sc (.int .i64 0), .sc (.bool false), .sc (.int .i64 0), .sc (.string (⟨#[]⟩)), .nl, .sc (.string p.fClient), .sc (.int .i64 p.fLevel), .sc (.bool p.fClean), .sc (.int .i64 p.fKeep), .sc (.bool true), .sc (.string p.fWTopic), bytesC p.fWBody, .sc (.int .i64 p.fWQos), .sc (.bool p.fWRetain), .sc (.bool true), .sc (.string p.fUser), .sc (.bool true), bytesC p.fPass, .sc (.int .i64 0), .sc (.bool false), .nl, .nl, .nl]) s24 (.there (.here)) (cells_agg (lf_c rfl (lf_c rfl (lf_c rfl (lf_c rfl (lf_c rfl (lf_c rfl (lf_c rfl (lf_c rfl (lf_c rfl (lf_c rfl (lf_c rfl (lf_c rfl (lf_c rfl (lf_c rfl (lf_c rfl (lf_c rfl (lf_c rfl (lf_c rfl (lf_c rfl (lf_c rfl (lf_c rfl (lf_c rfl (lf_c rfl (lf_c rfl (lf_c rfl rfl)))))))))))))))))))))))))) rfl (Nat.le_of_ble_eq_true rfl) rfl fun H s25 => ?_
     refine g_ldW s25 (.here) rfl ?_
     have e : vNamed true p = (⟨p.fType, false, 0, false, 0, ⟨#[]⟩, ⟨#[]⟩, p.fClient, p.fLevel, p.fClean, p.fKeep, true, p.fWTopic, p.fWBody, p.fWQos, p.fWRetain, true, p.fUser, true, p.fPass, 0, false, [], [], []⟩ : PacketV) := by
      clear hk s0 s2 s4 s6 s7 s9 s10 s11 s12 s14 s15 s16 s17 s18 s20 s21 s23 s24 s25
      simp only [decide_eq_true_eq, decide_eq_false_iff_not] at h8 h13 h19 h22
      simp [vNamed, nmWill, nmUser, pktT, h8, h13, h19, h22]
     rw [e] at hk
     exact hk _ _ (fun L' => (.cons .sc (.cons .sc (.cons .sc (.cons .sc (.cons .sc (.cons .sc (.cons .nl (.cons .sc (.cons .sc (.cons .sc (.cons .sc (.cons .sc (.cons .sc (.cons .ro (.cons .sc (.cons .sc (.cons .sc (.cons .sc (.cons .sc (.cons .ro (.cons .sc (.cons .sc (.cons .nl (.cons .nl (.cons .nl .nil)))))))))))))))))))))))))) s25.tail.tail.tail
    ·refine g_cF h22 ?_
     refine g_ldW s21 (.here) rfl ?_
     refine g_st (cs' := [.sc (.int .i64 p.fType), .sc (.bool false), .sc (.int .i64 0), .sc (.bool false), .sc (.int .i64 0), .sc (.string (⟨#[]⟩)), .nl, .sc (.string p.fClient), .sc (.int .i64 p.fLevel), .sc (.bool p.fClean), .sc (.int .i64 p.fKeep), .sc (.bool true), .sc (.string p.fWTopic), bytesC p.fWBody, .sc (.int .i64 p.fWQos), .sc (.bool p.fWRetain), .sc (.bool true), .sc (.string p.fUser), .sc (.bool false), .nl, .sc (.int .i64 0), .sc (.bool false), .nl, .nl, .nl]) s21 (.there (.here)) (cells_agg (lf_c rfl (lf_c rfl (lf_c rfl (lf_c rfl (lf_c rfl (lf_c rfl (lf_c rfl (lf_c rfl (lf_c rfl (lf_c rfl (lf_c rfl (lf_c rfl (lf_c rfl (lf_c rfl (lf_c rfl (lf_c rfl (lf_c rfl (lf_c rfl (lf_c rfl (lf_c rfl (lf_c rfl (lf_c rfl (lf_c rfl (lf_c rfl (lf_c rfl rfl)))))))))))))))))))))))))) rfl (Nat.le_of_ble_eq_true rfl) rfl fun H s26 => ?_
     refine g_ldW s26 (.here) rfl ?_
     have e : vNamed true p = (⟨p.fType, false, 0, false, 0, ⟨#[]⟩, ⟨#[]⟩, p.fClient, p.fLevel, p.fClean, p.fKeep, true, p.fWTopic, p.fWBody, p.fWQos, p.fWRetain, true, p.fUser, false, ⟨#[]⟩, 0, false, [], [], []⟩ : PacketV) := by
      clear hk s0 s2 s4 s6 s7 s9 s10 s11 s12 s14 s15 s16 s17 s18 s20 s21 s26
      simp only [decide_eq_true_eq, decide_eq_false_iff_not] at h8 h13 h19 h22
      simp [vNamed, nmWill, nmUser, pktT, h8, h13, h19, h22]
     rw [e] at hk
     exact hk _ _ (fun L' => (.cons .sc (.cons .sc (.cons .sc (.cons .sc (.cons .sc (.cons .sc (.cons .nl (.cons .sc (.cons .sc (.cons .sc (.cons .sc (.cons .sc (.cons .sc (.cons .ro (.cons .sc (.cons .sc (.cons .sc (.cons .sc (.cons .sc (.cons .nl (.cons .sc (.cons .sc (.cons .nl (.cons .nl (.cons .nl .nil)))))))))))))))))))))))))) s26.tail.tail.tail
   ·refine g_cF h19 ?_
    refine g_ldW s18 (.here) rfl ?_
    refine g_st (cs' := [.sc (.int .i64 p.fType), .sc (.bool false), .sc (.int .i64 0), .sc (.bool false), .sc (.int .i64 0), .sc (.string (⟨#[]⟩)), .nl, .sc (.string p.fClient), .sc (.int .i64 p.fLevel), .sc (.bool p.fClean), .sc (.int .i64 p.fKeep), .sc (.bool true), .sc (.string p.fWTopic), bytesC p.fWBody, .sc (.int .i64 p.fWQos), .sc (.bool p.fWRetain), .sc (.bool false), .sc (.string (⟨#[]⟩)), .sc (.bool false), .nl, .sc (.int .i64 0), .sc (.bool false), .nl, .nl, .nl]) s18 (.there (.here)) (cells_agg (lf_c rfl (lf_c rfl (lf_c rfl (lf_c rfl (lf_c rfl (lf_c rfl (lf_c rfl (lf_c rfl (lf_c rfl (lf_c rfl (lf_c rfl (lf_c rfl (lf_c rfl (lf_c rfl (lf_c rfl (lf_c rfl (lf_c rfl (lf_c rfl (lf_c rfl (lf_c rfl (lf_c rfl (lf_c rfl (lf_c rfl (lf_c rfl (lf_c rfl rfl)))))))))))))))))))))))))) rfl (Nat.le_of_ble_eq_true rfl) rfl fun H s27 => ?_
    refine g_ldW s27 (.here) rfl ?_
    have e : vNamed true p = (⟨p.fType, false, 0, false, 0, ⟨#[]⟩, ⟨#[]⟩, p.fClient, p.fLevel, p.fClean, p.fKeep, true, p.fWTopic, p.fWBody, p.fWQos, p.fWRetain, false, ⟨#[]⟩, false, ⟨#[]⟩, 0, false, [], [], []⟩ : PacketV) := by
     clear hk s0 s2 s4 s6 s7 s9 s10 s11 s12 s14 s15 s16 s17 s18 s27
     simp only [decide_eq_true_eq, decide_eq_false_iff_not] at h8 h13 h19
     simp [vNamed, nmWill, nmUser, pktT, h8, h13, h19]
    rw [e] at hk
    exact hk _ _ (fun L' => (.cons .sc (.cons .sc (.cons .sc (.cons .sc (.cons .sc (.cons .sc (.cons .nl (.cons .sc (.cons .sc (.cons .sc (.cons .sc (.cons .sc (.cons .sc (.cons .ro (.cons .sc (.cons .sc (.cons .sc (.cons .sc (.cons .sc (.cons .nl (.cons .sc (.cons .sc (.cons .nl (.cons .nl (.cons .nl .nil)))))))))))))))))))))))))) s27.tail.tail.tail
  ·refine g_cF h13 ?_
   refine g_fadr (o' := 16) rfl ?_
   refine g_ld (c := .sc (.bool p.fHasUser)) s12 (.there (.there (.here))) rfl ?_
   refine w_split (p.fHasUser) (fun h28 => ?_) (fun h28 => ?_)
   ·refine g_cT h28 ?_
    refine g_fadr (o' := 16) rfl ?_
    refine g_st (cs' := [.sc (.int .i64 p.fType), .sc (.bool false), .sc (.int .i64 0), .sc (.bool false), .sc (.int .i64 0), .sc (.string (⟨#[]⟩)), .nl, .sc (.string p.fClient), .sc (.int .i64 p.fLevel), .sc (.bool p.fClean), .sc (.int .i64 p.fKeep), .sc (.bool false), .sc (.string (⟨#[]⟩)), .nl, .sc (.int .i64 0), .sc (.bool false), .sc (.bool true), .sc (.string (⟨#[]⟩)), .sc (.bool false), .nl, .sc (.int .i64 0), .sc (.bool false), .nl, .nl, .nl]) s12 (.here) (cells_leaf rfl) rfl (Nat.le_of_ble_eq_true rfl) rfl fun H s29 => ?_
    refine g_fadr (o' := 17) rfl ?_
    refine g_ld (c := .sc (.string p.fUser)) s29 (.there (.there (.here))) rfl ?_
    refine g_fadr (o' := 17) rfl ?_
    refine g_st (cs' := [.sc (.int .i64 p.fType), .sc (.bool false), .sc (.int .i64 0), .sc (.bool false), .sc (.int .i64 0), .sc (.string (⟨#[]⟩)), .nl, .sc (.string p.fClient), .sc (.int .i64 p.fLevel), .sc (.bool p.fClean), .sc (.int .i64 p.fKeep), .sc (.bool false), .sc (.string (⟨#[]⟩)), .nl, .sc (.int .i64 0), .sc (.bool false), .sc (.bool true), .sc (.string p.fUser), .sc (.bool false), .nl, .sc (.int .i64 0), .sc (.bool false), .nl, .nl, .nl]) s29 (.here) (cells_leaf rfl) rfl (Nat.le_of_ble_eq_true rfl) rfl fun H s30 => ?_
    refine g_fadr (o' := 18) rfl ?_
    refine g_ld (c := .sc (.bool p.fHasPass)) s30 (.there (.there (.here))) rfl ?_
    refine w_split (p.fHasPass) (fun h31 => ?_) (fun h31 => ?_)
    ·refine g_cT h31 ?_
     refine g_fadr (o' := 18) rfl ?_
     refine g_st (cs' := [.sc (.int .i64 p.fType), .sc (.bool false), .sc (.int .i64 0), .sc (.bool false), .sc (.int .i64 0), .sc (.string (⟨#[]⟩)), .nl, .sc (.string p.fClient), .sc (.int .i64 p.fLevel), .sc (.bool p.fClean), .sc (.int .i64 p.fKeep), .sc (.bool false), .sc (.string (⟨#[]⟩)), .nl, .sc (.int .i64 0), .sc (.bool false), .sc (.bool true), .sc (.string p.fUser), .sc (.bool true), .nl, .sc (.int .i64 0), .sc (.bool false), .nl, .nl, .nl]) s30 (.here) (cells_leaf rfl) rfl (Nat.le_of_ble_eq_true rfl) rfl fun H s32 => ?_
     refine g_fadr (o' := 19) rfl ?_
     refine g_ld (c := bytesC p.fPass) s32 (.there (.there (.here))) rfl ?_
     refine g_fadr (o' := 19) rfl ?_
     refine g_st (cs' := [.sc (.int .i64 p.fType), .sc (.bool false), .sc (.int .i64 0), .sc (.bool false), .sc (.int .i64 0), .sc (.string (⟨#[]⟩)), .nl, .sc (.string p.fClient), .sc (.int .i64 p.fLevel), .sc (.bool p.fClean), .sc (.int .i64 p.fKeep), .sc (.bool false), .sc (.string (⟨#[]⟩)), .nl, .sc (.int .i64 0), .sc (.bool false), .sc (.bool true), .sc (.string p.fUser), .sc (.bool true), bytesC p.fPass, .sc (.int .i64 0), .sc (.bool false), .nl, .nl, .nl]) s32 (.here) (cells_leaf rfl) rfl (Nat.le_of_ble_eq_true rfl) rfl fun H s33 => ?_
     refine g_ldW s33 (.here) rfl ?_
     refine g_st (cs' := [.sc (.int .i64 p.fType), .sc (.bool false), .sc (.int .i64 0), .sc (.bool false), .sc (.int .i64 0), .sc (.string (⟨#[]⟩)), .nl, .sc (.string p.fClient), .sc (.int .i64 p.fLevel), .sc (.bool p.fClean), .sc (.int .i64 p.fKeep), .sc (.bool false), .sc (.string (⟨#[]⟩)), .nl, .sc (.int .i64 0), .sc (.bool false), .sc (.bool true), .sc (.string p.fUser), .sc (.bool true), bytesC p.fPass, .sc (.int .i64 0), .sc (.bool false), .nl, .nl, .nl]) s33 (.there (.here)) (cells_agg (lf_c rfl (lf_c rfl (lf_c rfl (lf_c rfl (lf_c rfl (lf_c rfl (lf_c rfl (lf_c rfl (lf_c rfl (lf_c rfl (lf_c rfl (lf_c rfl (lf_c rfl (lf_c rfl (lf_c rfl (lf_c rfl (lf_c rfl (lf_c rfl (lf_c rfl (lf_c rfl (lf_c rfl (lf_c rfl (lf_c rfl (lf_c rfl (lf_c rfl rfl)))))))))))))))))))))))))) rfl (Nat.le_of_ble_eq_true rfl) rfl fun H s34 => ?_
     refine g_ldW s34 (.here) rfl ?_
     have e : vNamed true p = (⟨p.fType, false, 0, false, 0, ⟨#[]⟩, ⟨#[]⟩, p.fClient, p.fLevel, p.fClean, p.fKeep, false, ⟨#[]⟩, ⟨#[]⟩, 0, false, true, p.fUser, true, p.fPass, 0, false, [], [], []⟩ : PacketV) := by
      clear hk s0 s2 s4 s6 s7 s9 s10 s11 s12 s29 s30 s32 s33 s34
      simp only [decide_eq_true_eq, decide_eq_false_iff_not] at h8 h13 h28 h31
      simp [vNamed, nmWill, nmUser, pktT, h8, h13, h28, h31]
     rw [e] at hk
     exact hk _ _ (fun L' => (.cons .sc (.cons .sc (.cons .sc (.cons .sc (.cons .sc (.cons .sc (.cons .nl (.cons .sc (.cons .sc (.cons .sc (.cons .sc (.cons .sc (.cons .sc (.cons .nl (.cons .sc (.cons .sc (.cons .sc (.cons .sc (.cons .sc (.cons .ro (.cons .sc (.cons .sc (.cons .nl (.cons .nl (.cons .nl .nil)))))))))))))))))))))))))) s34.tail.tail.tail
    ·refine g_cF h31 ?_
     refine g_ldW s30 (.here) rfl ?_
     refine g_st (cs' := [.sc (.int .i64 p.fType), .sc (.bool false), .sc (.int .i64 0), .sc (.bool false), .sc (.int .i64 0), .sc (.string (⟨#[]⟩)), .nl, .sc (.string p.fClient), .sc (.int .i64 p.fLevel), .sc (.bool p.fClean), .sc (.int .i64 p.fKeep), .sc (.bool false), .sc (.string (⟨#[]⟩)), .nl, .sc (.int .i64 0), .sc (.bool false), .sc (.bool true), .sc (.string p.fUser), .sc (.bool false), .nl, .sc (.int .i64 0), .sc (.bool false), .nl, .nl, .nl]) s30 (.there (.here)) (cells_agg (lf_c rfl (lf_c rfl (lf_c rfl (lf_c rfl (lf_c rfl (lf_c rfl (lf_c rfl (lf_c rfl (lf_c rfl (lf_c rfl (lf_c rfl (lf_c rfl (lf_c rfl (lf_c rfl (lf_c rfl (lf_c rfl (lf_c rfl (lf_c rfl (lf_c rfl (lf_c rfl (lf_c rfl (lf_c rfl (lf_c rfl (lf_c rfl (lf_c rfl rfl)))))))))))))))))))))))))) rfl (Nat.le_of_ble_eq_true rfl) rfl fun H s35 => ?_
     refine g_ldW s35 (.here) rfl ?_
     have e : vNamed true p = (⟨p.fType, false, 0, false, 0, ⟨#[]⟩, ⟨#[]⟩, p.fClient, p.fLevel, p.fClean, p.fKeep, false, ⟨#[]⟩, ⟨#[]⟩, 0, false, true, p.fUser, false, ⟨#[]⟩, 0, false, [], [], []⟩ : PacketV) := by
      clear hk s0 s2 s4 s6 s7 s9 s10 s11 s12 s29 s30 s35
      simp only [decide_eq_true_eq, decide_eq_false_iff_not] at h8 h13 h28 h31
      simp [vNamed, nmWill, nmUser, pktT, h8, h13, h28, h31]
     rw [e] at hk
     exact hk _ _ (fun L' => (.cons .sc (.cons .sc (.cons .sc (.cons .sc (.cons .sc (.cons .sc (.cons .nl (.cons .sc (.cons .sc (.cons .sc (.cons .sc (.cons .sc (.cons .sc (.cons .nl (.cons .sc (.cons .sc (.cons .sc (.cons .sc (.cons .sc (.cons .nl (.cons .sc (.cons .sc (.cons .nl (.cons .nl (.cons .nl .nil)))))))))))))))))))))))))) s35.tail.tail.tail
   ·refine g_cF h28 ?_
    refine g_ldW s12 (.here) rfl ?_
    refine g_st (cs' := [.sc (.int .i64 p.fType), .sc (.bool false), .sc (.int .i64 0), .sc (.bool false), .sc (.int .i64 0), .sc (.string (⟨#[]⟩)), .nl, .sc (.string p.fClient), .sc (.int .i64 p.fLevel), .sc (.bool p.fClean), .sc (.int .i64 p.fKeep), .sc (.bool false), .sc (.string (⟨#[]⟩)), .nl, .sc (.int .i64 0), .sc (.bool false), .sc (.bool false), .sc (.string (⟨#[]⟩)), .sc (.bool false), .nl, .sc (.int .i64 0), .sc (.bool false), .nl, .nl, .nl]) s12 (.there (.here)) (cells_agg (lf_c rfl (lf_c rfl (lf_c rfl (lf_c rfl (lf_c rfl (lf_c rfl (lf_c rfl (lf_c rfl (lf_c rfl (lf_c rfl (lf_c rfl (lf_c rfl (lf_c rfl (lf_c rfl (lf_c rfl (lf_c rfl (lf_c rfl (lf_c rfl (lf_c rfl (lf_c rfl (lf_c rfl (lf_c rfl (lf_c rfl (lf_c rfl (lf_c rfl rfl)))))))))))))))))))))))))) rfl (Nat.le_of_ble_eq_true rfl) rfl fun H s36 => ?_
    refine g_ldW s36 (.here) rfl ?_
    have e : vNamed true p = (⟨p.fType, false, 0, false, 0, ⟨#[]⟩, ⟨#[]⟩, p.fClient, p.fLevel, p.fClean, p.fKeep, false, ⟨#[]⟩, ⟨#[]⟩, 0, false, false, ⟨#[]⟩, false, ⟨#[]⟩, 0, false, [], [], []⟩ : PacketV) := by
     clear hk s0 s2 s4 s6 s7 s9 s10 s11 s12 s36
     simp only [decide_eq_true_eq, decide_eq_false_iff_not] at h8 h13 h28
     simp [vNamed, nmWill, nmUser, pktT, h8, h13, h28]
    rw [e] at hk
    exact hk _ _ (fun L' => (.cons .sc (.cons .sc (.cons .sc (.cons .sc (.cons .sc (.cons .sc (.cons .nl (.cons .sc (.cons .sc (.cons .sc (.cons .sc (.cons .sc (.cons .sc (.cons .nl (.cons .sc (.cons .sc (.cons .sc (.cons .sc (.cons .sc (.cons .nl (.cons .sc (.cons .sc (.cons .nl (.cons .nl (.cons .nl .nil)))))))))))))))))))))))))) s36.tail.tail.tail
 ·refine g_cF h8 ?_
  refine g_eql ?_
  refine w_split ((decide (p.fType = 2))) (fun h37 => ?_) (fun h37 => ?_)
  ·refine g_cT h37 ?_
   refine g_fadr (o' := 20) rfl ?_
   refine g_ld (c := .sc (.int .i64 p.fCode)) s7 (.there (.there (.here))) rfl ?_
   refine g_fadr (o' := 20) rfl ?_
   refine g_st (cs' := [.sc (.int .i64 p.fType), .sc (.bool false), .sc (.int .i64 0), .sc (.bool false), .sc (.int .i64 0), .sc (.string (⟨#[]⟩)), .nl, .sc (.string (⟨#[]⟩)), .sc (.int .i64 0), .sc (.bool false), .sc (.int .i64 0), .sc (.bool false), .sc (.string (⟨#[]⟩)), .nl, .sc (.int .i64 0), .sc (.bool false), .sc (.bool false), .sc (.string (⟨#[]⟩)), .sc (.bool false), .nl, .sc (.int .i64 p.fCode), .sc (.bool false), .nl, .nl, .nl]) s7 (.here) (cells_leaf rfl) rfl (Nat.le_of_ble_eq_true rfl) rfl fun H s38 => ?_
   refine g_fadr (o' := 21) rfl ?_
   refine g_ld (c := .sc (.bool p.fPresent)) s38 (.there (.there (.here))) rfl ?_
   refine w_split (p.fPresent) (fun h39 => ?_) (fun h39 => ?_)
   ·refine g_gY h39 ?_
    refine g_fadr (o' := 20) rfl ?_
    refine g_gY h39 ?_
    refine g_ld (c := .sc (.int .i64 p.fCode)) s38 (.there (.there (.here))) rfl ?_
    refine g_gY h39 ?_
    refine g_eql ?_
    refine g_pT h39 ?_
    refine g_fadr (o' := 21) rfl ?_
    refine g_st (cs' := [.sc (.int .i64 p.fType), .sc (.bool false), .sc (.int .i64 0), .sc (.bool false), .sc (.int .i64 0), .sc (.string (⟨#[]⟩)), .nl, .sc (.string (⟨#[]⟩)), .sc (.int .i64 0), .sc (.bool false), .sc (.int .i64 0), .sc (.bool false), .sc (.string (⟨#[]⟩)), .nl, .sc (.int .i64 0), .sc (.bool false), .sc (.bool false), .sc (.string (⟨#[]⟩)), .sc (.bool false), .nl, .sc (.int .i64 p.fCode), .sc (.bool (decide (p.fCode = 0))), .nl, .nl, .nl]) s38 (.here) (cells_leaf rfl) rfl (Nat.le_of_ble_eq_true rfl) rfl fun H s40 => ?_
    refine g_ldW s40 (.here) rfl ?_
    refine g_st (cs' := [.sc (.int .i64 p.fType), .sc (.bool false), .sc (.int .i64 0), .sc (.bool false), .sc (.int .i64 0), .sc (.string (⟨#[]⟩)), .nl, .sc (.string (⟨#[]⟩)), .sc (.int .i64 0), .sc (.bool false), .sc (.int .i64 0), .sc (.bool false), .sc (.string (⟨#[]⟩)), .nl, .sc (.int .i64 0), .sc (.bool false), .sc (.bool false), .sc (.string (⟨#[]⟩)), .sc (.bool false), .nl, .sc (.int .i64 p.fCode), .sc (.bool (decide (p.fCode = 0))), .nl, .nl, .nl]) s40 (.there (.here)) (cells_agg (lf_c rfl (lf_c rfl (lf_c rfl (lf_c rfl (lf_c rfl (lf_c rfl (lf_c rfl (lf_c rfl (lf_c rfl (lf_c rfl (lf_c rfl (lf_c rfl (lf_c rfl (lf_c rfl (lf_c rfl (lf_c rfl (lf_c rfl (lf_c rfl (lf_c rfl (lf_c rfl (lf_c rfl (lf_c rfl (lf_c rfl (lf_c rfl (lf_c rfl rfl)))))))))))))))))))))))))) rfl (Nat.le_of_ble_eq_true rfl) rfl fun H s41 => ?_
    refine g_ldW s41 (.here) rfl ?_
    have e : vNamed true p = (⟨p.fType, false, 0, false, 0, ⟨#[]⟩, ⟨#[]⟩, ⟨#[]⟩, 0, false, 0, false, ⟨#[]⟩, ⟨#[]⟩, 0, false, false, ⟨#[]⟩, false, ⟨#[]⟩, p.fCode, (decide (p.fCode = 0)), [], [], []⟩ : PacketV) := by
     clear hk s0 s2 s4 s6 s7 s38 s40 s41
     simp only [decide_eq_true_eq, decide_eq_false_iff_not] at h8 h37 h39
     simp [vNamed, nmWill, nmUser, pktT, h8, h37, h39]
    rw [e] at hk
    exact hk _ _ (fun L' => (.cons .sc (.cons .sc (.cons .sc (.cons .sc (.cons .sc (.cons .sc (.cons .nl (.cons .sc (.cons .sc (.cons .sc (.cons .sc (.cons .sc (.cons .sc (.cons .nl (.cons .sc (.cons .sc (.cons .sc (.cons .sc (.cons .sc (.cons .nl (.cons .sc (.cons .sc (.cons .nl (.cons .nl (.cons .nl .nil)))))))))))))))))))))))))) s41.tail.tail.tail
   ·refine g_gN h39 ?_
    refine g_gN h39 ?_
    refine g_gN h39 ?_
    refine g_pF h39 ?_
    refine g_fadr (o' := 21) rfl ?_
    refine g_st (cs' := [.sc (.int .i64 p.fType), .sc (.bool false), .sc (.int .i64 0), .sc (.bool false), .sc (.int .i64 0), .sc (.string (⟨#[]⟩)), .nl, .sc (.string (⟨#[]⟩)), .sc (.int .i64 0), .sc (.bool false), .sc (.int .i64 0), .sc (.bool false), .sc (.string (⟨#[]⟩)), .nl, .sc (.int .i64 0), .sc (.bool false), .sc (.bool false), .sc (.string (⟨#[]⟩)), .sc (.bool false), .nl, .sc (.int .i64 p.fCode), .sc (.bool false), .nl, .nl, .nl]) s38 (.here) (cells_leaf rfl) rfl (Nat.le_of_ble_eq_true rfl) rfl fun H s42 => ?_
    refine g_ldW s42 (.here) rfl ?_
    refine g_st (cs' := [.sc (.int .i64 p.fType), .sc (.bool false), .sc (.int .i64 0), .sc (.bool false), .sc (.int .i64 0), .sc (.string (⟨#[]⟩)), .nl, .sc (.string (⟨#[]⟩)), .sc (.int .i64 0), .sc (.bool false), .sc (.int .i64 0), .sc (.bool false), .sc (.string (⟨#[]⟩)), .nl, .sc (.int .i64 0), .sc (.bool false), .sc (.bool false), .sc (.string (⟨#[]⟩)), .sc (.bool false), .nl, .sc (.int .i64 p.fCode), .sc (.bool false), .nl, .nl, .nl]) s42 (.there (.here)) (cells_agg (lf_c rfl (lf_c rfl (lf_c rfl (lf_c rfl (lf_c rfl (lf_c rfl (lf_c rfl (lf_c rfl (lf_c rfl (lf_c rfl (lf_c rfl (lf_c rfl (lf_c rfl (lf_c rfl (lf_c rfl (lf_c rfl (lf_c rfl (lf_c rfl (lf_c rfl (lf_c rfl (lf_c rfl (lf_c rfl (lf_c rfl (lf_c rfl (lf_c rfl rfl)))))))))))))))))))))))))) rfl (Nat.le_of_ble_eq_true rfl) rfl fun H s43 => ?_
    refine g_ldW s43 (.here) rfl ?_
    have e : vNamed true p = (⟨p.fType, false, 0, false, 0, ⟨#[]⟩, ⟨#[]⟩, ⟨#[]⟩, 0, false, 0, false, ⟨#[]⟩, ⟨#[]⟩, 0, false, false, ⟨#[]⟩, false, ⟨#[]⟩, p.fCode, false, [], [], []⟩ : PacketV) := by
     clear hk s0 s2 s4 s6 s7 s38 s42 s43
     simp only [decide_eq_true_eq, decide_eq_false_iff_not] at h8 h37 h39
     simp [vNamed, nmWill, nmUser, pktT, h8, h37, h39]
    rw [e] at hk
    exact hk _ _ (fun L' => (.cons .sc (.cons .sc (.cons .sc (.cons .sc (.cons .sc (.cons .sc (.cons .nl (.cons .sc (.cons .sc (.cons .sc (.cons .sc (.cons .sc (.cons .sc (.cons .nl (.cons .sc (.cons .sc (.cons .sc (.cons .sc (.cons .sc (.cons .nl (.cons .sc (.cons .sc (.cons .nl (.cons .nl (.cons .nl .nil)))))))))))))))))))))))))) s43.tail.tail.tail
  ·refine g_cF h37 ?_
   refine g_eql ?_
   refine w_split ((decide (p.fType = 3))) (fun h44 => ?_) (fun h44 => ?_)
   ·refine g_cT h44 ?_
    refine g_fadr (o' := 2) rfl ?_
    refine g_ld (c := .sc (.int .i64 p.fQos)) s7 (.there (.there (.here))) rfl ?_
    refine g_fadr (o' := 2) rfl ?_
    refine g_st (cs' := [.sc (.int .i64 p.fType), .sc (.bool false), .sc (.int .i64 p.fQos), .sc (.bool false), .sc (.int .i64 0), .sc (.string (⟨#[]⟩)), .nl, .sc (.string (⟨#[]⟩)), .sc (.int .i64 0), .sc (.bool false), .sc (.int .i64 0), .sc (.bool false), .sc (.string (⟨#[]⟩)), .nl, .sc (.int .i64 0), .sc (.bool false), .sc (.bool false), .sc (.string (⟨#[]⟩)), .sc (.bool false), .nl, .sc (.int .i64 0), .sc (.bool false), .nl, .nl, .nl]) s7 (.here) (cells_leaf rfl) rfl (Nat.le_of_ble_eq_true rfl) rfl fun H s45 => ?_
    refine g_fadr (o' := 3) rfl ?_
    refine g_ld (c := .sc (.bool p.fRetain)) s45 (.there (.there (.here))) rfl ?_
    refine g_fadr (o' := 3) rfl ?_
    refine g_st (cs' := [.sc (.int .i64 p.fType), .sc (.bool false), .sc (.int .i64 p.fQos), .sc (.bool p.fRetain), .sc (.int .i64 0), .sc (.string (⟨#[]⟩)), .nl, .sc (.string (⟨#[]⟩)), .sc (.int .i64 0), .sc (.bool false), .sc (.int .i64 0), .sc (.bool false), .sc (.string (⟨#[]⟩)), .nl, .sc (.int .i64 0), .sc (.bool false), .sc (.bool false), .sc (.string (⟨#[]⟩)), .sc (.bool false), .nl, .sc (.int .i64 0), .sc (.bool false), .nl, .nl, .nl]) s45 (.here) (cells_leaf rfl) rfl (Nat.le_of_ble_eq_true rfl) rfl fun H s46 => ?_
    refine g_fadr (o' := 5) rfl ?_
    refine g_ld (c := .sc (.string p.fTopic)) s46 (.there (.there (.here))) rfl ?_
    refine g_fadr (o' := 5) rfl ?_
    refine g_st (cs' := [.sc (.int .i64 p.fType), .sc (.bool false), .sc (.int .i64 p.fQos), .sc (.bool p.fRetain), .sc (.int .i64 0), .sc (.string p.fTopic), .nl, .sc (.string (⟨#[]⟩)), .sc (.int .i64 0), .sc (.bool false), .sc (.int .i64 0), .sc (.bool false), .sc (.string (⟨#[]⟩)), .nl, .sc (.int .i64 0), .sc (.bool false), .sc (.bool false), .sc (.string (⟨#[]⟩)), .sc (.bool false), .nl, .sc (.int .i64 0), .sc (.bool false), .nl, .nl, .nl]) s46 (.here) (cells_leaf rfl) rfl (Nat.le_of_ble_eq_true rfl) rfl fun H s47 => ?_
    refine g_fadr (o' := 6) rfl ?_
    refine g_ld (c := bytesC p.fBody) s47 (.there (.there (.here))) rfl ?_
    refine g_fadr (o' := 6) rfl ?_
    refine g_st (cs' := [.sc (.int .i64 p.fType), .sc (.bool false), .sc (.int .i64 p.fQos), .sc (.bool p.fRetain), .sc (.int .i64 0), .sc (.string p.fTopic), bytesC p.fBody, .sc (.string (⟨#[]⟩)), .sc (.int .i64 0), .sc (.bool false), .sc (.int .i64 0), .sc (.bool false), .sc (.string (⟨#[]⟩)), .nl, .sc (.int .i64 0), .sc (.bool false), .sc (.bool false), .sc (.string (⟨#[]⟩)), .sc (.bool false), .nl, .sc (.int .i64 0), .sc (.bool false), .nl, .nl, .nl]) s47 (.here) (cells_leaf rfl) rfl (Nat.le_of_ble_eq_true rfl) rfl fun H s48 => ?_
    refine g_fadr (o' := 2) rfl ?_
    refine g_ld (c := .sc (.int .i64 p.fQos)) s48 (.there (.there (.here))) rfl ?_
    refine g_gtr ?_
    refine w_split ((decide (0 < p.fQos))) (fun h49 => ?_) (fun h49 => ?_)
    ·refine g_cT h49 ?_
     refine g_fadr (o' := 1) rfl ?_
     refine g_ld (c := .sc (.bool p.fDup)) s48 (.there (.there (.here))) rfl ?_
     refine g_fadr (o' := 1) rfl ?_
     refine g_st (cs' := [.sc (.int .i64 p.fType), .sc (.bool p.fDup), .sc (.int .i64 p.fQos), .sc (.bool p.fRetain), .sc (.int .i64 0), .sc (.string p.fTopic), bytesC p.fBody, .sc (.string (⟨#[]⟩)), .sc (.int .i64 0), .sc (.bool false), .sc (.int .i64 0), .sc (.bool false), .sc (.string (⟨#[]⟩)), .nl, .sc (.int .i64 0), .sc (.bool false), .sc (.bool false), .sc (.string (⟨#[]⟩)), .sc (.bool false), .nl, .sc (.int .i64 0), .sc (.bool false), .nl, .nl, .nl]) s48 (.here) (cells_leaf rfl) rfl (Nat.le_of_ble_eq_true rfl) rfl fun H s50 => ?_
     refine g_fadr (o' := 4) rfl ?_
     refine g_ld (c := .sc (.int .i64 p.fId)) s50 (.there (.there (.here))) rfl ?_
     refine g_fadr (o' := 4) rfl ?_
     refine g_st (cs' := [.sc (.int .i64 p.fType), .sc (.bool p.fDup), .sc (.int .i64 p.fQos), .sc (.bool p.fRetain), .sc (.int .i64 p.fId), .sc (.string p.fTopic), bytesC p.fBody, .sc (.string (⟨#[]⟩)), .sc (.int .i64 0), .sc (.bool false), .sc (.int .i64 0), .sc (.bool false), .sc (.string (⟨#[]⟩)), .nl, .sc (.int .i64 0), .sc (.bool false), .sc (.bool false), .sc (.string (⟨#[]⟩)), .sc (.bool false), .nl, .sc (.int .i64 0), .sc (.bool false), .nl, .nl, .nl]) s50 (.here) (cells_leaf rfl) rfl (Nat.le_of_ble_eq_true rfl) rfl fun H s51 => ?_
     refine g_ldW s51 (.here) rfl ?_
     refine g_st (cs' := [.sc (.int .i64 p.fType), .sc (.bool p.fDup), .sc (.int .i64 p.fQos), .sc (.bool p.fRetain), .sc (.int .i64 p.fId), .sc (.string p.fTopic), bytesC p.fBody, .sc (.string (⟨#[]⟩)), .sc (.int .i64 0), .sc (.bool false), .sc (.int .i64 0), .sc (.bool false), .sc (.string (⟨#[]⟩)), .nl, .sc (.int .i64 0), .sc (.bool false), .sc (.bool false), .sc (.string (⟨#[]⟩)), .sc (.bool false), .nl, .sc (.int .i64 0), .sc (.bool false), .nl, .nl, .nl]) s51 (.there (.here)) (cells_agg (lf_c rfl (lf_c rfl (lf_c rfl (lf_c rfl (lf_c rfl (lf_c rfl (lf_c rfl (lf_c rfl (lf_c rfl (lf_c rfl (lf_c rfl (lf_c rfl (lf_c rfl (lf_c rfl (lf_c rfl (lf_c rfl (lf_c rfl (lf_c rfl (lf_c rfl (lf_c rfl (lf_c rfl (lf_c rfl (lf_c rfl (lf_c rfl (lf_c rfl rfl)))))))))))))))))))))))))) rfl (Nat.le_of_ble_eq_true rfl) rfl fun H s52 => ?_
     refine g_ldW s52 (.here) rfl ?_
     have e : vNamed true p = (⟨p.fType, p.fDup, p.fQos, p.fRetain, p.fId, p.fTopic, p.fBody, ⟨#[]⟩, 0, false, 0, false, ⟨#[]⟩, ⟨#[]⟩, 0, false, false, ⟨#[]⟩, false, ⟨#[]⟩, 0, false, [], [], []⟩ : PacketV) := by
      clear hk s0 s2 s4 s6 s7 s45 s46 s47 s48 s50 s51 s52
      simp only [decide_eq_true_eq, decide_eq_false_iff_not] at h8 h37 h44 h49
      simp [vNamed, nmWill, nmUser, pktT, h8, h37, h44, h49]
     rw [e] at hk
     exact hk _ _ (fun L' => (.cons .sc (.cons .sc (.cons .sc (.cons .sc (.cons .sc (.cons .sc (.cons .ro (.cons .sc (.cons .sc (.cons .sc (.cons .sc (.cons .sc (.cons .sc (.cons .nl (.cons .sc (.cons .sc (.cons .sc (.cons .sc (.cons .sc (.cons .nl (.cons .sc (.cons .sc (.cons .nl (.cons .nl (.cons .nl .nil)))))))))))))))))))))))))) s52.tail.tail.tail
    ·refine g_cF h49 ?_
     refine g_ldW s48 (.here) rfl ?_
     refine g_st (cs' := [.sc (.int .i64 p.fType), .sc (.bool false), .sc (.int .i64 p.fQos), .sc (.bool p.fRetain), .sc (.int .i64 0), .sc (.string p.fTopic), bytesC p.fBody, .sc (.string (⟨#[]⟩)), .sc (.int .i64 0), .sc (.bool false), .sc (.int .i64 0), .sc (.bool false), .sc (.string (⟨#[]⟩)), .nl, .sc (.int .i64 0), .sc (.bool false), .sc (.bool false), .sc (.string (⟨#[]⟩)), .sc (.bool false), .nl, .sc (.int .i64 0), .sc (.bool false), .nl, .nl, .nl]) s48 (.there (.here)) (cells_agg (lf_c rfl (lf_c rfl (lf_c rfl (lf_c rfl (lf_c rfl (lf_c rfl (lf_c rfl (lf_c rfl (lf_c rfl (lf_c rfl (lf_c rfl (lf_c rfl (lf_c rfl (lf_c rfl (lf_c rfl (lf_c rfl (lf_c rfl (lf_c rfl (lf_c rfl (lf_c rfl (lf_c rfl (lf_c rfl (lf_c rfl (lf_c rfl (lf_c rfl rfl)))))))))))))))))))))))))) rfl (Nat.le_of_ble_eq_true rfl) rfl fun H s53 => ?_
     refine g_ldW s53 (.here) rfl ?_
     have e : vNamed true p = (⟨p.fType, false, p.fQos, p.fRetain, 0, p.fTopic, p.fBody, ⟨#[]⟩, 0, false, 0, false, ⟨#[]⟩, ⟨#[]⟩, 0, false, false, ⟨#[]⟩, false, ⟨#[]⟩, 0, false, [], [], []⟩ : PacketV) := by
      clear hk s0 s2 s4 s6 s7 s45 s46 s47 s48 s53
      simp only [decide_eq_true_eq, decide_eq_false_iff_not] at h8 h37 h44 h49
      simp [vNamed, nmWill, nmUser, pktT, h8, h37, h44, h49]
     rw [e] at hk
     exact hk _ _ (fun L' => (.cons .sc (.cons .sc (.cons .sc (.cons .sc (.cons .sc (.cons .sc (.cons .ro (.cons .sc (.cons .sc (.cons .sc (.cons .sc (.cons .sc (.cons .sc (.cons .nl (.cons .sc (.cons .sc (.cons .sc (.cons .sc (.cons .sc (.cons .nl (.cons .sc (.cons .sc (.cons .nl (.cons .nl (.cons .nl .nil)))))))))))))))))))))))))) s53.tail.tail.tail
   ·refine g_cF h44 ?_
    refine g_eql ?_
    refine g_letJ ?_
    refine w_split ((decide (p.fType = 4))) (fun h54 => ?_) (fun h54 => ?_)
    ·refine g_cT h54 ?_
     refine g_cT h54 ?_
     refine g_fadr (o' := 4) rfl ?_
     refine g_ld (c := .sc (.int .i64 p.fId)) s7 (.there (.there (.here))) rfl ?_
     refine g_fadr (o' := 4) rfl ?_
     refine g_st (cs' := [.sc (.int .i64 p.fType), .sc (.bool false), .sc (.int .i64 0), .sc (.bool false), .sc (.int .i64 p.fId), .sc (.string (⟨#[]⟩)), .nl, .sc (.string (⟨#[]⟩)), .sc (.int .i64 0), .sc (.bool false), .sc (.int .i64 0), .sc (.bool false), .sc (.string (⟨#[]⟩)), .nl, .sc (.int .i64 0), .sc (.bool false), .sc (.bool false), .sc (.string (⟨#[]⟩)), .sc (.bool false), .nl, .sc (.int .i64 0), .sc (.bool false), .nl, .nl, .nl]) s7 (.here) (cells_leaf rfl) rfl (Nat.le_of_ble_eq_true rfl) rfl fun H s55 => ?_
     refine g_ldW s55 (.here) rfl ?_
     refine g_st (cs' := [.sc (.int .i64 p.fType), .sc (.bool false), .sc (.int .i64 0), .sc (.bool false), .sc (.int .i64 p.fId), .sc (.string (⟨#[]⟩)), .nl, .sc (.string (⟨#[]⟩)), .sc (.int .i64 0), .sc (.bool false), .sc (.int .i64 0), .sc (.bool false), .sc (.string (⟨#[]⟩)), .nl, .sc (.int .i64 0), .sc (.bool false), .sc (.bool false), .sc (.string (⟨#[]⟩)), .sc (.bool false), .nl, .sc (.int .i64 0), .sc (.bool false), .nl, .nl, .nl]) s55 (.there (.here)) (cells_agg (lf_c rfl (lf_c rfl (lf_c rfl (lf_c rfl (lf_c rfl (lf_c rfl (lf_c rfl (lf_c rfl (lf_c rfl (lf_c rfl (lf_c rfl (lf_c rfl (lf_c rfl (lf_c rfl (lf_c rfl (lf_c rfl (lf_c rfl (lf_c rfl (lf_c rfl (lf_c rfl (lf_c rfl (lf_c rfl (lf_c rfl (lf_c rfl (lf_c rfl rfl)))))))))))))))))))))))))) rfl (Nat.le_of_ble_eq_true rfl) rfl fun H s56 => ?_
     refine g_ldW s56 (.here) rfl ?_
     have e : vNamed true p = (⟨p.fType, false, 0, false, p.fId, ⟨#[]⟩, ⟨#[]⟩, ⟨#[]⟩, 0, false, 0, false, ⟨#[]⟩, ⟨#[]⟩, 0, false, false, ⟨#[]⟩, false, ⟨#[]⟩, 0, false, [], [], []⟩ : PacketV) := by
      clear hk s0 s2 s4 s6 s7 s55 s56
      simp only [decide_eq_true_eq, decide_eq_false_iff_not] at h8 h37 h44 h54
      simp [vNamed, nmWill, nmUser, pktT, h8, h37, h44, h54]
     rw [e] at hk
     exact hk _ _ (fun L' => (.cons .sc (.cons .sc (.cons .sc (.cons .sc (.cons .sc (.cons .sc (.cons .nl (.cons .sc (.cons .sc (.cons .sc (.cons .sc (.cons .sc (.cons .sc (.cons .nl (.cons .sc (.cons .sc (.cons .sc (.cons .sc (.cons .sc (.cons .nl (.cons .sc (.cons .sc (.cons .nl (.cons .nl (.cons .nl .nil)))))))))))))))))))))))))) s56.tail.tail.tail
    ·refine g_cF h54 ?_
     refine g_eql ?_
     refine w_split ((decide (p.fType = 5))) (fun h57 => ?_) (fun h57 => ?_)
     ·refine g_cT h57 ?_
      refine g_cT h57 ?_
      refine g_fadr (o' := 4) rfl ?_
      refine g_ld (c := .sc (.int .i64 p.fId)) s7 (.there (.there (.here))) rfl ?_
      refine g_fadr (o' := 4) rfl ?_
      refine g_st (cs' := [.sc (.int .i64 p.fType), .sc (.bool false), .sc (.int .i64 0), .sc (.bool false), .sc (.int .i64 p.fId), .sc (.string (⟨#[]⟩)), .nl, .sc (.string (⟨#[]⟩)), .sc (.int .i64 0), .sc (.bool false), .sc (.int .i64 0), .sc (.bool false), .sc (.string (⟨#[]⟩)), .nl, .sc (.int .i64 0), .sc (.bool false), .sc (.bool false), .sc (.string (⟨#[]⟩)), .sc (.bool false), .nl, .sc (.int .i64 0), .sc (.bool false), .nl, .nl, .nl]) s7 (.here) (cells_leaf rfl) rfl (Nat.le_of_ble_eq_true rfl) rfl fun H s58 => ?_
      refine g_ldW s58 (.here) rfl ?_
      refine g_st (cs' := [.sc (.int .i64 p.fType), .sc (.bool false), .sc (.int .i64 0), .sc (.bool false), .sc (.int .i64 p.fId), .sc (.string (⟨#[]⟩)), .nl, .sc (.string (⟨#[]⟩)), .sc (.int .i64 0), .sc (.bool false), .sc (.int .i64 0), .sc (.bool false), .sc (.string (⟨#[]⟩)), .nl, .sc (.int .i64 0), .sc (.bool false), .sc (.bool false), .sc (.string (⟨#[]⟩)), .sc (.bool false), .nl, .sc (.int .i64 0), .sc (.bool false), .nl, .nl, .nl]) s58 (.there (.here)) (cells_agg (lf_c rfl (lf_c rfl (lf_c rfl (lf_c rfl (lf_c rfl (lf_c rfl (lf_c rfl (lf_c rfl (lf_c rfl (lf_c rfl (lf_c rfl (lf_c rfl (lf_c rfl (lf_c rfl (lf_c rfl (lf_c rfl (lf_c rfl (lf_c rfl (lf_c rfl (lf_c rfl (lf_c rfl (lf_c rfl (lf_c rfl (lf_c rfl (lf_c rfl rfl)))))))))))))))))))))))))) rfl (Nat.le_of_ble_eq_true rfl) rfl fun H s59 => ?_
      refine g_ldW s59 (.here) rfl ?_
      have e : vNamed true p = (⟨p.fType, false, 0, false, p.fId, ⟨#[]⟩, ⟨#[]⟩, ⟨#[]⟩, 0, false, 0, false, ⟨#[]⟩, ⟨#[]⟩, 0, false, false, ⟨#[]⟩, false, ⟨#[]⟩, 0, false, [], [], []⟩ : PacketV) := by
       clear hk s0 s2 s4 s6 s7 s58 s59
       simp only [decide_eq_true_eq, decide_eq_false_iff_not] at h8 h37 h44 h54 h57
       simp [vNamed, nmWill, nmUser, pktT, h8, h37, h44, h54, h57]
      rw [e] at hk
      exact hk _ _ (fun L' => (.cons .sc (.cons .sc (.cons .sc (.cons .sc (.cons .sc (.cons .sc (.cons .nl (.cons .sc (.cons .sc (.cons .sc (.cons .sc (.cons .sc (.cons .sc (.cons .nl (.cons .sc (.cons .sc (.cons .sc (.cons .sc (.cons .sc (.cons .nl (.cons .sc (.cons .sc (.cons .nl (.cons .nl (.cons .nl .nil)))))))))))))))))))))))))) s59.tail.tail.tail
     ·refine g_cF h57 ?_
      refine g_eql ?_
      refine w_split ((decide (p.fType = 6))) (fun h60 => ?_) (fun h60 => ?_)
      ·refine g_cT h60 ?_
       refine g_cT h60 ?_
       refine g_fadr (o' := 4) rfl ?_
       refine g_ld (c := .sc (.int .i64 p.fId)) s7 (.there (.there (.here))) rfl ?_
       refine g_fadr (o' := 4) rfl ?_
       refine g_st (cs' := [.sc (.int .i64 p.fType), .sc (.bool false), .sc (.int .i64 0), .sc (.bool false), .sc (.int .i64 p.fId), .sc (.string (⟨#[]⟩)), .nl, .sc (.string (⟨#[]⟩)), .sc (.int .i64 0), .sc (.bool false), .sc (.int .i64 0), .sc (.bool false), .sc (.string (⟨#[]⟩)), .nl, .sc (.int .i64 0), .sc (.bool false), .sc (.bool false), .sc (.string (⟨#[]⟩)), .sc (.bool false), .nl, .sc (.int .i64 0), .sc (.bool false), .nl, .nl, .nl]) s7 (.here) (cells_leaf rfl) rfl (Nat.le_of_ble_eq_true rfl) rfl fun H s61 => ?_
       refine g_ldW s61 (.here) rfl ?_
       refine g_st (cs' := [.sc (.int .i64 p.fType), .sc (.bool false), .sc (.int .i64 0), .sc (.bool false), .sc (.int .i64 p.fId), .sc (.string (⟨#[]⟩)), .nl, .sc (.string (⟨#[]⟩)), .sc (.int .i64 0), .sc (.bool false), .sc (.int .i64 0), .sc (.bool false), .sc (.string (⟨#[]⟩)), .nl, .sc (.int .i64 0), .sc (.bool false), .sc (.bool false), .sc (.string (⟨#[]⟩)), .sc (.bool false), .nl, .sc (.int .i64 0), .sc (.bool false), .nl, .nl, .nl]) s61 (.there (.here)) (cells_agg (lf_c rfl (lf_c rfl (lf_c rfl (lf_c rfl (lf_c rfl (lf_c rfl (lf_c rfl (lf_c rfl (lf_c rfl (lf_c rfl (lf_c rfl (lf_c rfl (lf_c rfl (lf_c rfl (lf_c rfl (lf_c rfl (lf_c rfl (lf_c rfl (lf_c rfl (lf_c rfl (lf_c rfl (lf_c rfl (lf_c rfl (lf_c rfl (lf_c rfl rfl)))))))))))))))))))))))))) rfl (Nat.le_of_ble_eq_true rfl) rfl fun H s62 => ?_
       refine g_ldW s62 (.here) rfl ?_
       have e : vNamed true p = (⟨p.fType, false, 0, false, p.fId, ⟨#[]⟩, ⟨#[]⟩, ⟨#[]⟩, 0, false, 0, false, ⟨#[]⟩, ⟨#[]⟩, 0, false, false, ⟨#[]⟩, false, ⟨#[]⟩, 0, false, [], [], []⟩ : PacketV) := by
        clear hk s0 s2 s4 s6 s7 s61 s62
        simp only [decide_eq_true_eq, decide_eq_false_iff_not] at h8 h37 h44 h54 h57 h60
        simp [vNamed, nmWill, nmUser, pktT, h8, h37, h44, h54, h57, h60]
       rw [e] at hk
       exact hk _ _ (fun L' => (.cons .sc (.cons .sc (.cons .sc (.cons .sc (.cons .sc (.cons .sc (.cons .nl (.cons .sc (.cons .sc (.cons .sc (.cons .sc (.cons .sc (.cons .sc (.cons .nl (.cons .sc (.cons .sc (.cons .sc (.cons .sc (.cons .sc (.cons .nl (.cons .sc (.cons .sc (.cons .nl (.cons .nl (.cons .nl .nil)))))))))))))))))))))))))) s62.tail.tail.tail
      ·refine g_cF h60 ?_
       refine g_eql ?_
       refine w_split ((decide (p.fType = 7))) (fun h63 => ?_) (fun h63 => ?_)
       ·refine g_cT h63 ?_
        refine g_cT h63 ?_
        refine g_fadr (o' := 4) rfl ?_
        refine g_ld (c := .sc (.int .i64 p.fId)) s7 (.there (.there (.here))) rfl ?_
        refine g_fadr (o' := 4) rfl ?_
        refine g_st (cs' := [.sc (.int .i64 p.fType), .sc (.bool false), .sc (.int .i64 0), .sc (.bool false), .sc (.int .i64 p.fId), .sc (.string (⟨#[]⟩)), .nl, .sc (.string (⟨#[]⟩)), .sc (.int .i64 0), .sc (.bool false), .sc (.int .i64 0), .sc (.bool false), .sc (.string (⟨#[]⟩)), .nl, .sc (.int .i64 0), .sc (.bool false), .sc (.bool false), .sc (.string (⟨#[]⟩)), .sc (.bool false), .nl, .sc (.int .i64 0), .sc (.bool false), .nl, .nl, .nl]) s7 (.here) (cells_leaf rfl) rfl (Nat.le_of_ble_eq_true rfl) rfl fun H s64 => ?_
        refine g_ldW s64 (.here) rfl ?_
        refine g_st (cs' := [.sc (.int .i64 p.fType), .sc (.bool false), .sc (.int .i64 0), .sc (.bool false), .sc (.int .i64 p.fId), .sc (.string (⟨#[]⟩)), .nl, .sc (.string (⟨#[]⟩)), .sc (.int .i64 0), .sc (.bool false), .sc (.int .i64 0), .sc (.bool false), .sc (.string (⟨#[]⟩)), .nl, .sc (.int .i64 0), .sc (.bool false), .sc (.bool false), .sc (.string (⟨#[]⟩)), .sc (.bool false), .nl, .sc (.int .i64 0), .sc (.bool false), .nl, .nl, .nl]) s64 (.there (.here)) (cells_agg (lf_c rfl (lf_c rfl (lf_c rfl (lf_c rfl (lf_c rfl (lf_c rfl (lf_c rfl (lf_c rfl (lf_c rfl (lf_c rfl (lf_c rfl (lf_c rfl (lf_c rfl (lf_c rfl (lf_c rfl (lf_c rfl (lf_c rfl (lf_c rfl (lf_c rfl (lf_c rfl (lf_c rfl (lf_c rfl (lf_c rfl (lf_c rfl (lf_c rfl rfl)))))))))))))))))))))))))) rfl (Nat.le_of_ble_eq_true rfl) rfl fun H s65 => ?_
        refine g_ldW s65 (.here) rfl ?_
        have e : vNamed true p = (⟨p.fType, false, 0, false, p.fId, ⟨#[]⟩, ⟨#[]⟩, ⟨#[]⟩, 0, false, 0, false, ⟨#[]⟩, ⟨#[]⟩, 0, false, false, ⟨#[]⟩, false, ⟨#[]⟩, 0, false, [], [], []⟩ : PacketV) := by
         clear hk s0 s2 s4 s6 s7 s64 s65
         simp only [decide_eq_true_eq, decide_eq_false_iff_not] at h8 h37 h44 h54 h57 h60 h63
         simp [vNamed, nmWill, nmUser, pktT, h8, h37, h44, h54, h57, h60, h63]
        rw [e] at hk
        exact hk _ _ (fun L' => (.cons .sc (.cons .sc (.cons .sc (.cons .sc (.cons .sc (.cons .sc (.cons .nl (.cons .sc (.cons .sc (.cons .sc (.cons .sc (.cons .sc (.cons .sc (.cons .nl (.cons .sc (.cons .sc (.cons .sc (.cons .sc (.cons .sc (.cons .nl (.cons .sc (.cons .sc (.cons .nl (.cons .nl (.cons .nl .nil)))))))))))))))))))))))))) s65.tail.tail.tail
       ·refine g_cF h63 ?_
        refine g_eql ?_
        refine w_split ((decide (p.fType = 11))) (fun h66 => ?_) (fun h66 => ?_)
        ·refine g_cT h66 ?_
         refine g_fadr (o' := 4) rfl ?_
         refine g_ld (c := .sc (.int .i64 p.fId)) s7 (.there (.there (.here))) rfl ?_
         refine g_fadr (o' := 4) rfl ?_
         refine g_st (cs' := [.sc (.int .i64 p.fType), .sc (.bool false), .sc (.int .i64 0), .sc (.bool false), .sc (.int .i64 p.fId), .sc (.string (⟨#[]⟩)), .nl, .sc (.string (⟨#[]⟩)), .sc (.int .i64 0), .sc (.bool false), .sc (.int .i64 0), .sc (.bool false), .sc (.string (⟨#[]⟩)), .nl, .sc (.int .i64 0), .sc (.bool false), .sc (.bool false), .sc (.string (⟨#[]⟩)), .sc (.bool false), .nl, .sc (.int .i64 0), .sc (.bool false), .nl, .nl, .nl]) s7 (.here) (cells_leaf rfl) rfl (Nat.le_of_ble_eq_true rfl) rfl fun H s67 => ?_
         refine g_ldW s67 (.here) rfl ?_
         refine g_st (cs' := [.sc (.int .i64 p.fType), .sc (.bool false), .sc (.int .i64 0), .sc (.bool false), .sc (.int .i64 p.fId), .sc (.string (⟨#[]⟩)), .nl, .sc (.string (⟨#[]⟩)), .sc (.int .i64 0), .sc (.bool false), .sc (.int .i64 0), .sc (.bool false), .sc (.string (⟨#[]⟩)), .nl, .sc (.int .i64 0), .sc (.bool false), .sc (.bool false), .sc (.string (⟨#[]⟩)), .sc (.bool false), .nl, .sc (.int .i64 0), .sc (.bool false), .nl, .nl, .nl]) s67 (.there (.here)) (cells_agg (lf_c rfl (lf_c rfl (lf_c rfl (lf_c rfl (lf_c rfl (lf_c rfl (lf_c rfl (lf_c rfl (lf_c rfl (lf_c rfl (lf_c rfl (lf_c rfl (lf_c rfl (lf_c rfl (lf_c rfl (lf_c rfl (lf_c rfl (lf_c rfl (lf_c rfl (lf_c rfl (lf_c rfl (lf_c rfl (lf_c rfl (lf_c rfl (lf_c rfl rfl)))))))))))))))))))))))))) rfl (Nat.le_of_ble_eq_true rfl) rfl fun H s68 => ?_
         refine g_ldW s68 (.here) rfl ?_
         have e : vNamed true p = (⟨p.fType, false, 0, false, p.fId, ⟨#[]⟩, ⟨#[]⟩, ⟨#[]⟩, 0, false, 0, false, ⟨#[]⟩, ⟨#[]⟩, 0, false, false, ⟨#[]⟩, false, ⟨#[]⟩, 0, false, [], [], []⟩ : PacketV) := by
          clear hk s0 s2 s4 s6 s7 s67 s68
          simp only [decide_eq_true_eq, decide_eq_false_iff_not] at h8 h37 h44 h54 h57 h60 h63 h66
          simp [vNamed, nmWill, nmUser, pktT, h8, h37, h44, h54, h57, h60, h63, h66]
         rw [e] at hk
         exact hk _ _ (fun L' => (.cons .sc (.cons .sc (.cons .sc (.cons .sc (.cons .sc (.cons .sc (.cons .nl (.cons .sc (.cons .sc (.cons .sc (.cons .sc (.cons .sc (.cons .sc (.cons .nl (.cons .sc (.cons .sc (.cons .sc (.cons .sc (.cons .sc (.cons .nl (.cons .sc (.cons .sc (.cons .nl (.cons .nl (.cons .nl .nil)))))))))))))))))))))))))) s68.tail.tail.tail
        ·refine g_cF h66 ?_
         refine g_eql ?_
         refine w_split ((decide (p.fType = 8))) (fun h69 => ?_) (fun h69 => ?_)
         ·refine g_cT h69 ?_
          refine g_fadr (o' := 4) rfl ?_
          refine g_ld (c := .sc (.int .i64 p.fId)) s7 (.there (.there (.here))) rfl ?_
          refine g_fadr (o' := 4) rfl ?_
          refine g_st (cs' := [.sc (.int .i64 p.fType), .sc (.bool false), .sc (.int .i64 0), .sc (.bool false), .sc (.int .i64 p.fId), .sc (.string (⟨#[]⟩)), .nl, .sc (.string (⟨#[]⟩)), .sc (.int .i64 0), .sc (.bool false), .sc (.int .i64 0), .sc (.bool false), .sc (.string (⟨#[]⟩)), .nl, .sc (.int .i64 0), .sc (.bool false), .sc (.bool false), .sc (.string (⟨#[]⟩)), .sc (.bool false), .nl, .sc (.int .i64 0), .sc (.bool false), .nl, .nl, .nl]) s7 (.here) (cells_leaf rfl) rfl (Nat.le_of_ble_eq_true rfl) rfl fun H s70 => ?_
          refine g_fadr (o' := 22) rfl ?_
          refine g_ld (c := rowsC encWant p.fWants) s70 (.there (.there (.here))) rfl ?_
          refine g_fadr (o' := 22) rfl ?_
          refine g_st (cs' := [.sc (.int .i64 p.fType), .sc (.bool false), .sc (.int .i64 0), .sc (.bool false), .sc (.int .i64 p.fId), .sc (.string (⟨#[]⟩)), .nl, .sc (.string (⟨#[]⟩)), .sc (.int .i64 0), .sc (.bool false), .sc (.int .i64 0), .sc (.bool false), .sc (.string (⟨#[]⟩)), .nl, .sc (.int .i64 0), .sc (.bool false), .sc (.bool false), .sc (.string (⟨#[]⟩)), .sc (.bool false), .nl, .sc (.int .i64 0), .sc (.bool false), rowsC encWant p.fWants, .nl, .nl]) s70 (.here) (cells_leaf rfl) rfl (Nat.le_of_ble_eq_true rfl) rfl fun H s71 => ?_
          refine g_ldW s71 (.here) rfl ?_
          refine g_st (cs' := [.sc (.int .i64 p.fType), .sc (.bool false), .sc (.int .i64 0), .sc (.bool false), .sc (.int .i64 p.fId), .sc (.string (⟨#[]⟩)), .nl, .sc (.string (⟨#[]⟩)), .sc (.int .i64 0), .sc (.bool false), .sc (.int .i64 0), .sc (.bool false), .sc (.string (⟨#[]⟩)), .nl, .sc (.int .i64 0), .sc (.bool false), .sc (.bool false), .sc (.string (⟨#[]⟩)), .sc (.bool false), .nl, .sc (.int .i64 0), .sc (.bool false), rowsC encWant p.fWants, .nl, .nl]) s71 (.there (.here)) (cells_agg (lf_c rfl (lf_c rfl (lf_c rfl (lf_c rfl (lf_c rfl (lf_c rfl (lf_c rfl (lf_c rfl (lf_c rfl (lf_c rfl (lf_c rfl (lf_c rfl (lf_c rfl (lf_c rfl (lf_c rfl (lf_c rfl (lf_c rfl (lf_c rfl (lf_c rfl (lf_c rfl (lf_c rfl (lf_c rfl (lf_c rfl (lf_c rfl (lf_c rfl rfl)))))))))))))))))))))))))) rfl (Nat.le_of_ble_eq_true rfl) rfl fun H s72 => ?_
          refine g_ldW s72 (.here) rfl ?_
          have e : vNamed true p = (⟨p.fType, false, 0, false, p.fId, ⟨#[]⟩, ⟨#[]⟩, ⟨#[]⟩, 0, false, 0, false, ⟨#[]⟩, ⟨#[]⟩, 0, false, false, ⟨#[]⟩, false, ⟨#[]⟩, 0, false, p.fWants, [], []⟩ : PacketV) := by
           clear hk s0 s2 s4 s6 s7 s70 s71 s72
           simp only [decide_eq_true_eq, decide_eq_false_iff_not] at h8 h37 h44 h54 h57 h60 h63 h66 h69
           simp [vNamed, nmWill, nmUser, pktT, h8, h37, h44, h54, h57, h60, h63, h66, h69]
          rw [e] at hk
          exact hk _ _ (fun L' => (.cons .sc (.cons .sc (.cons .sc (.cons .sc (.cons .sc (.cons .sc (.cons .nl (.cons .sc (.cons .sc (.cons .sc (.cons .sc (.cons .sc (.cons .sc (.cons .nl (.cons .sc (.cons .sc (.cons .sc (.cons .sc (.cons .sc (.cons .nl (.cons .sc (.cons .sc (.cons .ro (.cons .nl (.cons .nl .nil)))))))))))))))))))))))))) s72.tail.tail.tail
         ·refine g_cF h69 ?_
          refine g_eql ?_
          refine w_split ((decide (p.fType = 9))) (fun h73 => ?_) (fun h73 => ?_)
          ·refine g_cT h73 ?_
           refine g_fadr (o' := 4) rfl ?_
           refine g_ld (c := .sc (.int .i64 p.fId)) s7 (.there (.there (.here))) rfl ?_
           refine g_fadr (o' := 4) rfl ?_
           refine g_st (cs' := [.sc (.int .i64 p.fType), .sc (.bool false), .sc (.int .i64 0), .sc (.bool false), .sc (.int .i64 p.fId), .sc (.string (⟨#[]⟩)), .nl, .sc (.string (⟨#[]⟩)), .sc (.int .i64 0), .sc (.bool false), .sc (.int .i64 0), .sc (.bool false), .sc (.string (⟨#[]⟩)), .nl, .sc (.int .i64 0), .sc (.bool false), .sc (.bool false), .sc (.string (⟨#[]⟩)), .sc (.bool false), .nl, .sc (.int .i64 0), .sc (.bool false), .nl, .nl, .nl]) s7 (.here) (cells_leaf rfl) rfl (Nat.le_of_ble_eq_true rfl) rfl fun H s74 => ?_
           refine g_fadr (o' := 24) rfl ?_
           refine g_ld (c := intsC p.fCodes) s74 (.there (.there (.here))) rfl ?_
           refine g_fadr (o' := 24) rfl ?_
           refine g_st (cs' := [.sc (.int .i64 p.fType), .sc (.bool false), .sc (.int .i64 0), .sc (.bool false), .sc (.int .i64 p.fId), .sc (.string (⟨#[]⟩)), .nl, .sc (.string (⟨#[]⟩)), .sc (.int .i64 0), .sc (.bool false), .sc (.int .i64 0), .sc (.bool false), .sc (.string (⟨#[]⟩)), .nl, .sc (.int .i64 0), .sc (.bool false), .sc (.bool false), .sc (.string (⟨#[]⟩)), .sc (.bool false), .nl, .sc (.int .i64 0), .sc (.bool false), .nl, .nl, intsC p.fCodes]) s74 (.here) (cells_leaf rfl) rfl (Nat.le_of_ble_eq_true rfl) rfl fun H s75 => ?_
           refine g_ldW s75 (.here) rfl ?_
           refine g_st (cs' := [.sc (.int .i64 p.fType), .sc (.bool false), .sc (.int .i64 0), .sc (.bool false), .sc (.int .i64 p.fId), .sc (.string (⟨#[]⟩)), .nl, .sc (.string (⟨#[]⟩)), .sc (.int .i64 0), .sc (.bool false), .sc (.int .i64 0), .sc (.bool false), .sc (.string (⟨#[]⟩)), .nl, .sc (.int .i64 0), .sc (.bool false), .sc (.bool false), .sc (.string (⟨#[]⟩)), .sc (.bool false), .nl, .sc (.int .i64 0), .sc (.bool false), .nl, .nl, intsC p.fCodes]) s75 (.there (.here)) (cells_agg (lf_c rfl (lf_c rfl (lf_c rfl (lf_c rfl (lf_c rfl (lf_c rfl (lf_c rfl (lf_c rfl (lf_c rfl (lf_c rfl (lf_c rfl (lf_c rfl (lf_c rfl (lf_c rfl (lf_c rfl (lf_c rfl (lf_c rfl (lf_c rfl (lf_c rfl (lf_c rfl (lf_c rfl (lf_c rfl (lf_c rfl (lf_c rfl (lf_c rfl rfl)))))))))))))))))))))))))) rfl (Nat.le_of_ble_eq_true rfl) rfl fun H s76 => ?_
           refine g_ldW s76 (.here) rfl ?_
           have e : vNamed true p = (⟨p.fType, false, 0, false, p.fId, ⟨#[]⟩, ⟨#[]⟩, ⟨#[]⟩, 0, false, 0, false, ⟨#[]⟩, ⟨#[]⟩, 0, false, false, ⟨#[]⟩, false, ⟨#[]⟩, 0, false, [], [], p.fCodes⟩ : PacketV) := by
            clear hk s0 s2 s4 s6 s7 s74 s75 s76
            simp only [decide_eq_true_eq, decide_eq_false_iff_not] at h8 h37 h44 h54 h57 h60 h63 h66 h69 h73
            simp [vNamed, nmWill, nmUser, pktT, h8, h37, h44, h54, h57, h60, h63, h66, h69, h73]
           rw [e] at hk
           exact hk _ _ (fun L' => (.cons .sc (.cons .sc (.cons .sc (.cons .sc (.cons .sc (.cons .sc (.cons .nl (.cons .sc (.cons .sc (.cons .sc (.cons .sc (.cons .sc (.cons .sc (.cons .nl (.cons .sc (.cons .sc (.cons .sc (.cons .sc (.cons .sc (.cons .nl (.cons .sc (.cons .sc (.cons .nl (.cons .nl (.cons .ro .nil)))))))))))))))))))))))))) s76.tail.tail.tail
          ·refine g_cF h73 ?_
           refine g_eql ?_
           refine w_split ((decide (p.fType = 10))) (fun h77 => ?_) (fun h77 => ?_)
           ·refine g_cT h77 ?_
            refine g_fadr (o' := 4) rfl ?_
            refine g_ld (c := .sc (.int .i64 p.fId)) s7 (.there (.there (.here))) rfl ?_
            refine g_fadr (o' := 4) rfl ?_
            refine g_st (cs' := [.sc (.int .i64 p.fType), .sc (.bool false), .sc (.int .i64 0), .sc (.bool false), .sc (.int .i64 p.fId), .sc (.string (⟨#[]⟩)), .nl, .sc (.string (⟨#[]⟩)), .sc (.int .i64 0), .sc (.bool false), .sc (.int .i64 0), .sc (.bool false), .sc (.string (⟨#[]⟩)), .nl, .sc (.int .i64 0), .sc (.bool false), .sc (.bool false), .sc (.string (⟨#[]⟩)), .sc (.bool false), .nl, .sc (.int .i64 0), .sc (.bool false), .nl, .nl, .nl]) s7 (.here) (cells_leaf rfl) rfl (Nat.le_of_ble_eq_true rfl) rfl fun H s78 => ?_
            refine g_fadr (o' := 23) rfl ?_
            refine g_ld (c := strsC p.fNames) s78 (.there (.there (.here))) rfl ?_
            refine g_fadr (o' := 23) rfl ?_
            refine g_st (cs' := [.sc (.int .i64 p.fType), .sc (.bool false), .sc (.int .i64 0), .sc (.bool false), .sc (.int .i64 p.fId), .sc (.string (⟨#[]⟩)), .nl, .sc (.string (⟨#[]⟩)), .sc (.int .i64 0), .sc (.bool false), .sc (.int .i64 0), .sc (.bool false), .sc (.string (⟨#[]⟩)), .nl, .sc (.int .i64 0), .sc (.bool false), .sc (.bool false), .sc (.string (⟨#[]⟩)), .sc (.bool false), .nl, .sc (.int .i64 0), .sc (.bool false), .nl, strsC p.fNames, .nl]) s78 (.here) (cells_leaf rfl) rfl (Nat.le_of_ble_eq_true rfl) rfl fun H s79 => ?_
            refine g_ldW s79 (.here) rfl ?_
            refine g_st (cs' := [.sc (.int .i64 p.fType), .sc (.bool false), .sc (.int .i64 0), .sc (.bool false), .sc (.int .i64 p.fId), .sc (.string (⟨#[]⟩)), .nl, .sc (.string (⟨#[]⟩)), .sc (.int .i64 0), .sc (.bool false), .sc (.int .i64 0), .sc (.bool false), .sc (.string (⟨#[]⟩)), .nl, .sc (.int .i64 0), .sc (.bool false), .sc (.bool false), .sc (.string (⟨#[]⟩)), .sc (.bool false), .nl, .sc (.int .i64 0), .sc (.bool false), .nl, strsC p.fNames, .nl]) s79 (.there (.here)) (cells_agg (lf_c rfl (lf_c rfl (lf_c rfl (lf_c rfl (lf_c rfl (lf_c rfl (lf_c rfl (lf_c rfl (lf_c rfl (lf_c rfl (lf_c rfl (lf_c rfl (lf_c rfl (lf_c rfl (lf_c rfl (lf_c rfl (lf_c rfl (lf_c rfl (lf_c rfl (lf_c rfl (lf_c rfl (lf_c rfl (lf_c rfl (lf_c rfl (lf_c rfl rfl)))))))))))))))))))))))))) rfl (Nat.le_of_ble_eq_true rfl) rfl fun H s80 => ?_
            refine g_ldW s80 (.here) rfl ?_
            have e : vNamed true p = (⟨p.fType, false, 0, false, p.fId, ⟨#[]⟩, ⟨#[]⟩, ⟨#[]⟩, 0, false, 0, false, ⟨#[]⟩, ⟨#[]⟩, 0, false, false, ⟨#[]⟩, false, ⟨#[]⟩, 0, false, [], p.fNames, []⟩ : PacketV) := by
             clear hk s0 s2 s4 s6 s7 s78 s79 s80
             simp only [decide_eq_true_eq, decide_eq_false_iff_not] at h8 h37 h44 h54 h57 h60 h63 h66 h69 h73 h77
             simp [vNamed, nmWill, nmUser, pktT, h8, h37, h44, h54, h57, h60, h63, h66, h69, h73, h77]
            rw [e] at hk
            exact hk _ _ (fun L' => (.cons .sc (.cons .sc (.cons .sc (.cons .sc (.cons .sc (.cons .sc (.cons .nl (.cons .sc (.cons .sc (.cons .sc (.cons .sc (.cons .sc (.cons .sc (.cons .nl (.cons .sc (.cons .sc (.cons .sc (.cons .sc (.cons .sc (.cons .nl (.cons .sc (.cons .sc (.cons .nl (.cons .ro (.cons .nl .nil)))))))))))))))))))))))))) s80.tail.tail.tail
           ·refine g_cF h77 ?_
            refine g_ldW s7 (.here) rfl ?_
            refine g_st (cs' := [.sc (.int .i64 p.fType), .sc (.bool false), .sc (.int .i64 0), .sc (.bool false), .sc (.int .i64 0), .sc (.string (⟨#[]⟩)), .nl, .sc (.string (⟨#[]⟩)), .sc (.int .i64 0), .sc (.bool false), .sc (.int .i64 0), .sc (.bool false), .sc (.string (⟨#[]⟩)), .nl, .sc (.int .i64 0), .sc (.bool false), .sc (.bool false), .sc (.string (⟨#[]⟩)), .sc (.bool false), .nl, .sc (.int .i64 0), .sc (.bool false), .nl, .nl, .nl]) s7 (.there (.here)) (cells_agg (lf_c rfl (lf_c rfl (lf_c rfl (lf_c rfl (lf_c rfl (lf_c rfl (lf_c rfl (lf_c rfl (lf_c rfl (lf_c rfl (lf_c rfl (lf_c rfl (lf_c rfl (lf_c rfl (lf_c rfl (lf_c rfl (lf_c rfl (lf_c rfl (lf_c rfl (lf_c rfl (lf_c rfl (lf_c rfl (lf_c rfl (lf_c rfl (lf_c rfl rfl)))))))))))))))))))))))))) rfl (Nat.le_of_ble_eq_true rfl) rfl fun H s81 => ?_
            refine g_ldW s81 (.here) rfl ?_
            have e : vNamed true p = (⟨p.fType, false, 0, false, 0, ⟨#[]⟩, ⟨#[]⟩, ⟨#[]⟩, 0, false, 0, false, ⟨#[]⟩, ⟨#[]⟩, 0, false, false, ⟨#[]⟩, false, ⟨#[]⟩, 0, false, [], [], []⟩ : PacketV) := by
             clear hk s0 s2 s4 s6 s7 s81
             simp only [decide_eq_true_eq, decide_eq_false_iff_not] at h8 h37 h44 h54 h57 h60 h63 h66 h69 h73 h77
             simp [vNamed, nmWill, nmUser, pktT, h8, h37, h44, h54, h57, h60, h63, h66, h69, h73, h77]
            rw [e] at hk
            exact hk _ _ (fun L' => (.cons .sc (.cons .sc (.cons .sc (.cons .sc (.cons .sc (.cons .sc (.cons .nl (.cons .sc (.cons .sc (.cons .sc (.cons .sc (.cons .sc (.cons .sc (.cons .nl (.cons .sc (.cons .sc (.cons .sc (.cons .sc (.cons .sc (.cons .nl (.cons .sc (.cons .sc (.cons .nl (.cons .nl (.cons .nl .nil)))))))))))))))))))))))))) s81.tail.tail.tail
end Go.Proofs.YtejjggnchdldoaaDoor.Abs
set_option linter.unusedVariables false
namespace Go.Proofs.YtejjggnchdldoaaDoor.Abs
open Go
def pkt0 : PacketV := ⟨0, false, 0, false, 0, ⟨#[]⟩, ⟨#[]⟩, ⟨#[]⟩, 0, false, 0, false, ⟨#[]⟩, ⟨#[]⟩, 0, false, false, ⟨#[]⟩, false, ⟨#[]⟩, 0, false, [], [], []⟩
end Go.Proofs.YtejjggnchdldoaaDoor.Abs
