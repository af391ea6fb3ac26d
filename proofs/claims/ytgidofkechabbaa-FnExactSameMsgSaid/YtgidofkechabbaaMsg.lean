/- Bytes that are copied; messages (numbers of the first seat). -/
import Derived.Test.YtgidofkechabbaaBytes
set_option linter.unusedVariables false
set_option linter.unusedSimpArgs false
namespace Go.Proofs.Ytgidofkechabbaa.Abs
open Go

variable {β : Type}

theorem ti29 : ∃ i j, ti0 29 = some i ∧ ti0 i.elem = some j ∧ j.size = 1 ∧ j.cty.length = 1 := ⟨_, _, rfl, rfl, rfl, rfl⟩

theorem rep_len (n : Nat) (l : List Nat) (h : l.length = 1) : (List.replicate n l).flatten.length = n := by
  simp [h]

theorem own_bytes {H : Heap} {d id : Nat} {tp : Nat → Option (List Nat)} {s : ByteArray} (h : H[id]? = some ⟨bytesAV s, true, true⟩) : ownT ti0 tp H (d + 2) 29 (.sl id 0 s.size 1) = some (.ro s.size (bytesAV s), [id]) := by
  obtain ⟨i, j, h1, h2, h3, h4⟩ := ti29
  have e1 : isApp H id = true := by simp [isApp, h]
  have e2 : rdCells H id 0 (s.size * 1) = some (bytesAV s) := by
    have hl := bytesAV_len s
    simp only [rdCells, h, if_true, List.drop_zero, Nat.mul_one, Nat.zero_add]
    rw [if_pos (by omega), ← hl, List.take_length]
  have e3 := ownL_sc (ti := ti0) (tp := tp) (H := H) (d := d) (List.replicate s.size j.cty).flatten (bv s) (by rw [rep_len _ _ h4, bv_len])
  rw [ownT_sl]
  simp only [h1, h2, h3, e1, e2, if_true, Option.bind_some]
  rw [bytesAV_eq, e3]
  rfl

theorem inst_bytes {N : Nat} {tp : Nat → Option (List Nat)} {s : ByteArray} : instT ti0 tp N 29 (.ro s.size (bytesAV s)) = (.sl N 0 s.size 1, [⟨bytesAV s, true, true⟩]) := by
  obtain ⟨i, j, h1, h2, h3, h4⟩ := ti29
  simp only [instT, h1, h2, Option.bind_some, Option.getD_some, h3]
  rw [bytesAV_eq, instL_sc]

theorem view_bytes {H : Heap} {d id z : Nat} {s : ByteArray} (h : H[id]? = some ⟨bytesAV s, true, true⟩) : viewV H (d + 2) (.sl id 0 s.size 1) = some (.ro s.size (bytesAV s)) := by
  have e2 : rdCells H id 0 (s.size * 1) = some (bytesAV s) := by
    have hl := bytesAV_len s
    simp only [rdCells, h, if_true, List.drop_zero, Nat.mul_one, Nat.zero_add]
    rw [if_pos (by omega), ← hl, List.take_length]
  rw [viewV_sl]
  simp only [e2, Option.bind_some]
  rw [bytesAV_eq, mapM_sc]
  rfl

/-- laws.toByteS -/
theorem to_byteS_loop (n : Nat) (s : ByteArray) (hs : s.size ≤ 1048576) (k : AV → Heap → Option β) : ∀ (j : Nat) (m i : Nat), i + j = s.size → j < m →
    f51_l0 (PR n β) n k m (.ro s.size (bytesAV s)) (.sl 0 0 s.size 1) (.sc (.int .i64 i)) [⟨(bytesAV s).take i ++ List.replicate j (.sc (.int .u8 0)), true, true⟩] = k (.sl 0 0 s.size 1) [⟨bytesAV s, true, true⟩]
  | 0, m + 1, i, hi, hm => by
    rw [f51_l0]
    have h : ¬ ((i : Int) < (s.size : Int)) := by omega
    have ht : (bytesAV s).take i = bytesAV s := List.take_of_length_le (by rw [bytesAV_len]; omega)
    simp [pLen, pBin, isSh, binI, pCond, asB, h, ht]
  | j + 1, m + 1, i, hi, hm => by
    rw [f51_l0]
    have h : (i : Int) < (s.size : Int) := by omega
    have h2 : i < s.size := by omega
    have h3 : 1 ≤ s.size - i := by omega
    have hw := wrapI (i + 1) (by omega) (by omega)
    have hl : (bytesAV s).drop i = (bytesAV s)[i]'(by rw [bytesAV_len]; omega) :: (bytesAV s).drop (i + 1) := List.drop_eq_getElem_cons _
    have hb : (bytesAV s)[i]'(by rw [bytesAV_len]; omega) = .sc (.int .u8 (s.data[i]'h2).toNat) := by simp [bytesAV]
    have ih := to_byteS_loop n s hs k j m (i + 1) (by omega) (by omega)
    simp only [Int.natCast_add, Int.cast_ofNat_Int] at ih
    have hsp := splice_next (bytesAV s) i j (.sc (.int .u8 0)) (by rw [bytesAV_len]; omega)
    rw [hb] at hsp
    have hlen2 : i + 1 ≤ ((bytesAV s).take i ++ List.replicate (j + 1) (AV.sc (.int .u8 0))).length := by simp [bytesAV_len]; omega
    have hlen3 : i + 1 ≤ min i s.size + (j + 1) := by omega
    simp [pLen, pBin, isSh, binI, pCond, asB, pIadr, asI, h, pLoad, one, bytesAV_len, h2, h3, hl, hb, hw, pStore, cellsA, isLeaf, leafV, hsp, hlen3]
    exact ih

theorem to_byteS (n : Nat) (s : ByteArray) (hs : s.size ≤ 1048576) (hn : s.size < n) : tree E0 (n + 1) 29 51 [.ro s.size (bytesAV s)] = some (.ro s.size (bytesAV s)) := by
  rw [tree_def, f51_eq, f51]
  have hz : (List.replicate s.size [AV.sc (.int .u8 0)]).flatten = List.replicate s.size (.sc (.int .u8 0)) := by
    generalize s.size = m
    induction m with
    | zero => rfl
    | succ m ih => rw [List.replicate_succ, List.flatten_cons, ih, List.replicate_succ]; rfl
  have h1 : s.size ≤ 140737488355328 := by omega
  have key := to_byteS_loop (β := AV) n s hs (fun x H => ownTree ti0 E0.tp 29 H x) s.size n 0 (by omega) hn
  simp only [Int.natCast_zero, List.take_zero, List.nil_append] at key
  simp [pLen, pMake, asI, pNewSl, hz, h1]
  refine ⟨by omega, key.trans ?_⟩
  have := own_bytes (H := [⟨bytesAV s, true, true⟩]) (d := 6) (id := 0) (tp := E0.tp) (s := s) rfl
  simp only [ownTree, this, Option.bind_some]
  rfl

/-! ## Messages -/
structure MsgV where
  topic : ByteArray
  body : ByteArray
  qos : Int
  retain : Bool

def encMsg (m : MsgV) : List AV := [.sc (.string m.topic), .ro m.body.size (bytesAV m.body), .sc (.int .i64 m.qos), .sc (.bool m.retain)]
/-- A message as it lies in the caller's heap, its body in block N. -/
def lainMsg (N : Nat) (m : MsgV) : List AV := [.sc (.string m.topic), .sl N 0 m.body.size 1, .sc (.int .i64 m.qos), .sc (.bool m.retain)]

theorem cty34 : ∃ i, ti0 34 = some i ∧ i.cty = [9, 29, 3, 4] := ⟨_, rfl, rfl⟩

theorem inst_msg {N : Nat} {tp : Nat → Option (List Nat)} {m : MsgV} : instT ti0 tp N 34 (.agg (encMsg m)) = (.agg (lainMsg N m), [⟨bytesAV m.body, true, true⟩]) := by
  obtain ⟨i, h1, h2⟩ := cty34
  rw [instT_agg]
  simp only [instT_sc, h1, h2, Option.getD_some, encMsg, instL, List.headD_cons, List.tail_cons, List.length_nil, Nat.add_zero, inst_bytes, List.nil_append, List.append_nil, lainMsg]

theorem own_msg {H : Heap} {d id : Nat} {tp : Nat → Option (List Nat)} {m : MsgV} (h : H[id]? = some ⟨bytesAV m.body, true, true⟩) : ownT ti0 tp H (d + 3) 34 (.agg (lainMsg id m)) = some (.agg (encMsg m), [id]) := by
  obtain ⟨i, h1, h2⟩ := cty34
  rw [ownT_agg]
  simp only [h1, h2, lainMsg, ownL, ownT_sc, own_bytes h, Option.bind_some, List.nil_append, List.append_nil, encMsg]

theorem own_tree_msg {H : Heap} {id : Nat} {tp : Nat → Option (List Nat)} {m : MsgV} (h : H[id]? = some ⟨bytesAV m.body, true, true⟩) : ownTree ti0 tp 34 H (.agg (lainMsg id m)) = some (.agg (encMsg m)) := by
  simp only [ownTree, own_msg (d := 5) (tp := tp) h, Option.bind_some]
  rfl

theorem view_msg {H : Heap} {d id : Nat} {m : MsgV} (h : H[id]? = some ⟨bytesAV m.body, true, true⟩) : viewV H (d + 3) (.agg (lainMsg id m)) = some (.agg (encMsg m)) := by
  rw [viewV_agg]
  simp only [lainMsg, List.mapM_cons, List.mapM_nil, viewV_sc, view_bytes (z := 0) h, Option.pure_def, Option.bind_eq_bind, Option.bind_some, encMsg]
theorem view_encMsg {H : Heap} {d : Nat} {m : MsgV} : viewV H (d + 2) (.agg (encMsg m)) = some (.agg (encMsg m)) := by
  rw [viewV_agg]
  simp only [encMsg, List.mapM_cons, List.mapM_nil, viewV_sc, viewV_ro, Option.pure_def, Option.bind_eq_bind, Option.bind_some]

theorem okT_str {n : Nat} {cs : List AV} (h : okT ti0 n 9 cs) : ∃ s : ByteArray, cs = [.sc (.string s)] ∧ s.size ≤ maxLen := by
  cases n with
  | zero => cases h
  | succ n =>
    obtain ⟨i, hi, h⟩ := h
    obtain rfl := Option.some.inj (show some _ = some i from hi)
    exact h
theorem okT_int {n : Nat} {cs : List AV} (h : okT ti0 n 3 cs) : ∃ z : Int, cs = [.sc (.int .i64 z)] ∧ (Lit.int .i64 z).wf = true := by
  cases n with
  | zero => cases h
  | succ n =>
    obtain ⟨i, hi, h⟩ := h
    obtain rfl := Option.some.inj (show some _ = some i from hi)
    exact h
theorem okT_bool {n : Nat} {cs : List AV} (h : okT ti0 n 4 cs) : ∃ b : Bool, cs = [.sc (.bool b)] := by
  cases n with
  | zero => cases h
  | succ n =>
    obtain ⟨i, hi, h⟩ := h
    obtain rfl := Option.some.inj (show some _ = some i from hi)
    exact h
theorem okT_u8 {n : Nat} {cs : List AV} (h : okT ti0 n 5 cs) : ∃ b : UInt8, cs = [.sc (.int .u8 b.toNat)] := by
  cases n with
  | zero => cases h
  | succ n =>
    obtain ⟨i, hi, h⟩ := h
    obtain rfl := Option.some.inj (show some _ = some i from hi)
    obtain ⟨z, rfl, hw⟩ := (show ∃ z, cs = [.sc (.int .u8 z)] ∧ (Lit.int .u8 z).wf = true from h)
    have hz : 0 ≤ z ∧ z < 256 := by
      have hw' : IntKind.u8.min ≤ z ∧ z ≤ IntKind.u8.max := by simpa [Lit.wf] using hw
      have e1 : IntKind.u8.min = 0 := by decide
      have e2 : IntKind.u8.max = 255 := by decide
      rw [e1, e2] at hw'
      omega
    refine ⟨UInt8.ofNat z.toNat, ?_⟩
    have : (UInt8.ofNat z.toNat).toNat = z.toNat := by simp [UInt8.toNat_ofNat']; omega
    rw [this, Int.toNat_of_nonneg hz.1]
theorem okT_bytes {n : Nat} {cs : List AV} (h : okT ti0 n 29 cs) : ∃ s : ByteArray, cs = [.ro s.size (bytesAV s)] ∧ s.size ≤ maxLen := by
  cases n with
  | zero => cases h
  | succ n =>
    obtain ⟨i, hi, h⟩ := h
    obtain rfl := Option.some.inj (show some _ = some i from hi)
    obtain ⟨rows, rfl, hl, hr⟩ := (show ∃ rows : List (List AV), cs = [.ro rows.length rows.flatten] ∧ rows.length ≤ maxLen ∧ ∀ r ∈ rows, okT ti0 n 5 r from h)
    have key : ∀ rows : List (List AV), (∀ r ∈ rows, okT ti0 n 5 r) → ∃ l : List UInt8, rows.flatten = l.map (fun b => AV.sc (.int .u8 b.toNat)) ∧ rows.length = l.length := by
      intro rows
      induction rows with
      | nil => intro _; exact ⟨[], rfl, rfl⟩
      | cons r rows ih =>
        intro h
        obtain ⟨l, h1, h2⟩ := ih fun r hr => h r (List.mem_cons_of_mem _ hr)
        obtain ⟨b, hb⟩ := okT_u8 (h r List.mem_cons_self)
        exact ⟨b :: l, by rw [List.flatten_cons, h1, hb]; rfl, by simp [h2]⟩
    obtain ⟨l, h1, h2⟩ := key rows hr
    refine ⟨⟨l.toArray⟩, ?_, ?_⟩
    · rw [h1, h2]; simp [bytesAV]; rfl
    · rw [h2] at hl; exact hl

theorem okT_msg {n t : Nat} {cs : List AV} (ht : t = 31 ∨ t = 34) (h : okT ti0 n t cs) : ∃ m : MsgV, cs = encMsg m ∧ m.body.size ≤ maxLen ∧ m.topic.size ≤ maxLen := by
  cases n with
  | zero => cases h
  | succ n =>
    have h : okFs (okT ti0 n) [(0, 9), (1, 29), (2, 3), (3, 4)] cs := by
      obtain ⟨i, hi, h⟩ := h
      rcases ht with rfl | rfl
      · obtain rfl := Option.some.inj (show some _ = some i from hi)
        exact h
      · obtain rfl := Option.some.inj (show some _ = some i from hi)
        exact h
    obtain ⟨a, b, rfl, h1, a2, b2, rfl, h2, a3, b3, rfl, h3, a4, b4, rfl, h4, rfl⟩ := h
    obtain ⟨topic, rfl, e1⟩ := okT_str h1
    obtain ⟨body, rfl, e2⟩ := okT_bytes h2
    obtain ⟨qos, rfl, e3⟩ := okT_int h3
    obtain ⟨retain, rfl⟩ := okT_bool h4
    exact ⟨⟨topic, body, qos, retain⟩, rfl, e2, e1⟩

/-- laws.szMsg -/
theorem sz_msg (n ty : Nat) (m : MsgV) (hb : m.body.size ≤ maxLen) (ht : m.topic.size ≤ maxLen) (left : Int) (h0 : 0 ≤ left) (h1 : left ≤ 1048576) :
    ∃ l : Int, tree E0 (n + 2) ty 19 [.agg (encMsg m), .sc (.int .i64 left)] = some (.sc (.int .i64 l)) ∧ (l < 0 ∨ (0 ≤ l ∧ l ≤ left ∧ (m.body.size : Int) ≤ left ∧ (m.topic.size : Int) ≤ left)) := by
  have hm : maxLen = 9223372036854775807 := by decide
  rw [hm] at ht
  rw [tree_def, f19_eq, f19]
  have hw := wrapI (left - m.topic.size) (by omega) (by omega)
  by_cases h : left - (m.topic.size : Int) < 0
  · refine ⟨-1, ?_, .inl (by omega)⟩
    simp [encMsg, pBox, cellsA, isLeaf, leafV, pNew, pFadr, pLoad, rdCells, one, pLenS, asS, pBin, isSh, binI, hw, pCond, asB, h]
  · have hs := sz_byteS n 3 m.body (left - m.topic.size) (by omega) (by omega) hb
    have hc := fun (H : Heap) (k : AV → Heap → Option AV) => PR_call (n := n + 1) (k := k) (H := H) (ty := 3) (f := 49) (args := [.ro m.body.size (bytesAV m.body), .sc (.int .i64 (left - m.topic.size))]) (vs := [.ro m.body.size (bytesAV m.body), .sc (.int .i64 (left - m.topic.size))]) (by rfl) (by simp [viewV_ro, viewV_sc]) hs
    by_cases h2 : left - (m.topic.size : Int) - m.body.size < 0
    · refine ⟨-1, ?_, .inl (by omega)⟩
      simp [encMsg, pBox, cellsA, isLeaf, leafV, pNew, pFadr, pLoad, rdCells, one, pLenS, asS, pBin, isSh, binI, hw, pCond, asB, h, hc, h2, instT_sc]
    · refine ⟨left - m.topic.size - m.body.size, ?_, .inr (by omega)⟩
      simp [encMsg, pBox, cellsA, isLeaf, leafV, pNew, pFadr, pLoad, rdCells, one, pLenS, asS, pBin, isSh, binI, hw, pCond, asB, h, hc, h2, instT_sc]

/-- laws.toMsg -/
theorem to_msg (n : Nat) (m : MsgV) (hb : m.body.size ≤ 1048576) (hn : m.body.size < n) : tree E0 (n + 2) 34 21 [.agg (encMsg m)] = some (.agg (encMsg m)) := by
  rw [tree_def, f21_eq, f21]
  have hc := fun (H : Heap) (k : AV → Heap → Option AV) => PR_call (n := n + 1) (k := k) (H := H) (ty := 29) (f := 51) (args := [.ro m.body.size (bytesAV m.body)]) (vs := [.ro m.body.size (bytesAV m.body)]) (by rfl) (by simp [viewV_ro]) (to_byteS n m.body hb hn)
  simp [encMsg, pBox, cellsA, isLeaf, leafV, pNew, pFadr, pLoad, rdCells, one, pStore, splice, hc, inst_bytes]
  exact own_tree_msg (id := 3) (m := m) rfl

end Go.Proofs.Ytgidofkechabbaa.Abs
