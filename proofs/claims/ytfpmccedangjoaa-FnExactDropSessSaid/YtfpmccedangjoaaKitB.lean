/- Structures that are measured, copied and compared, field by field. -/
import Derived.Test.YtfpmccedangjoaaKit
set_option linter.unusedVariables false
set_option linter.unusedSimpArgs false
namespace Go.Proofs.Ytfpmccedangjoaa.Abs
open Go

variable {β : Type} {n : Nat}

theorem box_fl (cs : List AV) (H : Heap) (k : AV → Heap → Option β) (h : cs.all isFl = true) : pBox (.agg cs) H k = k (.ptr H.length 0) (H ++ [⟨cs, true, true⟩]) := by
  rw [pBox, fl_cells h]
  rfl
theorem ldT {m id off : Nat} {H : Heap} {cs : List AV} (h : rdCells H id off m = some cs) (k : AV → Option β) : pLoad true m (.ptr id off) H k = k (.agg cs) := by
  simp only [pLoad, h, Option.bind_some, if_true]
theorem ldF {id off : Nat} {H : Heap} {c : AV} (h : rdCells H id off 1 = some [c]) (k : AV → Option β) : pLoad false 1 (.ptr id off) H k = k c := by
  simp only [pLoad, h, Option.bind_some, Bool.false_eq_true, if_false, one]

/-! A structure that is filled: what is filled so far, then zeros. -/
noncomputable def FrB (b0 b1 : Blk) (ts : List Nat) (cs z : List AV) : Heap := b0 :: b1 :: ⟨(instL ti0 E0.tp 3 ts cs).1 ++ z, true, true⟩ :: (instL ti0 E0.tp 3 ts cs).2

theorem fr_put {b0 b1 : Blk} {ts : List Nat} {cs z0 z : List AV} {w o : Nat} {y : AV} {ys : List AV} {B : List Blk} {ts' : List Nat} {cs' : List AV} (hl : ts.length = cs.length) (ho : o = cs.length) (hw : z0.length = w) (hc : cellsA y = some ys) (hy : ys.length = w)
    (hB : instL ti0 E0.tp (3 + (instL ti0 E0.tp 3 ts cs).2.length) ts' cs' = (ys, B)) (K : Heap → Option β) :
    pStore w (.ptr 2 o) y (FrB b0 b1 ts cs (z0 ++ z) ++ B) K = K (FrB b0 b1 (ts ++ ts') (cs ++ cs') z) := by
  have hP : (instL ti0 E0.tp 3 ts cs).1.length = cs.length := instL_len _ _ _
  rw [st_at w 2 o y ⟨(instL ti0 E0.tp 3 ts cs).1 ++ (z0 ++ z), true, true⟩ ys _ _ rfl hc hy (by simp [hP, ho, hw]) rfl]
  congr 1
  have hs : splice ((instL ti0 E0.tp 3 ts cs).1 ++ (z0 ++ z)) o ys = (instL ti0 E0.tp 3 ts cs).1 ++ (ys ++ z) := by
    rw [ho, ← hP]
    exact splice_mid _ _ _ _ (by rw [hw, hy])
  simp only [FrB, List.cons_append, List.set_cons_succ, List.set_cons_zero, hs, instL_append ts cs ts' cs' 3 hl, hB, List.append_assoc]

theorem to_sc {b0 b1 : Blk} {ts : List Nat} {cs z z' : List AV} {o : Nat} {t : Nat} {v : Value} {c : AV} {K : Heap → Option β} {r : Option β} (hr : rdCells (FrB b0 b1 ts cs z) 0 o 1 = some [.sc v]) (hv : leafV v = true) (hl : ts.length = cs.length) (ho : o = cs.length) (hz : z = c :: z')
    (h : K (FrB b0 b1 (ts ++ [t]) (cs ++ [.sc v]) z') = r) :
    (pFadr o (.ptr 0 0) fun t4 => pLoad false 1 t4 (FrB b0 b1 ts cs z) fun t5 => pFadr o (.ptr 2 0) fun t6 => pStore 1 t6 t5 (FrB b0 b1 ts cs z) fun H => K H) = r := by
  subst hz
  simp only [pFadr, Nat.zero_add]
  rw [ldF hr]
  have := fr_put (β := β) (b0 := b0) (b1 := b1) (ts := ts) (cs := cs) (z0 := [c]) (z := z') (w := 1) (o := o) (y := .sc v) (ys := [.sc v]) (B := []) (ts' := [t]) (cs' := [.sc v]) hl ho rfl (by simp only [cellsA, isLeaf, hv, if_true]) rfl (by simp [instL, instT]) K
  rw [List.append_nil] at this
  exact this.trans h

theorem to_ro {b0 b1 : Blk} {ts : List Nat} {cs z z' : List AV} {o t g len : Nat} {c : AV} {cells : List AV} {K : Heap → Option β} {r : Option β} (hr : rdCells (FrB b0 b1 ts cs z) 0 o 1 = some [.ro len cells]) (hh : plainF g = false) (ht : tree E0 n t g [.ro len cells] = some (.ro len cells)) (hl : ts.length = cs.length) (ho : o = cs.length) (hz : z = c :: z')
    (h : K (FrB b0 b1 (ts ++ [t]) (cs ++ [.ro len cells]) z') = r) :
    (pFadr o (.ptr 0 0) fun t4 => pLoad false 1 t4 (FrB b0 b1 ts cs z) fun t5 => (PR n β).call t (.fn g [] []) [t5] (FrB b0 b1 ts cs z) fun t9 H => pFadr o (.ptr 2 0) fun t6 => pStore 1 t6 t9 H fun H => K H) = r := by
  subst hz
  simp only [pFadr, Nat.zero_add]
  rw [ldF hr, PR_call (vs := [.ro len cells]) hh (by simp only [List.mapM_cons, viewV_ro]; rfl) ht]
  have hH : (FrB b0 b1 ts cs (c :: z')).length = 3 + (instL ti0 E0.tp 3 ts cs).2.length := by simp [FrB]; omega
  rw [hH]
  have hi : ∀ N, ∃ s : AV, isLeaf s = true ∧ (instT ti0 E0.tp N t (.ro len cells)).1 = s ∧ cellsA s = some [s] := fun N => by
    refine ⟨_, ?_, rfl, ?_⟩ <;> simp [instT, isLeaf, cellsA]
  obtain ⟨s, _, hs, hc⟩ := hi (3 + (instL ti0 E0.tp 3 ts cs).2.length)
  have := fr_put (β := β) (b0 := b0) (b1 := b1) (ts := ts) (cs := cs) (z0 := [c]) (z := z') (w := 1) (o := o) (y := s) (ys := [s]) (ts' := [t]) (cs' := [.ro len cells]) (B := (instT ti0 E0.tp (3 + (instL ti0 E0.tp 3 ts cs).2.length) t (.ro len cells)).2) hl ho rfl hc rfl (by simp only [instL, List.headD_cons, List.append_nil, hs]) K
  rw [hs]
  exact this.trans h

theorem to_agg {b0 b1 : Blk} {ts cty : List Nat} {cs z z0 z' : List AV} {o t g w : Nat} {cells : List AV} {K : Heap → Option β} {r : Option β} (hr : rdCells (FrB b0 b1 ts cs z) 0 o w = some cells) (hh : plainF g = false) (hfl : cells.all isFl = true) (ht : tree E0 n t g [.agg cells] = some (.agg cells)) (hty : ∃ i, ti0 t = some i ∧ i.cty = cty) (hw : cells.length = w) (hl : ts.length = cs.length) (ho : o = cs.length) (hz : z = z0 ++ z') (hz0 : z0.length = w)
    (h : K (FrB b0 b1 (ts ++ cty) (cs ++ cells) z') = r) :
    (pFadr o (.ptr 0 0) fun t4 => pLoad true w t4 (FrB b0 b1 ts cs z) fun t5 => (PR n β).call t (.fn g [] []) [t5] (FrB b0 b1 ts cs z) fun t9 H => pFadr o (.ptr 2 0) fun t6 => pStore w t6 t9 H fun H => K H) = r := by
  subst hz
  obtain ⟨i, hi, rfl⟩ := hty
  simp only [pFadr, Nat.zero_add]
  rw [ldT hr, PR_call (vs := [.agg cells]) hh (by rw [List.mapM_cons, (Vw_agg _ hfl).now]; rfl) ht]
  have hH : (FrB b0 b1 ts cs (z0 ++ z')).length = 3 + (instL ti0 E0.tp 3 ts cs).2.length := by simp [FrB]; omega
  rw [hH, instT_agg, hi, Option.getD_some]
  have hleaf := instL_leaf (ti := ti0) (tp := E0.tp) cells (3 + (instL ti0 E0.tp 3 ts cs).2.length) i.cty hfl
  have hlen := instL_len (ti := ti0) (tp := E0.tp) (3 + (instL ti0 E0.tp 3 ts cs).2.length) i.cty cells
  have := fr_put (β := β) (b0 := b0) (b1 := b1) (ts := ts) (cs := cs) (z0 := z0) (z := z') (w := w) (o := o) (y := .agg (instL ti0 E0.tp (3 + (instL ti0 E0.tp 3 ts cs).2.length) i.cty cells).1) (ys := (instL ti0 E0.tp (3 + (instL ti0 E0.tp 3 ts cs).2.length) i.cty cells).1) (ts' := i.cty) (cs' := cells) (B := (instL ti0 E0.tp (3 + (instL ti0 E0.tp 3 ts cs).2.length) i.cty cells).2) hl ho hz0 (by
    show (if _ then _ else none) = _
    rw [if_pos hleaf]) (by rw [hlen, hw]) rfl K
  exact this.trans h

theorem to_end {b0 : Blk} {z1 cells : List AV} {cty : List Nat} {w ty : Nat} (hw : cells.length = w) (hz : z1.length = w) (hfl : cells.all isFl = true) (hty : ∃ i, ti0 ty = some i ∧ i.cty = cty) (hok : okLW (okW ti0 E0.tp 7) cty cells) :
    (pLoad true w (.ptr 2 0) (FrB b0 ⟨z1, true, true⟩ cty cells []) fun t14 => pStore w (.ptr 1 0) t14 (FrB b0 ⟨z1, true, true⟩ cty cells []) fun H => pLoad true w (.ptr 1 0) H fun r0 => ownTree ti0 E0.tp ty H r0) = some (.agg cells) := by
  obtain ⟨i, hi, rfl⟩ := hty
  have hlen := instL_len (ti := ti0) (tp := E0.tp) 3 i.cty cells
  have hleaf := instL_leaf (ti := ti0) (tp := E0.tp) cells 3 i.cty hfl
  have h1 : rdCells (FrB b0 ⟨z1, true, true⟩ i.cty cells []) 2 0 w = some (instL ti0 E0.tp 3 i.cty cells).1 := by
    simp [rdCells, FrB, hlen, hw, List.take_of_length_le]
  rw [ldT h1]
  have hc : cellsA (.agg (instL ti0 E0.tp 3 i.cty cells).1) = some (instL ti0 E0.tp 3 i.cty cells).1 := by
    show (if _ then _ else none) = _
    rw [if_pos hleaf]
  rw [st_at w 1 0 _ ⟨z1, true, true⟩ _ _ _ rfl hc (by rw [hlen, hw]) (by simp [hz]) rfl]
  have hs : splice z1 0 (instL ti0 E0.tp 3 i.cty cells).1 = (instL ti0 E0.tp 3 i.cty cells).1 := by
    unfold splice
    rw [List.take_zero, List.nil_append, List.drop_of_length_le (by rw [hlen, hw, hz]; omega), List.append_nil]
  simp only [hs]
  have h2 : rdCells ((FrB b0 ⟨z1, true, true⟩ i.cty cells []).set 1 ⟨(instL ti0 E0.tp 3 i.cty cells).1, true, true⟩) 1 0 w = some (instL ti0 E0.tp 3 i.cty cells).1 := by
    simp [rdCells, FrB, hlen, hw, List.take_of_length_le]
  rw [ldT h2]
  have hok' : okW ti0 E0.tp 8 ty (.agg cells) := ⟨i, hi, hok⟩
  have := own_ret [b0, ⟨(instL ti0 E0.tp 3 i.cty cells).1, true, true⟩, ⟨(instL ti0 E0.tp 3 i.cty cells).1 ++ [], true, true⟩] ty _ hok'
  rw [instT_agg, hi] at this
  exact this

/-! The same, by the place that is come to. -/
noncomputable def StB (T : List Nat) (C Z : List AV) (o : Nat) : Heap := FrB ⟨C, true, true⟩ ⟨Z, true, true⟩ (T.take o) (C.take o) (Z.drop o)
theorem StB_rd {T : List Nat} {C Z : List AV} {o p w : Nat} {cs : List AV} (h : (C.drop p).take w = cs) (hl : cs.length = w) (hw : 0 < w) : rdCells (StB T C Z o) 0 p w = some cs := by
  have hle : p + w ≤ C.length := by
    have := congrArg List.length h
    rw [hl, List.length_take, List.length_drop] at this
    omega
  show (match (some ⟨C, true, true⟩ : Option Blk) with | some b => if b.live then (if p + w ≤ b.cells.length then some ((b.cells.drop p).take w) else none) else none | none => none) = _
  simp only [if_true, hle, h]
theorem one_of {C : List AV} {o : Nat} {c : AV} (h : C[o]? = some c) : (C.drop o).take 1 = [c] := by
  obtain ⟨hlt, e⟩ := List.getElem?_eq_some_iff.1 h
  rw [List.drop_eq_getElem_cons hlt, e]
  rfl
theorem take_w {α : Type} {T : List α} {o w o' : Nat} {c : List α} (h : (T.drop o).take w = c) (ho : o' = o + w) : T.take o' = T.take o ++ c := by
  rw [ho, List.take_add, h]

theorem st_sc {T : List Nat} {C Z : List AV} {o o' : Nat} {v : Value} {K : Heap → Option β} {r : Option β} (hT : T.length = C.length) (hZ : Z.length = C.length) (hC : C[o]? = some (.sc v)) (hv : leafV v = true) (ho : o' = o + 1) (h : K (StB T C Z o') = r) :
    (pFadr o (.ptr 0 0) fun t4 => pLoad false 1 t4 (StB T C Z o) fun t5 => pFadr o (.ptr 2 0) fun t6 => pStore 1 t6 t5 (StB T C Z o) fun H => K H) = r := by
  obtain ⟨hlt, _⟩ := List.getElem?_eq_some_iff.1 hC
  have hz : Z.drop o = Z[o]'(by omega) :: Z.drop o' := by rw [ho]; exact List.drop_eq_getElem_cons _
  refine to_sc (t := T[o]'(by omega)) (z' := Z.drop o') (StB_rd (one_of hC) rfl (by decide)) hv (by simp [hT]) (by simp; omega) hz ?_
  have e1 : T.take o' = T.take o ++ [T[o]'(by omega)] := take_w (w := 1) (by rw [List.drop_eq_getElem_cons (by omega)]; rfl) ho
  have e2 : C.take o' = C.take o ++ [.sc v] := take_w (one_of hC) ho
  rw [← e1, ← e2]
  exact h
theorem st_ro {T : List Nat} {C Z : List AV} {o o' t g len : Nat} {cells : List AV} {K : Heap → Option β} {r : Option β} (hT : T.length = C.length) (hZ : Z.length = C.length) (hC : C[o]? = some (.ro len cells)) (hTt : T[o]? = some t) (hh : plainF g = false) (ht : tree E0 n t g [.ro len cells] = some (.ro len cells)) (ho : o' = o + 1) (h : K (StB T C Z o') = r) :
    (pFadr o (.ptr 0 0) fun t4 => pLoad false 1 t4 (StB T C Z o) fun t5 => (PR n β).call t (.fn g [] []) [t5] (StB T C Z o) fun t9 H => pFadr o (.ptr 2 0) fun t6 => pStore 1 t6 t9 H fun H => K H) = r := by
  obtain ⟨hlt, _⟩ := List.getElem?_eq_some_iff.1 hC
  obtain ⟨hlt2, hTe⟩ := List.getElem?_eq_some_iff.1 hTt
  have hz : Z.drop o = Z[o]'(by omega) :: Z.drop o' := by rw [ho]; exact List.drop_eq_getElem_cons _
  refine to_ro (z' := Z.drop o') (StB_rd (one_of hC) rfl (by decide)) hh ht (by simp [hT]) (by simp; omega) hz ?_
  have e1 : T.take o' = T.take o ++ [t] := take_w (w := 1) (by rw [List.drop_eq_getElem_cons hlt2, hTe]; rfl) ho
  have e2 : C.take o' = C.take o ++ [.ro len cells] := take_w (one_of hC) ho
  rw [← e1, ← e2]
  exact h
theorem st_agg {T cty : List Nat} {C Z : List AV} {o o' t g w : Nat} {cells : List AV} {K : Heap → Option β} {r : Option β} (hT : T.length = C.length) (hZ : Z.length = C.length) (hC : (C.drop o).take w = cells) (hTt : (T.drop o).take w = cty) (hh : plainF g = false) (hfl : cells.all isFl = true) (ht : tree E0 n t g [.agg cells] = some (.agg cells)) (hty : ∃ i, ti0 t = some i ∧ i.cty = cty) (hw : cells.length = w) (hw0 : 0 < w) (ho : o' = o + w) (h : K (StB T C Z o') = r) :
    (pFadr o (.ptr 0 0) fun t4 => pLoad true w t4 (StB T C Z o) fun t5 => (PR n β).call t (.fn g [] []) [t5] (StB T C Z o) fun t9 H => pFadr o (.ptr 2 0) fun t6 => pStore w t6 t9 H fun H => K H) = r := by
  have hle : o + w ≤ C.length := by
    have := congrArg List.length hC
    rw [hw, List.length_take, List.length_drop] at this
    omega
  have hz : Z.drop o = (Z.drop o).take w ++ Z.drop o' := by
    rw [ho]
    conv => lhs; rw [← List.take_append_drop w (Z.drop o)]
    rw [List.drop_drop]
  refine to_agg (z0 := (Z.drop o).take w) (z' := Z.drop o') (StB_rd hC hw hw0) hh hfl ht hty hw (by simp [hT]) (by simp; omega) hz (by simp; omega) ?_
  have e1 : T.take o' = T.take o ++ cty := take_w hTt ho
  have e2 : C.take o' = C.take o ++ cells := take_w hC ho
  rw [← e1, ← e2]
  exact h
theorem st_end {T : List Nat} {C Z : List AV} {w ty : Nat} (hT : T.length = C.length) (hZ : Z.length = C.length) (hw : C.length = w) (hfl : C.all isFl = true) (hty : ∃ i, ti0 ty = some i ∧ i.cty = T) (hok : okLW (okW ti0 E0.tp 7) T C) :
    (pLoad true w (.ptr 2 0) (StB T C Z w) fun t14 => pStore w (.ptr 1 0) t14 (StB T C Z w) fun H => pLoad true w (.ptr 1 0) H fun r0 => ownTree ti0 E0.tp ty H r0) = some (.agg C) := by
  have e : StB T C Z w = FrB ⟨C, true, true⟩ ⟨Z, true, true⟩ T C [] := by
    unfold StB
    rw [List.take_of_length_le (by omega), List.take_of_length_le (by omega), List.drop_of_length_le (by omega)]
  rw [e]
  exact to_end hw (by omega) hfl hty hok

/-! A structure that is compared with itself. -/
theorem eq_sc {o : Nat} {H : Heap} {v : Value} {A K r : Option β} (h0 : rdCells H 0 o 1 = some [.sc v]) (h1 : rdCells H 1 o 1 = some [.sc v]) (hv : ∀ k : AV → Option β, pBin .neq (.sc v) (.sc v) k = k (.sc (.bool false))) (h : K = r) :
    (pFadr o (.ptr 0 0) fun t5 => pLoad false 1 t5 H fun t6 => pFadr o (.ptr 1 0) fun t7 => pLoad false 1 t7 H fun t8 => pBin .neq t6 t8 fun t9 => pCond t9 A K) = r := by
  simp only [pFadr, Nat.zero_add]
  rw [ldF h0, ldF h1, hv, cond_b]
  exact h
theorem eq_b {o : Nat} {H : Heap} {b : Bool} {A K r : Option β} (h0 : rdCells H 0 o 1 = some [.sc (.bool b)]) (h1 : rdCells H 1 o 1 = some [.sc (.bool b)]) (h : K = r) :
    (pFadr o (.ptr 0 0) fun t5 => pLoad false 1 t5 H fun t6 => pFadr o (.ptr 1 0) fun t7 => pLoad false 1 t7 H fun t8 => pBinB .neq t6 t8 fun t9 => pCond t9 A K) = r := by
  simp only [pFadr, Nat.zero_add]
  rw [ldF h0, ldF h1]
  simp only [pBinB, asB, Option.bind_some, binB, beq_self_eq_true, Bool.not_true]
  exact h
theorem eq_ro {o tb g : Nat} {H : Heap} {len : Nat} {cells : List AV} {A : Heap → Option β} {K : Heap → Option β} {r : Option β} (h0 : rdCells H 0 o 1 = some [.ro len cells]) (h1 : rdCells H 1 o 1 = some [.ro len cells]) (hh : plainF g = false) (ht : tree E0 n tb g [.ro len cells, .ro len cells] = some (.sc (.bool true))) (h : K H = r) :
    (pFadr o (.ptr 0 0) fun t5 => pLoad false 1 t5 H fun t6 => pFadr o (.ptr 1 0) fun t7 => pLoad false 1 t7 H fun t8 => (PR n β).call tb (.fn g [] []) [t6, t8] H fun t H => pUn .not t fun t9 => pCond t9 (A H) (K H)) = r := by
  simp only [pFadr, Nat.zero_add]
  rw [ldF h0, ldF h1, PR_call (vs := [.ro len cells, .ro len cells]) hh (by simp only [List.mapM_cons, viewV_ro]; rfl) ht, instT_sc, List.append_nil]
  exact h
theorem eq_agg {o tb g w : Nat} {H : Heap} {cells : List AV} {A : Heap → Option β} {K : Heap → Option β} {r : Option β} (h0 : rdCells H 0 o w = some cells) (h1 : rdCells H 1 o w = some cells) (hh : plainF g = false) (hfl : cells.all isFl = true) (ht : tree E0 n tb g [.agg cells, .agg cells] = some (.sc (.bool true))) (h : K H = r) :
    (pFadr o (.ptr 0 0) fun t5 => pLoad true w t5 H fun t6 => pFadr o (.ptr 1 0) fun t7 => pLoad true w t7 H fun t8 => (PR n β).call tb (.fn g [] []) [t6, t8] H fun t H => pUn .not t fun t9 => pCond t9 (A H) (K H)) = r := by
  simp only [pFadr, Nat.zero_add]
  rw [ldT h0, ldT h1, PR_call (vs := [.agg cells, .agg cells]) hh (by simp only [List.mapM_cons, (Vw_agg _ hfl).now]; rfl) ht, instT_sc, List.append_nil]
  exact h
theorem ne_int (z : Int) (k : AV → Option β) : pBin .neq (.sc (.int .i64 z)) (.sc (.int .i64 z)) k = k (.sc (.bool false)) := by
  show k (.sc (.bool (z != z))) = _
  rw [bne_self_eq_false]
theorem ne_str (s : ByteArray) (k : AV → Option β) : pBin .neq (.sc (.string s)) (.sc (.string s)) k = k (.sc (.bool false)) := by
  show k (.sc (.bool (!(s.toList == s.toList)))) = _
  rw [beq_self_eq_true, Bool.not_true]
theorem ne_u8 (z : Int) (k : AV → Option β) : pBin .neq (.sc (.int .u8 z)) (.sc (.int .u8 z)) k = k (.sc (.bool false)) := by
  show k (.sc (.bool (z != z))) = _
  rw [bne_self_eq_false]

/-! A structure that is measured. -/
def szA (W : Nat) (left : Int) : Option AV := some (.sc (.int .i64 (szR W left)))
theorem szR_cut {s W : Nat} {left : Int} (h : left < s) : szR (s + W) left = -1 := by rw [szR, if_pos]; omega
theorem szR_go {s W : Nat} {left : Int} (h : ¬ left < s) : szR (s + W) left = szR W (left - s) := by
  unfold szR
  by_cases h2 : left < ((s + W : Nat) : Int)
  · rw [if_pos h2, if_pos (by omega)]
  · rw [if_neg h2, if_neg (by omega)]; omega
theorem sz_str {o : Nat} {H : Heap} {s : ByteArray} {W : Nat} {left : Int} {A : Option AV} {K : AV → Option AV} (hr : rdCells H 0 o 1 = some [.sc (.string s)]) (h0 : 0 ≤ left) (h1 : left ≤ 1048576) (hs : s.size ≤ 9223372036854775807) (hA : A = some (.sc (.int .i64 (-1)))) (hK : 0 ≤ left - s.size → left - s.size ≤ 1048576 → K (.sc (.int .i64 (left - s.size))) = szA W (left - s.size)) :
    (pFadr o (.ptr 0 0) fun t6 => pLoad false 1 t6 H fun t7 => pLenS t7 fun t8 => pBin .sub (.sc (.int .i64 left)) t8 fun t9 => pBin .lss t9 (.sc (.int .i64 0)) fun t11 => pCond t11 A (K t9)) = szA (s.size + W) left := by
  simp only [pFadr, Nat.zero_add]
  rw [ldF hr]
  simp only [pLenS, asS, Option.bind_some]
  rw [sub64 _ _ _ (by omega) (by omega), lss64, cond_b]
  by_cases h : left < s.size
  · rw [if_pos (by simpa using (show left - (s.size : Int) < 0 by omega)), hA, szA, szR_cut h]
  · rw [if_neg (by simpa using (show ¬ left - (s.size : Int) < 0 by omega)), hK (by omega) (by omega), szA, szA, szR_go h]
theorem sz_ro {o ty g : Nat} {H : Heap} {len : Nat} {cells : List AV} {w W : Nat} {left : Int} {A : Heap → Option AV} {K : AV → Heap → Option AV} (hr : rdCells H 0 o 1 = some [.ro len cells]) (h0 : 0 ≤ left) (h1 : left ≤ 1048576) (hh : plainF g = false) (ht : tree E0 n ty g [.ro len cells, .sc (.int .i64 left)] = some (.sc (.int .i64 (szR w left)))) (hA : A H = some (.sc (.int .i64 (-1)))) (hK : 0 ≤ left - w → left - w ≤ 1048576 → K (.sc (.int .i64 (left - w))) H = szA W (left - w)) :
    (pFadr o (.ptr 0 0) fun t6 => pLoad false 1 t6 H fun t7 => (PR n AV).call ty (.fn g [] []) [t7, .sc (.int .i64 left)] H fun t15 H => pBin .lss t15 (.sc (.int .i64 0)) fun t11 => pCond t11 (A H) (K t15 H)) = szA (w + W) left := by
  simp only [pFadr, Nat.zero_add]
  rw [ldF hr, PR_call (vs := [.ro len cells, .sc (.int .i64 left)]) hh (by simp only [List.mapM_cons, viewV_ro, viewV_sc]; rfl) ht, instT_sc, List.append_nil]
  simp only
  rw [lss64, cond_b]
  by_cases h : left < w
  · have e : szR w left = -1 := by rw [szR, if_pos h]
    rw [e, if_pos (by decide), hA, szA, szR_cut h]
  · have e : szR w left = left - w := by rw [szR, if_neg h]
    rw [e, if_neg (by simpa using (show ¬ left - (w : Int) < 0 by omega)), hK (by omega) (by omega), szA, szA, szR_go h]
theorem sz_agg {o ty g wd : Nat} {H : Heap} {cells : List AV} {w W : Nat} {left : Int} {A : Heap → Option AV} {K : AV → Heap → Option AV} (hr : rdCells H 0 o wd = some cells) (h0 : 0 ≤ left) (h1 : left ≤ 1048576) (hh : plainF g = false) (hfl : cells.all isFl = true) (ht : tree E0 n ty g [.agg cells, .sc (.int .i64 left)] = some (.sc (.int .i64 (szR w left)))) (hA : A H = some (.sc (.int .i64 (-1)))) (hK : 0 ≤ left - w → left - w ≤ 1048576 → K (.sc (.int .i64 (left - w))) H = szA W (left - w)) :
    (pFadr o (.ptr 0 0) fun t6 => pLoad true wd t6 H fun t7 => (PR n AV).call ty (.fn g [] []) [t7, .sc (.int .i64 left)] H fun t15 H => pBin .lss t15 (.sc (.int .i64 0)) fun t11 => pCond t11 (A H) (K t15 H)) = szA (w + W) left := by
  simp only [pFadr, Nat.zero_add]
  rw [ldT hr, PR_call (vs := [.agg cells, .sc (.int .i64 left)]) hh (by simp only [List.mapM_cons, (Vw_agg _ hfl).now, viewV_sc]; rfl) ht, instT_sc, List.append_nil]
  simp only
  rw [lss64, cond_b]
  by_cases h : left < w
  · have e : szR w left = -1 := by rw [szR, if_pos h]
    rw [e, if_pos (by decide), hA, szA, szR_cut h]
  · have e : szR w left = left - w := by rw [szR, if_neg h]
    rw [e, if_neg (by simpa using (show ¬ left - (w : Int) < 0 by omega)), hK (by omega) (by omega), szA, szA, szR_go h]
theorem sz_end {left : Int} (h0 : 0 ≤ left) : some (AV.sc (.int .i64 left)) = szA 0 left := by
  rw [szA, szR, if_neg (by omega)]
  simp

/-! Lists by their cells. -/
abbrev bytesC (s : ByteArray) : AV := .ro s.size (bytesAV s)
abbrev intsC (l : List Int) : AV := .ro l.length (l.map fun z => .sc (.int .i64 z))
abbrev strsC (l : List ByteArray) : AV := .ro l.length (l.map fun s => .sc (.string s))
abbrev rowsC {α : Type} (enc : α → List AV) (l : List α) : AV := .ro l.length (l.map enc).flatten
def okI (z : Int) : Prop := -9223372036854775808 ≤ z ∧ z ≤ 9223372036854775807
def okS (s : ByteArray) : Prop := s.size ≤ 9223372036854775807

theorem okLW_flat {f : Nat → AV → Prop} {α : Type} (e : α → Value) (hf : ∀ t v, f t (.sc v)) : ∀ (ts : List Nat) (l : List α), ts.length = l.length → okLW f ts (l.map fun x => .sc (e x))
  | [], [], _ => trivial
  | t :: ts, x :: l, h => ⟨hf _ _, okLW_flat e hf ts l (by simpa using h)⟩
  | [], _ :: _, h => by simp at h
  | _ :: _, [], h => by simp at h
theorem okW_flat {α : Type} {ty d : Nat} (e : α → Value) (hty : ∃ i j, ti0 ty = some i ∧ ti0 i.elem = some j ∧ j.size = 1 ∧ j.cty.length = 1) (l : List α) : okW ti0 E0.tp (d + 2) ty (.ro l.length (l.map fun x => .sc (e x))) := by
  obtain ⟨i, j, h1, h2, h3, h4⟩ := hty
  exact ⟨i, j, h1, h2, by simp [h3], okLW_flat e (fun _ _ => trivial) _ l (by simp [h4])⟩
theorem okW_bytes {d ty : Nat} (hty : ∃ i j, ti0 ty = some i ∧ ti0 i.elem = some j ∧ j.size = 1 ∧ j.cty.length = 1) (s : ByteArray) : okW ti0 E0.tp (d + 2) ty (bytesC s) := by
  have := okW_flat (d := d) (fun b : UInt8 => .int .u8 b.toNat) hty s.data.toList
  have e : s.data.toList.length = s.size := by simp
  rw [e] at this
  exact this
theorem okW_rows {α : Type} {ty d w : Nat} {cty : List Nat} {enc : α → List AV} (hw : ∀ x, (enc x).length = w) (hty : ∃ i j, ti0 ty = some i ∧ ti0 i.elem = some j ∧ j.size = w ∧ j.cty = cty) (he : ∀ x, okLW (okW ti0 E0.tp d) cty (enc x)) (l : List α) : okW ti0 E0.tp (d + 1) ty (rowsC enc l) := by
  obtain ⟨i, j, h1, h2, h3, rfl⟩ := hty
  exact ⟨i, j, h1, h2, by rw [rows_len hw, h3], okLW_rows l fun x _ => he x⟩

theorem okT_rows {α : Type} {enc : α → List AV} {ok : α → Prop} {n t e : Nat} {cs : List AV} (hi : ∃ i, ti0 t = some i ∧ i.isB = false ∧ i.ik = none ∧ i.isStr = false ∧ i.sl = true ∧ i.elem = e) (hel : ∀ n cs, okT ti0 n e cs → ∃ x, cs = enc x ∧ ok x) (h : okT ti0 n t cs) :
    ∃ l : List α, cs = [rowsC enc l] ∧ l.length ≤ 9223372036854775807 ∧ ∀ x ∈ l, ok x := by
  cases n with
  | zero => cases h
  | succ n =>
    obtain ⟨i, h1, h2, h3, h4, h5, rfl⟩ := hi
    obtain ⟨i', hi', h⟩ := h
    rw [h1] at hi'
    obtain rfl := Option.some.inj hi'
    simp only [h2, h3, h4, h5] at h
    obtain ⟨rows, rfl, hl, hr⟩ := h
    have hm : maxLen = 9223372036854775807 := by decide
    rw [hm] at hl
    have key : ∀ rows : List (List AV), (∀ r ∈ rows, okT ti0 n i.elem r) → ∃ l : List α, rows = l.map enc ∧ ∀ x ∈ l, ok x := by
      intro rows
      induction rows with
      | nil => intro _; exact ⟨[], rfl, fun x h => by cases h⟩
      | cons r rows ih =>
        intro h
        obtain ⟨l, h1, h2⟩ := ih fun r hr => h r (List.mem_cons_of_mem _ hr)
        obtain ⟨x, hx, hox⟩ := hel n r (h r List.mem_cons_self)
        exact ⟨x :: l, by rw [h1, hx]; rfl, fun y hy => by rcases List.mem_cons.1 hy with rfl | hy; exact hox; exact h2 y hy⟩
    obtain ⟨l, rfl, h2⟩ := key rows hr
    exact ⟨l, by simp, by simpa using hl, h2⟩

theorem okT_str' {n : Nat} {cs : List AV} (h : okT ti0 n 9 cs) : ∃ s : ByteArray, cs = [.sc (.string s)] ∧ okS s := by
  cases n with
  | zero => cases h
  | succ n =>
    obtain ⟨i, hi, h⟩ := h
    obtain rfl := Option.some.inj (show some _ = some i from hi)
    have hm : maxLen = 9223372036854775807 := by decide
    obtain ⟨s, h1, h2⟩ := (show ∃ s : ByteArray, cs = [.sc (.string s)] ∧ s.size ≤ maxLen from h)
    exact ⟨s, h1, by rw [hm] at h2; exact h2⟩
theorem okT_int' {n : Nat} {cs : List AV} (h : okT ti0 n 3 cs) : ∃ z : Int, cs = [.sc (.int .i64 z)] ∧ okI z := by
  cases n with
  | zero => cases h
  | succ n =>
    obtain ⟨i, hi, h⟩ := h
    obtain rfl := Option.some.inj (show some _ = some i from hi)
    obtain ⟨z, h1, h2⟩ := (show ∃ z, cs = [.sc (.int .i64 z)] ∧ (Lit.int .i64 z).wf = true from h)
    refine ⟨z, h1, ?_⟩
    have hw' : IntKind.i64.min ≤ z ∧ z ≤ IntKind.i64.max := by simpa [Lit.wf] using h2
    have e1 : IntKind.i64.min = -9223372036854775808 := by decide
    have e2 : IntKind.i64.max = 9223372036854775807 := by decide
    rw [e1, e2] at hw'
    exact hw'
theorem okT_bool' {n : Nat} {cs : List AV} (h : okT ti0 n 4 cs) : ∃ b : Bool, cs = [.sc (.bool b)] := by
  cases n with
  | zero => cases h
  | succ n =>
    obtain ⟨i, hi, h⟩ := h
    obtain rfl := Option.some.inj (show some _ = some i from hi)
    exact h
theorem okT_byte' {n : Nat} {cs : List AV} (h : okT ti0 n 5 cs) : ∃ b : UInt8, cs = [.sc (.int .u8 b.toNat)] := by
  cases n with
  | zero => cases h
  | succ n =>
    obtain ⟨i, hi, h⟩ := h
    obtain rfl := Option.some.inj (show some _ = some i from hi)
    obtain ⟨z, rfl, hw⟩ := (show ∃ z, cs = [.sc (.int .u8 z)] ∧ (Lit.int .u8 z).wf = true from h)
    have hz : 0 ≤ z ∧ z < 256 := by
      have hw' : IntKind.u8.min ≤ z ∧ z ≤ IntKind.u8.max := by simpa [Lit.wf] using hw
      have e1 : IntKind.u8.min = 0 := by decide
      have e2 : IntKind.u8.max = 255 := by decide
      rw [e1, e2] at hw'
      omega
    refine ⟨UInt8.ofNat z.toNat, ?_⟩
    have : (UInt8.ofNat z.toNat).toNat = z.toNat := by simp [UInt8.toNat_ofNat']; omega
    rw [this, Int.toNat_of_nonneg hz.1]
theorem flat_one {α : Type} (e : α → AV) (l : List α) : (l.map fun x => [e x]).flatten = l.map e := by
  induction l with
  | nil => rfl
  | cons x l ih => rw [List.map_cons, List.flatten_cons, ih]; rfl
theorem okT_bytes' {n t : Nat} {cs : List AV} (hi : ∃ i, ti0 t = some i ∧ i.isB = false ∧ i.ik = none ∧ i.isStr = false ∧ i.sl = true ∧ i.elem = 5) (h : okT ti0 n t cs) : ∃ s : ByteArray, cs = [bytesC s] ∧ okS s := by
  obtain ⟨l, rfl, h1, _⟩ := okT_rows (α := UInt8) (enc := fun b => [.sc (.int .u8 b.toNat)]) (ok := fun _ => True) hi (fun n cs h => by obtain ⟨b, h⟩ := okT_byte' h; exact ⟨b, h, trivial⟩) h
  refine ⟨⟨l.toArray⟩, ?_, ?_⟩
  · rw [rowsC, flat_one]
    simp [bytesC, bytesAV]
    rfl
  · exact h1
theorem okT_ints' {n t : Nat} {cs : List AV} (hi : ∃ i, ti0 t = some i ∧ i.isB = false ∧ i.ik = none ∧ i.isStr = false ∧ i.sl = true ∧ i.elem = 3) (h : okT ti0 n t cs) : ∃ l : List Int, cs = [intsC l] ∧ l.length ≤ 9223372036854775807 ∧ ∀ z ∈ l, okI z := by
  obtain ⟨l, rfl, h1, h2⟩ := okT_rows (α := Int) (enc := fun z => [.sc (.int .i64 z)]) (ok := okI) hi (fun n cs h => okT_int' h) h
  exact ⟨l, by rw [rowsC, flat_one], h1, h2⟩
theorem okT_strs' {n t : Nat} {cs : List AV} (hi : ∃ i, ti0 t = some i ∧ i.isB = false ∧ i.ik = none ∧ i.isStr = false ∧ i.sl = true ∧ i.elem = 9) (h : okT ti0 n t cs) : ∃ l : List ByteArray, cs = [strsC l] ∧ l.length ≤ 9223372036854775807 ∧ ∀ s ∈ l, okS s := by
  obtain ⟨l, rfl, h1, h2⟩ := okT_rows (α := ByteArray) (enc := fun s => [.sc (.string s)]) (ok := okS) hi (fun n cs h => okT_str' h) h
  exact ⟨l, by rw [rowsC, flat_one], h1, h2⟩

/-- What a structure's cells are made of, field by field. -/
theorem okT_struct {n t : Nat} {cs : List AV} {fs : List (Nat × Nat)} (hi : ∃ i, ti0 t = some i ∧ i.isB = false ∧ i.ik = none ∧ i.isStr = false ∧ i.sl = false ∧ i.isAgg = true ∧ i.fields = fs) (h : okT ti0 n t cs) : ∃ m, okFs (okT ti0 m) fs cs := by
  cases n with
  | zero => cases h
  | succ n =>
    obtain ⟨i, h1, h2, h3, h4, h5, h6, rfl⟩ := hi
    obtain ⟨i', hi', h⟩ := h
    rw [h1] at hi'
    obtain rfl := Option.some.inj hi'
    simp only [h2, h3, h4, h5, h6] at h
    exact ⟨n, h⟩

end Go.Proofs.Ytfpmccedangjoaa.Abs
