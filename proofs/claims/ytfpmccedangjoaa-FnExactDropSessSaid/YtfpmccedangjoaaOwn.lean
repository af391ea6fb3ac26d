/- What is the call's own stays so while other memory is turned; lists that grow by one element at a time. -/
import Derived.Test.YtfpmccedangjoaaKitC
set_option linter.unusedVariables false
set_option linter.unusedSimpArgs false
namespace Go.Proofs.Ytfpmccedangjoaa.Abs
open Go

section own
variable {ti : Nat → Option TI} {tp : Nat → Option (List Nat)}

theorem ownL_cons {f : Nat → AV → Option (AV × List Nat)} {t : Nat} {ts : List Nat} {x : AV} {xs : List AV} {p : List AV × List Nat} (h : ownL f (t :: ts) (x :: xs) = some p) :
    ∃ a b, f t x = some a ∧ ownL f ts xs = some b ∧ p = (a.1 :: b.1, a.2 ++ b.2) := by
  simp only [ownL, Option.bind_eq_some_iff] at h
  obtain ⟨a, h1, b, h2, h3⟩ := h
  exact ⟨a, b, h1, h2, (Option.some.inj h3).symm⟩
theorem ownL_nil {f : Nat → AV → Option (AV × List Nat)} {ts : List Nat} {p : List AV × List Nat} (h : ownL f ts [] = some p) : ts = [] ∧ p = ([], []) := by
  cases ts with
  | nil => exact ⟨rfl, (Option.some.inj h).symm⟩
  | cons t ts => simp [ownL] at h
theorem ownL_len {f : Nat → AV → Option (AV × List Nat)} : ∀ {ts : List Nat} {xs : List AV} {p : List AV × List Nat}, ownL f ts xs = some p → ts.length = xs.length ∧ p.1.length = xs.length
  | ts, [], p, h => by
    obtain ⟨rfl, rfl⟩ := ownL_nil h
    exact ⟨rfl, rfl⟩
  | [], _ :: _, p, h => by simp [ownL] at h
  | t :: ts, x :: xs, p, h => by
    obtain ⟨a, b, h1, h2, rfl⟩ := ownL_cons h
    obtain ⟨e1, e2⟩ := ownL_len h2
    simp [e1, e2]
theorem ownL_append {f : Nat → AV → Option (AV × List Nat)} : ∀ {ts us : List Nat} {xs ys : List AV} {p q : List AV × List Nat}, ownL f ts xs = some p → ownL f us ys = some q → ownL f (ts ++ us) (xs ++ ys) = some (p.1 ++ q.1, p.2 ++ q.2)
  | ts, us, [], ys, p, q, h, h' => by
    obtain ⟨rfl, rfl⟩ := ownL_nil h
    exact h'
  | [], _, _ :: _, _, _, _, h, _ => by simp [ownL] at h
  | t :: ts, us, x :: xs, ys, p, q, h, h' => by
    obtain ⟨a, b, h1, h2, rfl⟩ := ownL_cons h
    have ih := ownL_append h2 h'
    rw [List.cons_append, List.cons_append, ownL, h1, Option.bind_some, ih]
    simp

/-- It depends on its own blocks alone. -/
theorem ownL_frame {f f' : Nat → AV → Option (AV × List Nat)} : ∀ {ts : List Nat} {xs : List AV} {p : List AV × List Nat}, (∀ t x a, f t x = some a → (∀ i ∈ a.2, i ∈ p.2) → f' t x = some a) → ownL f ts xs = some p → ownL f' ts xs = some p
  | ts, [], p, _, h => by
    obtain ⟨rfl, rfl⟩ := ownL_nil h
    rfl
  | [], _ :: _, p, _, h => by simp [ownL] at h
  | t :: ts, x :: xs, p, hf, h => by
    obtain ⟨a, b, h1, h2, rfl⟩ := ownL_cons h
    have e1 := hf t x a h1 fun i hi => List.mem_append_left _ hi
    have e2 := ownL_frame (f' := f') (fun t x a' h hi => hf t x a' h fun i hi' => List.mem_append_right _ (hi i hi')) h2
    rw [ownL, e1, Option.bind_some, e2]
    rfl
theorem own_frame {H H' : Heap} : ∀ (d ty : Nat) (x : AV) (p : AV × List Nat), ownT ti tp H d ty x = some p → (∀ i ∈ p.2, H'[i]? = H[i]?) → ownT ti tp H' d ty x = some p
  | 0, _, _, _, h, _ => by simp [ownT] at h
  | d + 1, ty, x, p, h, hs => by
    cases x with
    | sc v => exact h
    | nl => exact h
    | sl id off n z =>
      rw [ownT_sl] at h ⊢
      simp only [Option.bind_eq_some_iff] at h
      obtain ⟨i, h1, j, h2, h3⟩ := h
      split at h3
      case isFalse => cases h3
      rename_i hz
      split at h3
      case isFalse => cases h3
      rename_i ha
      simp only [Option.bind_eq_some_iff] at h3
      obtain ⟨cs, h4, q, h5, h6⟩ := h3
      obtain rfl := (Option.some.inj h6).symm
      have hid := hs id List.mem_cons_self
      have e1 : isApp H' id = true := by simpa only [isApp, hid] using ha
      have e2 : rdCells H' id off (n * z) = some cs := by simpa only [rdCells, hid] using h4
      have e3 := ownL_frame (f' := ownT ti tp H' d) (fun t x a h hi => own_frame d t x a h fun i' hi' => hs i' (List.mem_cons_of_mem _ (hi i' hi'))) h5
      simp only [h1, h2, Option.bind_some, hz, if_true, e1, e3]
      rw [hz] at e2
      rw [e2]
      simp only [Option.bind_some, e3]
    | agg cs =>
      rw [ownT_agg] at h ⊢
      simp only [Option.bind_eq_some_iff] at h
      obtain ⟨i, h1, q, h2, h3⟩ := h
      obtain rfl := (Option.some.inj h3).symm
      have e3 := ownL_frame (f' := ownT ti tp H' d) (fun t x a h hi => own_frame d t x a h fun i' hi' => hs i' (hi i' hi')) h2
      rw [h1, Option.bind_some, e3]
      rfl
    | tup cs =>
      rw [ownT_tup] at h ⊢
      simp only [Option.bind_eq_some_iff] at h
      obtain ⟨i, h1, q, h2, h3⟩ := h
      obtain rfl := (Option.some.inj h3).symm
      have e3 := ownL_frame (f' := ownT ti tp H' d) (fun t x a h hi => own_frame d t x a h fun i' hi' => hs i' (hi i' hi')) h2
      rw [h1, Option.bind_some, e3]
      rfl
    | _ => simp [ownT] at h
/-- Its blocks lie in the heap. -/
theorem ownL_lt {f : Nat → AV → Option (AV × List Nat)} {N : Nat} : ∀ {ts : List Nat} {xs : List AV} {p : List AV × List Nat}, (∀ t x a, f t x = some a → ∀ i ∈ a.2, i < N) → ownL f ts xs = some p → ∀ i ∈ p.2, i < N
  | ts, [], p, _, h => by
    obtain ⟨rfl, rfl⟩ := ownL_nil h
    intro i hi
    cases hi
  | [], _ :: _, p, _, h => by simp [ownL] at h
  | t :: ts, x :: xs, p, hf, h => by
    obtain ⟨a, b, h1, h2, rfl⟩ := ownL_cons h
    intro i hi
    rcases List.mem_append.1 hi with hi | hi
    · exact hf t x a h1 i hi
    · exact ownL_lt hf h2 i hi
theorem own_lt {H : Heap} : ∀ (d ty : Nat) (x : AV) (p : AV × List Nat), ownT ti tp H d ty x = some p → ∀ i ∈ p.2, i < H.length
  | 0, _, _, _, h => by simp [ownT] at h
  | d + 1, ty, x, p, h => by
    cases x with
    | sc v =>
      obtain rfl := (Option.some.inj h).symm
      intro i hi
      cases hi
    | nl =>
      obtain rfl := (Option.some.inj h).symm
      intro i hi
      cases hi
    | sl id off n z =>
      rw [ownT_sl] at h
      simp only [Option.bind_eq_some_iff] at h
      obtain ⟨i, h1, j, h2, h3⟩ := h
      split at h3
      case isFalse => cases h3
      split at h3
      case isFalse => cases h3
      rename_i ha
      simp only [Option.bind_eq_some_iff] at h3
      obtain ⟨cs, h4, q, h5, h6⟩ := h3
      obtain rfl := (Option.some.inj h6).symm
      intro i' hi'
      rcases List.mem_cons.1 hi' with rfl | hi'
      · unfold isApp at ha
        cases hg : H[i']? with
        | none => rw [hg] at ha; cases ha
        | some b => exact (List.getElem?_eq_some_iff.1 hg).1
      · exact ownL_lt (fun t x a h => own_lt d t x a h) h5 i' hi'
    | agg cs =>
      rw [ownT_agg] at h
      simp only [Option.bind_eq_some_iff] at h
      obtain ⟨i, h1, q, h2, h3⟩ := h
      obtain rfl := (Option.some.inj h3).symm
      exact ownL_lt (fun t x a h => own_lt d t x a h) h2
    | tup cs =>
      rw [ownT_tup] at h
      simp only [Option.bind_eq_some_iff] at h
      obtain ⟨i, h1, q, h2, h3⟩ := h
      obtain rfl := (Option.some.inj h3).symm
      exact ownL_lt (fun t x a h => own_lt d t x a h) h2
    | _ => simp [ownT] at h
end own

/-- Cells that are the call's own: as trees, with their blocks. -/
def OwnC (d : Nat) (H : Heap) (ts : List Nat) (raw cells : List AV) (ids : List Nat) : Prop := ownL (ownT ti0 E0.tp H d) ts raw = some (cells, ids)
theorem OwnC.frame {d : Nat} {H H' : Heap} {ts : List Nat} {raw cells : List AV} {ids : List Nat} (h : OwnC d H ts raw cells ids) (hs : ∀ i ∈ ids, H'[i]? = H[i]?) : OwnC d H' ts raw cells ids :=
  ownL_frame (fun t x a h hi => own_frame d t x a h fun i hi' => hs i (hi i hi')) h
theorem OwnC.lt {d : Nat} {H : Heap} {ts : List Nat} {raw cells : List AV} {ids : List Nat} (h : OwnC d H ts raw cells ids) : ∀ i ∈ ids, i < H.length := ownL_lt (fun t x a h => own_lt d t x a h) h
theorem OwnC.grow {d : Nat} {H : Heap} {ts : List Nat} {raw cells : List AV} {ids : List Nat} (h : OwnC d H ts raw cells ids) (X : List Blk) : OwnC d (H ++ X) ts raw cells ids :=
  h.frame fun i hi => List.getElem?_append_left (h.lt i hi)
theorem OwnC.append {d : Nat} {H : Heap} {ts us : List Nat} {raw raw' cells cells' : List AV} {ids ids' : List Nat} (h : OwnC d H ts raw cells ids) (h' : OwnC d H us raw' cells' ids') : OwnC d H (ts ++ us) (raw ++ raw') (cells ++ cells') (ids ++ ids') := ownL_append h h'
theorem OwnC.len {d : Nat} {H : Heap} {ts : List Nat} {raw cells : List AV} {ids : List Nat} (h : OwnC d H ts raw cells ids) : ts.length = raw.length ∧ cells.length = raw.length := ownL_len h

/-- A slice of the call's own, of k elements of w cells. -/
def OwnS (d : Nat) (H : Heap) (w : Nat) (cty : List Nat) (x : AV) (k : Nat) (cells : List AV) : Prop :=
  (x = .nl ∧ k = 0 ∧ cells = []) ∨ ∃ id raw ids, x = .sl id 0 k w ∧ H[id]? = some ⟨raw, true, true⟩ ∧ raw.length = k * w ∧ OwnC d H (List.replicate k cty).flatten raw cells ids ∧ (id :: ids).Nodup
theorem OwnS.nil (d : Nat) (H : Heap) (w : Nat) (cty : List Nat) : OwnS d H w cty .nl 0 [] := .inl ⟨rfl, rfl, rfl⟩
theorem OwnS.grow {d : Nat} {H : Heap} {w : Nat} {cty : List Nat} {x : AV} {k : Nat} {cells : List AV} (h : OwnS d H w cty x k cells) (X : List Blk) : OwnS d (H ++ X) w cty x k cells := by
  rcases h with h | ⟨id, raw, ids, h1, h2, h3, h4, h5⟩
  · exact .inl h
  · exact .inr ⟨id, raw, ids, h1, by rw [List.getElem?_append_left (List.getElem?_eq_some_iff.1 h2).1]; exact h2, h3, h4.grow X, h5⟩

variable {β : Type} {n : Nat} {r : Option β}
theorem set_at (A : Heap) (b b' : Blk) (R : Heap) : (A ++ b :: R).set A.length b' = A ++ b' :: R := by
  rw [List.set_append_right _ _ (Nat.le_refl _), Nat.sub_self]
  rfl
theorem get_at (A : Heap) (b : Blk) (R : Heap) : (A ++ b :: R)[A.length]? = some b := by
  rw [List.getElem?_append_right (Nat.le_refl _), Nat.sub_self]
  rfl
/-- One element is appended: its cells are the call's own, and lie behind what is the slice's. -/
theorem app_one {d : Nat} {H X : Heap} {w bytes : Nat} {cty : List Nat} {x : AV} {k : Nat} {cells er ec : List AV} {eids : List Nat} {K : AV → Heap → Option β} (hx : OwnS d H w cty x k cells) (hw : er.length = w) (hl : er.all isLeaf = true)
    (he : OwnC d (H ++ X) cty er ec eids) (hn : eids.Nodup) (hge : ∀ i ∈ eids, H.length ≤ i) (hb : (k + 1) * bytes ≤ 140737488355328)
    (h : ∀ x' H', OwnS d H' w cty x' (k + 1) (cells ++ ec) → K x' H' = r) :
    pNewSl 1 w er true (H ++ X) (fun y G => pApp w bytes x y G K) = r := by
  have hy : ∀ G : Heap, content (G ++ [⟨er, true, true⟩]) w (.sl G.length 0 1 w) = some er := by
    intro G
    simp only [content, if_true, Nat.one_mul, rdCells, get_at G _ [], Nat.zero_add, hw, Nat.le_refl, List.drop_zero]
    rw [← hw, List.take_length]
  have hell : (H ++ X).length ∉ eids := fun hm => Nat.lt_irrefl _ (he.lt _ hm)
  rcases hx with ⟨rfl, rfl, rfl⟩ | ⟨id, raw, ids, rfl, h2, h3, h4, h5⟩
  · simp only [pNewSl, pApp, lenA, Option.bind_some, hy]
    rw [show content (H ++ X ++ [⟨er, true, true⟩]) w .nl = some [] from rfl]
    simp only [Option.bind_some, kill]
    rw [if_pos hb, if_pos hl]
    refine h _ _ (.inr ⟨_, er, eids, rfl, ?_, by simp [hw], ?_, ?_⟩)
    · rw [List.getElem?_append_right (Nat.le_refl _), Nat.sub_self]
      rfl
    · simp only [Nat.zero_add, List.replicate_one, List.flatten_cons, List.flatten_nil, List.append_nil, List.nil_append]
      exact (he.grow _).grow _
    · rw [List.nodup_cons]
      refine ⟨fun hm => ?_, hn⟩
      have := he.lt _ hm
      simp at this
      omega
  · have hid : id < H.length := (List.getElem?_eq_some_iff.1 h2).1
    have hg : (H ++ X ++ [(⟨er, true, true⟩ : Blk)])[id]? = some ⟨raw, true, true⟩ := by
      rw [List.append_assoc, List.getElem?_append_left hid]
      exact h2
    have hcx : content (H ++ X ++ [⟨er, true, true⟩]) w (.sl id 0 k w) = some raw := by
      simp only [content, if_true, rdCells, hg, Nat.zero_add, h3, Nat.le_refl, List.drop_zero]
      rw [← h3, List.take_length]
    simp only [pNewSl, pApp, lenA, Option.bind_some, hy, hcx, kill, hg, if_true]
    rw [if_pos hb, if_pos hl]
    have hn5 := List.nodup_cons.1 h5
    have hne : ∀ i ∈ ids, i ≠ id := fun i hi e => hn5.1 (e ▸ hi)
    have hne2 : ∀ i ∈ eids, i ≠ id := fun i hi e => by
      have := hge i hi
      omega
    refine h _ _ (.inr ⟨_, raw ++ er, ids ++ eids, rfl, ?_, by simp [h3, hw, Nat.succ_mul], ?_, ?_⟩)
    · rw [List.getElem?_append_right (Nat.le_refl _), Nat.sub_self]
      rfl
    · have e : (List.replicate (k + 1) cty).flatten = (List.replicate k cty).flatten ++ cty := by
        rw [List.replicate_succ', List.flatten_append]
        simp
      rw [e]
      refine OwnC.append ?_ ?_
      · refine OwnC.grow (OwnC.frame (H := H ++ X ++ [⟨er, true, true⟩]) ((h4.grow X).grow _) fun i hi => ?_) _
        rw [List.getElem?_set_ne (fun e => hne i hi e.symm)]
      · refine OwnC.grow (OwnC.frame (H := H ++ X ++ [⟨er, true, true⟩]) (he.grow _) fun i hi => ?_) _
        rw [List.getElem?_set_ne (fun e => hne2 i hi e.symm)]
    · rw [List.nodup_cons]
      refine ⟨fun hm => ?_, ?_⟩
      · rcases List.mem_append.1 hm with hm | hm
        · have := h4.lt _ hm
          simp at this
          omega
        · have := he.lt _ hm
          simp at this
          omega
      · rw [List.nodup_append]
        refine ⟨hn5.2, hn, fun a ha b hb e => ?_⟩
        have h1 := h4.lt a ha
        have h2 := hge b hb
        omega
/-- What is laid behind a heap is the call's own. -/
theorem own_new {d : Nat} {H : Heap} {ts : List Nat} {cs : List AV} (h : okLW (okW ti0 E0.tp d) ts cs) : OwnC d (H ++ (instL ti0 E0.tp H.length ts cs).2) ts (instL ti0 E0.tp H.length ts cs).1 cs (List.range' H.length (instL ti0 E0.tp H.length ts cs).2.length) :=
  own_instL (fun ty t N h h' _ => own_inst d ty t N h h') ts cs H.length h (Lies_end _ _) (instL_live _ _ _)
/-- A slice of the call's own, as a result. -/
theorem own_res {d : Nat} {H : Heap} {w tyS k : Nat} {cty : List Nat} {x : AV} {cells : List AV} (hty : ∃ i j, ti0 tyS = some i ∧ ti0 i.elem = some j ∧ j.size = w ∧ j.cty = cty) (h : OwnS d H w cty x k cells) : ∃ ids, ownT ti0 E0.tp H (d + 1) tyS x = some (.ro k cells, ids) ∧ ids.Nodup := by
  rcases h with ⟨rfl, rfl, rfl⟩ | ⟨id, raw, ids, rfl, h2, h3, h4, h5⟩
  · exact ⟨[], rfl, List.nodup_nil⟩
  · obtain ⟨i, j, e1, e2, rfl, rfl⟩ := hty
    refine ⟨id :: ids, ?_, h5⟩
    rw [ownT_sl]
    have ha : isApp H id = true := by simp only [isApp, h2]
    have hr : rdCells H id 0 (k * j.size) = some raw := by
      simp only [rdCells, h2, if_true, Nat.zero_add, h3, Nat.le_refl, List.drop_zero]
      rw [← h3, List.take_length]
    have h4' : ownL (ownT ti0 E0.tp H d) (List.replicate k j.cty).flatten raw = some (cells, ids) := h4
    simp only [e1, e2, Option.bind_some, if_true, ha, hr, h4']

end Go.Proofs.Ytfpmccedangjoaa.Abs
