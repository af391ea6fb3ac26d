/- Lists that grow by one element at a time, beside other memory of the call's own. -/
import Derived.Test.YtfpmccedangjoaaOwn
set_option linter.unusedVariables false
set_option linter.unusedSimpArgs false
namespace Go.Proofs.Ytfpmccedangjoaa.Abs
open Go

/-- A slice of the call's own, of k elements of w cells; its blocks. -/
def OwnSI (d : Nat) (H : Heap) (w : Nat) (cty : List Nat) (x : AV) (k : Nat) (cells : List AV) (ids : List Nat) : Prop :=
  (x = .nl ∧ k = 0 ∧ cells = [] ∧ ids = []) ∨ ∃ id raw is, ids = id :: is ∧ x = .sl id 0 k w ∧ H[id]? = some ⟨raw, true, true⟩ ∧ raw.length = k * w ∧ OwnC d H (List.replicate k cty).flatten raw cells is ∧ (id :: is).Nodup
theorem OwnSI.nil (d : Nat) (H : Heap) (w : Nat) (cty : List Nat) : OwnSI d H w cty .nl 0 [] [] := .inl ⟨rfl, rfl, rfl, rfl⟩
theorem OwnSI.lt {d : Nat} {H : Heap} {w : Nat} {cty : List Nat} {x : AV} {k : Nat} {cells : List AV} {ids : List Nat} (h : OwnSI d H w cty x k cells ids) : ∀ i ∈ ids, i < H.length := by
  rcases h with ⟨_, _, _, rfl⟩ | ⟨id, raw, is, rfl, _, h2, _, h4, _⟩
  · intro i hi
    cases hi
  · intro i hi
    rcases List.mem_cons.1 hi with rfl | hi
    · exact (List.getElem?_eq_some_iff.1 h2).1
    · exact h4.lt i hi
theorem OwnSI.nodup {d : Nat} {H : Heap} {w : Nat} {cty : List Nat} {x : AV} {k : Nat} {cells : List AV} {ids : List Nat} (h : OwnSI d H w cty x k cells ids) : ids.Nodup := by
  rcases h with ⟨_, _, _, rfl⟩ | ⟨id, raw, is, rfl, _, h2, _, h4, h5⟩
  · exact List.nodup_nil
  · exact h5
theorem OwnSI.frame {d : Nat} {H H' : Heap} {w : Nat} {cty : List Nat} {x : AV} {k : Nat} {cells : List AV} {ids : List Nat} (h : OwnSI d H w cty x k cells ids) (hs : ∀ i ∈ ids, H'[i]? = H[i]?) : OwnSI d H' w cty x k cells ids := by
  rcases h with h | ⟨id, raw, is, rfl, h1, h2, h3, h4, h5⟩
  · exact .inl h
  · exact .inr ⟨id, raw, is, rfl, h1, by rw [hs id List.mem_cons_self]; exact h2, h3, h4.frame fun i hi => hs i (List.mem_cons_of_mem _ hi), h5⟩
theorem OwnSI.grow {d : Nat} {H : Heap} {w : Nat} {cty : List Nat} {x : AV} {k : Nat} {cells : List AV} {ids : List Nat} (h : OwnSI d H w cty x k cells ids) (X : List Blk) : OwnSI d (H ++ X) w cty x k cells ids :=
  h.frame fun i hi => List.getElem?_append_left (h.lt i hi)
theorem OwnSI.res {H : Heap} {d w tyS k : Nat} {cty : List Nat} {x : AV} {cells : List AV} {ids : List Nat} (h : OwnSI d H w cty x k cells ids) (hty : ∃ i j, ti0 tyS = some i ∧ ti0 i.elem = some j ∧ j.size = w ∧ j.cty = cty) : ownT ti0 E0.tp H (d + 1) tyS x = some (.ro k cells, ids) := by
  rcases h with ⟨rfl, rfl, rfl, rfl⟩ | ⟨id, raw, is, rfl, rfl, h2, h3, h4, h5⟩
  · rfl
  · obtain ⟨i, j, e1, e2, rfl, rfl⟩ := hty
    rw [ownT_sl]
    have ha : isApp H id = true := by simp only [isApp, h2]
    have hr : rdCells H id 0 (k * j.size) = some raw := by
      simp only [rdCells, h2, if_true, Nat.zero_add, h3, Nat.le_refl, List.drop_zero]
      rw [← h3, List.take_length]
    have h4' : ownL (ownT ti0 E0.tp H d) (List.replicate k j.cty).flatten raw = some (cells, is) := h4
    simp only [e1, e2, Option.bind_some, if_true, ha, hr, h4']

variable {β : Type} {n : Nat} {r : Option β}
/-- One element is appended: what is not the slice's stays. -/
theorem app_oneI {d : Nat} {H X : Heap} {w bytes : Nat} {cty : List Nat} {x : AV} {k : Nat} {cells er ec : List AV} {ids eids : List Nat} {K : AV → Heap → Option β} (hx : OwnSI d H w cty x k cells ids) (hw : er.length = w) (hl : er.all isLeaf = true)
    (he : OwnC d (H ++ X) cty er ec eids) (hn : eids.Nodup) (hge : ∀ i ∈ eids, H.length ≤ i) (hb : (k + 1) * bytes ≤ 140737488355328)
    (h : ∀ x' H' ids', OwnSI d H' w cty x' (k + 1) (cells ++ ec) ids' → (∀ i ∈ ids', i ∈ ids ∨ H.length ≤ i) → (∀ i, i < H.length → i ∉ ids → H'[i]? = H[i]?) → H.length ≤ H'.length → K x' H' = r) :
    pNewSl 1 w er true (H ++ X) (fun y G => pApp w bytes x y G K) = r := by
  have hy : ∀ G : Heap, content (G ++ [⟨er, true, true⟩]) w (.sl G.length 0 1 w) = some er := by
    intro G
    simp only [content, if_true, Nat.one_mul, rdCells, get_at G _ [], Nat.zero_add, hw, Nat.le_refl, List.drop_zero]
    rw [← hw, List.take_length]
  rcases hx with ⟨rfl, rfl, rfl, rfl⟩ | ⟨id, raw, is, rfl, rfl, h2, h3, h4, h5⟩
  · simp only [pNewSl, pApp, lenA, Option.bind_some, hy]
    rw [show content (H ++ X ++ [⟨er, true, true⟩]) w .nl = some [] from rfl]
    simp only [Option.bind_some, kill]
    rw [if_pos hb, if_pos hl]
    refine h _ _ (_ :: eids) (.inr ⟨_, er, eids, rfl, rfl, ?_, by simp [hw], ?_, ?_⟩) (fun i hi => .inr ?_) (fun i hi _ => ?_) (by simp)
    · rw [List.getElem?_append_right (Nat.le_refl _), Nat.sub_self]
      rfl
    · simp only [Nat.zero_add, List.replicate_one, List.flatten_cons, List.flatten_nil, List.append_nil, List.nil_append]
      exact (he.grow _).grow _
    · rw [List.nodup_cons]
      refine ⟨fun hm => ?_, hn⟩
      have := he.lt _ hm
      simp at this
      omega
    · rcases List.mem_cons.1 hi with rfl | hi
      · simp [Nat.add_assoc]
      · exact hge i hi
    · rw [List.append_assoc, List.append_assoc, List.getElem?_append_left hi]
  · have hid : id < H.length := (List.getElem?_eq_some_iff.1 h2).1
    have hg : (H ++ X ++ [(⟨er, true, true⟩ : Blk)])[id]? = some ⟨raw, true, true⟩ := by
      rw [List.append_assoc, List.getElem?_append_left hid]
      exact h2
    have hcx : content (H ++ X ++ [⟨er, true, true⟩]) w (.sl id 0 k w) = some raw := by
      simp only [content, if_true, rdCells, hg, Nat.zero_add, h3, Nat.le_refl, List.drop_zero]
      rw [← h3, List.take_length]
    simp only [pNewSl, pApp, lenA, Option.bind_some, hy, hcx, kill, hg, if_true]
    rw [if_pos hb, if_pos hl]
    have hn5 := List.nodup_cons.1 h5
    have hne : ∀ i ∈ is, i ≠ id := fun i hi e => hn5.1 (e ▸ hi)
    have hne2 : ∀ i ∈ eids, i ≠ id := fun i hi e => by
      have := hge i hi
      omega
    refine h _ _ (_ :: (is ++ eids)) (.inr ⟨_, raw ++ er, is ++ eids, rfl, rfl, ?_, by simp [h3, hw, Nat.succ_mul], ?_, ?_⟩) (fun i hi => ?_) (fun i hi hni => ?_) (by simp; omega)
    · rw [List.getElem?_append_right (Nat.le_refl _), Nat.sub_self]
      rfl
    · have e : (List.replicate (k + 1) cty).flatten = (List.replicate k cty).flatten ++ cty := by
        rw [List.replicate_succ', List.flatten_append]
        simp
      rw [e]
      refine OwnC.append ?_ ?_
      · refine OwnC.grow (OwnC.frame (H := H ++ X ++ [⟨er, true, true⟩]) ((h4.grow X).grow _) fun i hi => ?_) _
        rw [List.getElem?_set_ne (fun e => hne i hi e.symm)]
      · refine OwnC.grow (OwnC.frame (H := H ++ X ++ [⟨er, true, true⟩]) (he.grow _) fun i hi => ?_) _
        rw [List.getElem?_set_ne (fun e => hne2 i hi e.symm)]
    · rw [List.nodup_cons]
      refine ⟨fun hm => ?_, ?_⟩
      · rcases List.mem_append.1 hm with hm | hm
        · have := h4.lt _ hm
          simp at this
          omega
        · have := he.lt _ hm
          simp at this
          omega
      · rw [List.nodup_append]
        refine ⟨hn5.2, hn, fun a ha b hb e => ?_⟩
        have h1 := h4.lt a ha
        have h2 := hge b hb
        omega
    · rcases List.mem_cons.1 hi with rfl | hi
      · right
        simp [Nat.add_assoc]
      · rcases List.mem_append.1 hi with hi | hi
        · exact .inl (List.mem_cons_of_mem _ hi)
        · exact .inr (hge i hi)
    · have : i ≠ id := fun e => hni (e ▸ List.mem_cons_self)
      rw [List.getElem?_append_left (by simp; omega), List.getElem?_set_ne (fun e => this e.symm), List.append_assoc, List.getElem?_append_left hi]

/-- A structure of the call's own that is being filled: in its block io; ids: all that its cells lead to. -/
structure Rec (d : Nat) (H : Heap) (io : Nat) (cty : List Nat) (raw cells : List AV) (ids : List Nat) : Prop where
  blk : H[io]? = some ⟨raw, true, true⟩
  own : OwnC d H cty raw cells ids
  nd : ids.Nodup
  out : io ∉ ids

theorem fill_all {w : Nat} {z ys : List AV} (hz : z.length = w) (hy : ys.length = w) (hl : ys.all isLeaf = true) : fillA z [(0, w, .agg ys)] = some ys := by
  have hc : cellsA (.agg ys) = some ys := by
    show (if ys.all isLeaf then some ys else none) = _
    rw [if_pos hl]
  have hs : splice z 0 ys = ys := by
    unfold splice
    rw [List.take_zero, List.nil_append, List.drop_of_length_le (by rw [hy, hz]; omega), List.append_nil]
  show ((cellsA (.agg ys)).bind fun cs => if cs.length = w then (if 0 + w ≤ z.length then fillA (splice z 0 cs) [] else none) else none) = _
  rw [hc, Option.bind_some, if_pos hy, if_pos (by omega), hs]
  rfl

end Go.Proofs.Ytfpmccedangjoaa.Abs
