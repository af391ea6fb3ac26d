/- What lies where: the steps of a law that writes into what it is handed. -/
import Derived.Test.YtfpmccedangjoaaMarkC
set_option linter.unusedVariables false
set_option linter.unusedSimpArgs false
namespace Go.Proofs.Ytfpmccedangjoaa.Abs
open Go

/-- A tree lies in the heap, from block N on; y leads to it. -/
def AtT (H : Heap) (y : AV) (N ty : Nat) (t : AV) : Prop := y = (instT ti0 E0.tp N ty t).1 ∧ N + nbT t ≤ H.length ∧ Lies H N (instT ti0 E0.tp N ty t).2
def AtL (H : Heap) (ys : List AV) (N : Nat) (ts : List Nat) (cs : List AV) : Prop := ys = (instL ti0 E0.tp N ts cs).1 ∧ N + nbL cs ≤ H.length ∧ Lies H N (instL ti0 E0.tp N ts cs).2
/-- What lies outside of m blocks from N on stays. -/
def Kept (H H' : Heap) (N m : Nat) : Prop := H.length ≤ H'.length ∧ ∀ (i : Nat) b, H[i]? = some b → (i < N ∨ N + m ≤ i) → H'[i]? = some b

theorem Lies.grow {H : Heap} {N : Nat} {B : List Blk} (h : Lies H N B) (X : List Blk) : Lies (H ++ X) N B := fun j b hj => by
  have := h j b hj
  rw [List.getElem?_append_left (List.getElem?_eq_some_iff.1 this).1]
  exact this
theorem Lies.kept {H H' : Heap} {N M m : Nat} {B : List Blk} (h : Lies H N B) (k : Kept H H' M m) (hd : N + B.length ≤ M ∨ M + m ≤ N) : Lies H' N B := fun j b hj => by
  have hlt := (List.getElem?_eq_some_iff.1 hj).1
  exact k.2 _ b (h j b hj) (by omega)
theorem AtT.grow {H : Heap} {y : AV} {N ty : Nat} {t : AV} (h : AtT H y N ty t) (X : List Blk) : AtT (H ++ X) y N ty t := ⟨h.1, by rw [List.length_append]; have := h.2.1; omega, h.2.2.grow X⟩
theorem AtL.grow {H : Heap} {ys : List AV} {N : Nat} {ts : List Nat} {cs : List AV} (h : AtL H ys N ts cs) (X : List Blk) : AtL (H ++ X) ys N ts cs := ⟨h.1, by rw [List.length_append]; have := h.2.1; omega, h.2.2.grow X⟩
theorem AtT.kept {H H' : Heap} {y : AV} {N ty M m : Nat} {t : AV} (h : AtT H y N ty t) (k : Kept H H' M m) (hd : N + nbT t ≤ M ∨ M + m ≤ N) : AtT H' y N ty t := ⟨h.1, Nat.le_trans h.2.1 k.1, h.2.2.kept k (by rw [inst_nb]; exact hd)⟩
theorem AtL.kept {H H' : Heap} {ys : List AV} {N M m : Nat} {ts : List Nat} {cs : List AV} (h : AtL H ys N ts cs) (k : Kept H H' M m) (hd : N + nbL cs ≤ M ∨ M + m ≤ N) : AtL H' ys N ts cs := ⟨h.1, Nat.le_trans h.2.1 k.1, h.2.2.kept k (by rw [instL_nb]; exact hd)⟩
theorem blk_kept {H H' : Heap} {i M m : Nat} {b : Blk} (h : H[i]? = some b) (k : Kept H H' M m) (hd : i < M ∨ M + m ≤ i) : H'[i]? = some b := k.2 i b h hd
theorem AtL.cons {H : Heap} {ys : List AV} {N t : Nat} {ts : List Nat} {c : AV} {cs : List AV} (h : AtL H ys N (t :: ts) (c :: cs)) : ∃ y ys', ys = y :: ys' ∧ AtT H y N t c ∧ AtL H ys' (N + nbT c) ts cs := by
  obtain ⟨h1, h2, h3⟩ := h
  have h2 : N + (nbT c + nbL cs) ≤ H.length := h2
  have e : instL ti0 E0.tp N (t :: ts) (c :: cs) = ((instT ti0 E0.tp N t c).1 :: (instL ti0 E0.tp (N + nbT c) ts cs).1, (instT ti0 E0.tp N t c).2 ++ (instL ti0 E0.tp (N + nbT c) ts cs).2) := by
    rw [instL, inst_nb]
    rfl
  rw [e] at h1 h3
  refine ⟨_, _, h1, ⟨rfl, by omega, h3.left⟩, ⟨rfl, by omega, ?_⟩⟩
  have := h3.right
  rwa [inst_nb] at this
theorem AtL.nil {H : Heap} {ys : List AV} {N : Nat} {ts : List Nat} (h : AtL H ys N ts []) : ys = [] := h.1
theorem AtT.sc {H : Heap} {y : AV} {N ty : Nat} {v : Value} (h : AtT H y N ty (.sc v)) : y = .sc v := h.1
theorem AtT.agg {H : Heap} {y : AV} {N ty : Nat} {cs : List AV} {cty : List Nat} (h : AtT H y N ty (.agg cs)) (hty : ∃ i, ti0 ty = some i ∧ i.cty = cty) : ∃ ys, y = .agg ys ∧ AtL H ys N cty cs := by
  obtain ⟨i, hi, rfl⟩ := hty
  obtain ⟨h1, h2, h3⟩ := h
  rw [instT_agg, hi, Option.getD_some] at h1 h3
  exact ⟨_, h1, rfl, h2, h3⟩
theorem AtT.vw {H : Heap} {y : AV} {N ty : Nat} {t : AV} (h : AtT H y N ty t) (hok : okW ti0 E0.tp 8 ty t) : Vw H y t := fun X => by
  rw [h.1]
  exact view_inst 8 ty t N (okW_okTr 8 ty t hok) (h.2.2.grow X)
theorem AtL.vw {H : Heap} {ys : List AV} {N : Nat} {ts : List Nat} {cs : List AV} (h : AtL H ys N ts cs) (hok : okLW (okW ti0 E0.tp 7) ts cs) : Vw H (.agg ys) (.agg cs) := fun X => by
  rw [h.1, viewV_agg, view_instL (fun ty t N => view_inst 7 ty t N) cs ts N (okLW_okL (okW_okTr 7) hok) (h.2.2.grow X)]
  rfl
theorem AtL.leaf {H : Heap} {ys : List AV} {N : Nat} {ts : List Nat} {cs : List AV} (h : AtL H ys N ts cs) (hf : cs.all isFl = true) : ys.all isLeaf = true := by
  rw [h.1]
  exact instL_leaf _ _ _ hf
theorem AtL.len {H : Heap} {ys : List AV} {N : Nat} {ts : List Nat} {cs : List AV} (h : AtL H ys N ts cs) : ys.length = cs.length := by rw [h.1, instL_len]

/-! What is written is along the types as it was. -/
theorem okLW_mk {d : Nat} (hd : ∀ ty x f k, okW ti0 E0.tp d ty x → okW ti0 E0.tp d ty (mkF f k x).1) : ∀ (cs : List AV) (ts : List Nat) (fs : List MF) (k : Int), okLW (okW ti0 E0.tp d) ts cs → okLW (okW ti0 E0.tp d) ts (mkL fs k cs).1
  | [], ts, fs, k, h => by simpa [mkL] using h
  | c :: cs, [], fs, k, h => h.elim
  | c :: cs, t :: ts, fs, k, h => ⟨hd _ _ _ _ h.1, okLW_mk hd cs ts fs.tail _ h.2⟩
theorem okW_mk : ∀ (d ty : Nat) (x : AV) (f : MF) (k : Int), okW ti0 E0.tp d ty x → okW ti0 E0.tp d ty (mkF f k x).1
  | 0, _, _, _, _, h => h
  | d + 1, ty, x, f, k, h => by
    cases x with
    | sc v => cases f <;> trivial
    | ro n cells =>
      cases f with
      | sub fs =>
        obtain ⟨i, j, h1, h2, h3, h4⟩ := h
        exact ⟨i, j, h1, h2, by rw [mkL_len]; exact h3, okLW_mk (okW_mk d) _ _ _ _ h4⟩
      | _ => exact h
    | _ => exact h
theorem okLW_mk7 {cs : List AV} {ts : List Nat} (fs : List MF) (k : Int) (h : okLW (okW ti0 E0.tp 7) ts cs) : okLW (okW ti0 E0.tp 7) ts (mkL fs k cs).1 := okLW_mk (okW_mk 7) cs ts fs k h

section steps
variable {β : Type} {n : Nat} {H : Heap} {r : Option β}

/-- A call whose result is a tree: where it lies is told. -/
theorem lm_tree {ty f : Nat} {args vs : List AV} {t : AV} {K : AV → Heap → Option β} (hh : plainF f = false) (hv : args.mapM (viewV H 8) = some vs) (ht : tree E0 n ty f vs = some t) (h : ∀ y X N, N = H.length → AtT (H ++ X) y N ty t → K y (H ++ X) = r) : (PR n β).call ty (.fn f [] []) args H (fun x H => K x H) = r := by
  rw [PR_call hh hv ht]
  exact h _ _ _ rfl ⟨rfl, by rw [List.length_append, inst_nb]; exact Nat.le_refl _, Lies_end _ _⟩
theorem lm_tup {ty f : Nat} {args vs cs : List AV} {ts : List Nat} {K : AV → Heap → Option β} (hh : plainF f = false) (hv : args.mapM (viewV H 8) = some vs) (ht : tree E0 n ty f vs = some (.tup cs)) (hts : E0.tp ty = some ts) (h : ∀ ys X N, N = H.length → AtL (H ++ X) ys N ts cs → K (.tup ys) (H ++ X) = r) : (PR n β).call ty (.fn f [] []) args H (fun x H => K x H) = r := by
  rw [PR_call hh hv ht, instT_tup, hts, Option.getD_some]
  exact h _ _ _ rfl ⟨rfl, by rw [List.length_append, instL_nb]; exact Nat.le_refl _, Lies_end _ _⟩
theorem lm_agg {ty f : Nat} {args vs cs : List AV} {cty : List Nat} {K : AV → Heap → Option β} (hh : plainF f = false) (hv : args.mapM (viewV H 8) = some vs) (ht : tree E0 n ty f vs = some (.agg cs)) (hty : ∃ i, ti0 ty = some i ∧ i.cty = cty) (h : ∀ ys X N, N = H.length → AtL (H ++ X) ys N cty cs → K (.agg ys) (H ++ X) = r) : (PR n β).call ty (.fn f [] []) args H (fun x H => K x H) = r := by
  obtain ⟨i, hi, rfl⟩ := hty
  rw [PR_call hh hv ht, instT_agg, hi, Option.getD_some]
  exact h _ _ _ rfl ⟨rfl, by rw [List.length_append, instL_nb]; exact Nat.le_refl _, Lies_end _ _⟩
/-- A structure is put into a place of its own: where that is. -/
theorem lm_put {w : Nat} {z ys : List AV} {K : AV → Heap → Option β} (hz : z.length = w) (hy : ys.length = w) (hl : ys.all isLeaf = true) (h : ∀ i, i = H.length → (H ++ [⟨ys, true, true⟩])[i]? = some ⟨ys, true, true⟩ → K (.ptr i 0) (H ++ [⟨ys, true, true⟩]) = r) :
    pNew z H (fun t H => pStore w t (.agg ys) H fun H => K t H) = r := by
  have hg : (H ++ [(⟨z, true, true⟩ : Blk)])[H.length]? = some ⟨z, true, true⟩ := get_at H _ []
  have hc : cellsA (.agg ys) = some ys := by
    show (if ys.all isLeaf then some ys else none) = _
    rw [if_pos hl]
  show pStore w (.ptr H.length 0) (.agg ys) (H ++ [⟨z, true, true⟩]) _ = r
  rw [st_at w H.length 0 _ ⟨z, true, true⟩ ys _ _ hg hc hy (by rw [hz]; omega) rfl]
  have hs : splice z 0 ys = ys := by
    unfold splice
    rw [List.take_zero, List.nil_append, List.drop_of_length_le (by rw [hz, hy]; omega), List.append_nil]
  simp only [hs, set_at]
  exact h _ rfl (get_at H _ [])
/-- The heap is cut where a tree lies. -/
theorem cut_at {N : Nat} {B : List Blk} (h1 : N + B.length ≤ H.length) (h2 : Lies H N B) : ∃ A C : Heap, A.length = N ∧ H = A ++ (B ++ C) := by
  refine ⟨H.take N, H.drop (N + B.length), by rw [List.length_take]; omega, ?_⟩
  have e : (H.drop N).take B.length = B := by
    apply List.ext_getElem?
    intro j
    by_cases hj : j < B.length
    · rw [List.getElem?_take_of_lt hj, List.getElem?_drop]
      have hb : B[j]? = some (B[j]) := List.getElem?_eq_getElem hj
      rw [hb, h2 j _ hb]
    · rw [List.getElem?_eq_none (by rw [List.length_take]; omega), List.getElem?_eq_none (by omega)]
  conv => lhs; rw [← List.take_append_drop N H, ← List.take_append_drop B.length (H.drop N), e, List.drop_drop]
theorem kept_at {A B B' C X : Heap} (hl : B'.length = B.length) : Kept (A ++ (B ++ C)) (A ++ (B' ++ (C ++ X))) A.length B.length := by
  refine ⟨by simp only [List.length_append, hl]; omega, fun i b h hd => ?_⟩
  rcases hd with hd | hd
  · rw [List.getElem?_append_left hd] at h ⊢
    exact h
  · rw [List.getElem?_append_right (by omega), List.getElem?_append_right (by omega)] at h ⊢
    rw [hl, List.getElem?_append_left (List.getElem?_eq_some_iff.1 h).1]
    exact h
/-- A list is written. -/
theorem lm_mark {tI g ty N : Nat} {fs : List MF} {t : AV} {y : AV} {k : Int} {K : AV → Heap → Option β} (hmk : MarkOk n g ty fs) (hro : ∃ len cells, t = .ro len cells) (ha : AtT H y N ty t) (hw : wfF (.sub fs) t) (h0 : 0 ≤ k) (hb : k + cntF (.sub fs) t ≤ 4611686018427387904)
    (h : ∀ H', AtT H' y N ty (mkF (.sub fs) k t).1 → Kept H H' N (nbT t) → K (.sc (.int .i64 (k + cntF (.sub fs) t))) H' = r) : (PR n β).call tI (.fn g [] []) [y, .sc (.int .i64 k)] H (fun x H => K x H) = r := by
  obtain ⟨len, cells, rfl⟩ := hro
  obtain ⟨rfl, h2, h3⟩ := ha
  have hnb : ∀ M, (instT ti0 E0.tp M ty (.ro len cells)).2.length = nbT (.ro len cells) := fun M => inst_nb _ _ _
  obtain ⟨A, C, rfl, rfl⟩ := cut_at (by rw [hnb]; exact h2) h3
  rw [PR_hm hmk.1 hmk.2.1]
  refine hmk.2.2.2 len cells k hw h0 hb β A C _ r fun X => ?_
  rw [mkF_cnt]
  have hl : (instT ti0 E0.tp A.length ty (mkF (.sub fs) k (.ro len cells)).1).2.length = (instT ti0 E0.tp A.length ty (.ro len cells)).2.length := by rw [inst_nb, inst_nb, mkF_nb]
  refine h _ ⟨(mk_ro_same hmk k len cells A.length).symm, ?_, ?_⟩ ?_
  · rw [mkF_nb]
    simp only [List.length_append, inst_nb, mkF_nb]
    omega
  · have := Lies_in A (instT ti0 E0.tp A.length ty (mkF (.sub fs) k (.ro len cells)).1).2 (C ++ X)
    rwa [List.append_assoc] at this
  · rw [← hnb A.length]
    exact kept_at hl
/-- What a structure leads to is written. -/
theorem lm_markv {tI g N : Nat} {cty : List Nat} {fs : List MF} {cs ys : List AV} {k : Int} {K : AV → Heap → Option β} (hmk : MarkV n g cty fs) (hv : fs.all isV = true) (ha : AtL H ys N cty cs) (hw : wfL fs cs) (h0 : 0 ≤ k) (hb : k + cntL fs cs ≤ 4611686018427387904)
    (h : ∀ H', AtL H' ys N cty (mkL fs k cs).1 → Kept H H' N (nbL cs) → K (.sc (.int .i64 (k + cntL fs cs))) H' = r) : (PR n β).call tI (.fn g [] []) [.agg ys, .sc (.int .i64 k)] H (fun x H => K x H) = r := by
  obtain ⟨rfl, h2, h3⟩ := ha
  have hnb : ∀ M, (instL ti0 E0.tp M cty cs).2.length = nbL cs := fun M => instL_nb _ _ _
  obtain ⟨A, C, rfl, rfl⟩ := cut_at (by rw [hnb]; exact h2) h3
  rw [PR_hm hmk.1 hmk.2.1]
  refine hmk.2.2 cs k β A C _ r hw h0 hb fun X => ?_
  rw [mkL_cnt]
  have hl : (instL ti0 E0.tp A.length cty (mkL fs k cs).1).2.length = (instL ti0 E0.tp A.length cty cs).2.length := by rw [instL_nb, instL_nb, mkL_nb]
  refine h _ ⟨(mkL_same cs fs k A.length cty hv hw).symm, ?_, ?_⟩ ?_
  · rw [mkL_nb]
    simp only [List.length_append, instL_nb, mkL_nb]
    omega
  · have := Lies_in A (instL ti0 E0.tp A.length cty (mkL fs k cs).1).2 (C ++ X)
    rwa [List.append_assoc] at this
  · rw [← hnb A.length]
    exact kept_at hl
/-- What was written is read. -/
theorem lm_held {tI g : Nat} {fs : List MF} {t : AV} {y : AV} {k : Int} {K : AV → Heap → Option β} (hhe : HeldOk n g fs) (hro : ∃ len cells, t = .ro len cells) (hv : Vw H y (mkF (.sub fs) k t).1) (hw : wfF (.sub fs) t) (h0 : 0 ≤ k) (hb : k + cntF (.sub fs) t ≤ 4611686018427387904)
    {F : Heap → Option β} (h : K (.sc (.int .i64 (k + cntF (.sub fs) t))) H = r) : (PR n β).call tI (.fn g [] []) [y, .sc (.int .i64 k)] H (fun t H => pBin .lss t (.sc (.int .i64 0)) fun t' => pCond t' (F H) (K t H)) = r := by
  obtain ⟨len, cells, rfl⟩ := hro
  refine lw_sc hhe.1 (vcons hv (vcons (Vw_sc _ _) vnil)) (hhe.2 tI len cells k hw h0 hb) ?_
  rw [mkF_cnt, lss64, cond_b, if_neg (by simp; omega)]
  exact h
theorem lm_heldv {tI g : Nat} {fs : List MF} {cs : List AV} {y : AV} {k : Int} {K : AV → Heap → Option β} (hhe : HeldV n g fs) (hv : Vw H y (.agg (mkL fs k cs).1)) (hw : wfL fs cs) (h0 : 0 ≤ k) (hb : k + cntL fs cs ≤ 4611686018427387904)
    {F : Heap → Option β} (h : K (.sc (.int .i64 (k + cntL fs cs))) H = r) : (PR n β).call tI (.fn g [] []) [y, .sc (.int .i64 k)] H (fun t H => pBin .lss t (.sc (.int .i64 0)) fun t' => pCond t' (F H) (K t H)) = r := by
  refine lw_sc hhe.1 (vcons hv (vcons (Vw_sc _ _) vnil)) (hhe.2 tI cs k hw h0 hb) ?_
  rw [mkL_cnt, lss64, cond_b, if_neg (by simp; omega)]
  exact h
theorem lm_gf {m : (AV → Heap → Option β) → Option β} {k : AV → Heap → Option β} (h : m k = r) : pGuard (.sc (.bool false)) false H m k = r := h
theorem lm_pk {v : Value} {K : AV → Option β} (h : K (.sc v) = r) : pPick (.sc (.bool false)) (.sc (.bool true)) (.sc v) (fun t => K t) = r := h
theorem lm_not {b : Bool} {K : AV → Option β} (h : K (.sc (.bool (!b))) = r) : pUn .not (.sc (.bool b)) (fun t => K t) = r := h
theorem lm_cf {A K : Option β} (h : K = r) : pCond (.sc (.bool false)) A K = r := h
theorem lm_eq {ty f : Nat} {args vs : List AV} {K : AV → Heap → Option β} (hh : plainF f = false) (hv : args.mapM (viewV H 8) = some vs) (ht : tree E0 n ty f vs = some (.sc (.bool true))) (h : K (.sc (.bool true)) H = r) : (PR n β).call ty (.fn f [] []) args H (fun t H => K t H) = r := lw_sc hh hv ht h
theorem lm_neB {b : Bool} {K : AV → Option β} (h : K (.sc (.bool false)) = r) : pBinB .neq (.sc (.bool b)) (.sc (.bool b)) (fun t => K t) = r := by
  rw [neqB]
  cases b <;> exact h
theorem lm_neI {z : Int} {K : AV → Option β} (h : K (.sc (.bool false)) = r) : pBin .neq (.sc (.int .i64 z)) (.sc (.int .i64 z)) (fun t => K t) = r := by
  rw [neq64, bne_self_eq_false]
  exact h
theorem lm_neg {z : Int} {K : AV → Option β} (h0 : 0 ≤ z) (h : K (.sc (.bool false)) = r) : pBin .lss (.sc (.int .i64 z)) (.sc (.int .i64 0)) (fun t => K t) = r := by
  rw [lss64, show decide (z < 0) = false from by simp; omega]
  exact h
theorem lm_ex {vs : List AV} {i : Nat} {v : AV} {K : AV → Option β} (hi : vs[i]? = some v) (h : K v = r) : pExtr (.tup vs) i (fun t => K t) = r := by
  simp only [pExtr, hi, Option.bind_some]
  exact h
end steps

end Go.Proofs.Ytfpmccedangjoaa.Abs
