/- Each operation does in memory what it does abstractly: fields, parts; then all operations at one place. -/
import Derived.Test.YtfpmccedangjoaaOpsD
import Derived.Laws.Tables
import Derived.Great.BuildSlice
set_option linter.unusedVariables false
namespace Go.Proofs.Ytfpmccedangjoaa.Abs
open Go Go.RowKit

variable {P : Program} {β : Type}

theorem fld_sound {t : TypeId} {i : TI} (ht : TOk P t i) (hagg : i.isAgg = true) {f off : Nat} {ft : TypeId} (hf : i.fields[f]? = some (off, ft)) {j : TI} (hft : TOk P ft j)
    {w0 : World} {φ : Phi} {x : AV} {u : Value} (hx : VR w0 φ x u) {k : AV → Option β} {r : β}
    (h : pFld j.isAgg off j.size x k = some r) : Got w0 φ k r fun uv => ∀ w, (Instr.field t u f).run P w = .ok uv w := by
  obtain ⟨fs, hu, hd⟩ := desc_fields ht hf hagg
  obtain ⟨fd, h1, rfl, rfl⟩ := fields_get hd hf
  have hun := fun w => run_underlying hu w
  cases x <;> simp only [pFld] at h <;> try cases h
  rename_i cs
  rw [VR] at hx
  obtain ⟨xs, rfl, hl, hc⟩ := hx
  split at h
  · rename_i hle
    cases ha : j.isAgg with
    | true =>
      rw [ha, if_pos rfl] at h
      refine ⟨_, .agg (xs.toArray.extract fd.offset (fd.offset + j.size)), h, ?_, fun w => ?_⟩
      · rw [VR]
        refine ⟨(xs.drop fd.offset).take j.size, by simp, by simp [hl], ?_⟩
        have h2 := VRs_take (VRs_drop hc fd.offset) j.size
        rw [VRs_iff] at h2 ⊢
        intro q y hq
        obtain ⟨uu, e1, e2⟩ := h2 q y hq
        have hlt : q < j.size := by
          have := (List.getElem?_eq_some_iff.1 hq).1
          simp at this
          omega
        exact ⟨uu, by rw [List.getElem?_take_of_lt hlt, List.getElem?_drop]; exact e1, e2⟩
      · simp only [Instr.field, Sem.run_bind, hun, Result.andThen_ok, h1, asAgg, Sem.run_pure, part, hft.rAgg, ha, if_true, hft.rSize]
    | false =>
      rw [ha, if_neg (by simp)] at h
      obtain ⟨v, hv, hk⟩ := Option.bind_eq_some_iff.1 h
      have hv := one_some hv
      have hc0 := VRs_take (VRs_drop hc fd.offset) j.size
      rw [hv, VRs] at hc0
      obtain ⟨⟨uu, e1, e2⟩, _⟩ := hc0
      refine ⟨_, uu, hk, e2, fun w => ?_⟩
      simp only [Nat.add_zero] at e1
      simp only [Instr.field, Sem.run_bind, hun, Result.andThen_ok, h1, asAgg, Sem.run_pure, part, hft.rAgg, ha, Bool.false_eq_true, if_false, List.getElem?_toArray, e1]
  · cases h

theorem extr_sound {w0 : World} {φ : Phi} {x : AV} {u : Value} (hx : VR w0 φ x u) {j : Nat} {k : AV → Option β} {r : β}
    (h : pExtr x j k = some r) : Got w0 φ k r fun uv => ∀ w, (Instr.extract u j).run P w = .ok uv w := by
  cases x <;> simp only [pExtr] at h <;> try cases h
  rename_i vs
  rw [VR] at hx
  obtain ⟨xs, rfl, hl, hc⟩ := hx
  obtain ⟨v, hv, hk⟩ := Option.bind_eq_some_iff.1 h
  rw [VRs_iff] at hc
  obtain ⟨uu, e1, e2⟩ := hc j v hv
  refine ⟨_, uu, hk, e2, fun w => ?_⟩
  simp only [Instr.extract, List.getElem?_toArray, e1, Sem.run_pure]

theorem setParts (off : Nat) : ∀ (l : List Value) (s : Nat) (arr : Array Value), off + s + l.length ≤ arr.size →
    ((l.zipIdx s).foldl (fun cs (c, j) => cs.setIfInBounds (off + j) c) arr).size = arr.size ∧
      ∀ q : Nat, ((l.zipIdx s).foldl (fun cs (c, j) => cs.setIfInBounds (off + j) c) arr)[q]? = if off + s ≤ q ∧ q < off + s + l.length then l[q - (off + s)]? else arr[q]?
  | [], s, arr, h => ⟨rfl, fun q => by rw [if_neg (by simp)]; rfl⟩
  | v :: l, s, arr, h => by
    simp only [List.length_cons] at h
    have ih := setParts off l (s + 1) (arr.setIfInBounds (off + s) v) (by simp; omega)
    simp only [List.zipIdx_cons, List.foldl_cons]
    refine ⟨by rw [ih.1]; simp, fun q => ?_⟩
    rw [ih.2 q, Array.getElem?_setIfInBounds]
    by_cases hq : off + (s + 1) ≤ q ∧ q < off + (s + 1) + l.length
    · rw [if_pos hq, if_pos (by simp; omega), show q - (off + s) = (q - (off + (s + 1))) + 1 by omega]
      rfl
    · rw [if_neg hq]
      by_cases ho : off + s = q
      · subst ho
        rw [if_pos rfl, if_pos (by omega), if_pos (by simp), Nat.sub_self]
        rfl
      · rw [if_neg ho, if_neg (by simp; omega)]

theorem fill_sound {w0 : World} {φ : Phi} {tm : Tm} {a : Act} (htm : TR w0 φ tm a) (place : Nat → Option (Nat × Nat)) (place' : Nat → Option (Nat × Nat)) (hpl : ∀ f q, place f = some q → place' f = some q) :
    ∀ (parts : List (Nat × Operand)) (l : List (Nat × Nat × AV)) (cells cs : List AV) (arr : Array Value), partsA (ev tm) place parts = some l → fillA cells l = some cs → arr.size = cells.length → VRs w0 φ cells (fun q => arr[q]?) →
      ∃ arr', Instr.fill place' arr (parts.map fun (i, x) => (i, a.eval x)) = some arr' ∧ arr'.size = cs.length ∧ cs.length = cells.length ∧ VRs w0 φ cs (fun q => arr'[q]?)
  | [], l, cells, cs, arr, h1, h2, h3, h4 => by
    simp only [partsA, Option.some.injEq] at h1
    subst h1
    simp only [fillA, Option.some.injEq] at h2
    subst h2
    exact ⟨arr, rfl, h3, rfl, h4⟩
  | (f, x) :: parts, l, cells, cs, arr, h1, h2, h3, h4 => by
    simp only [partsA] at h1
    split at h1
    · rename_i off n l' hp hl
      cases h1
      simp only [fillA, Option.bind_eq_some_iff] at h2
      obtain ⟨vs, hvs, h2⟩ := h2
      split at h2
      · rename_i hn
        split at h2
        · rename_i hle
          obtain ⟨g1, g2, g3⟩ := cells_VR (ev_VR htm x) hvs
          have hsz : (a.eval x).cells.size = n := by rw [← hn, ← g1]; simp
          obtain ⟨s1, s2⟩ := setParts off (a.eval x).cells.toList 0 arr (by simp [hsz]; omega)
          have hlen : (splice cells off vs).length = cells.length := splice_len (by omega)
          have hv : VRs w0 φ (splice cells off vs) (fun q => (((a.eval x).cells.toList.zipIdx 0).foldl (fun cs (c, j) => cs.setIfInBounds (off + j) c) arr)[q]?) := by
            rw [VRs_iff] at h4 g2 ⊢
            intro q y hq
            rw [splice_get (by omega)] at hq
            rw [s2 q]
            simp only [Nat.add_zero, Array.length_toList, hsz]
            split at hq
            · rename_i hc
              rw [if_pos (by omega)]
              exact g2 _ y hq
            · rename_i hc
              rw [if_neg (by omega)]
              exact h4 q y hq
          obtain ⟨arr', e1, e2, e3, e4⟩ := fill_sound htm place place' hpl parts l' _ cs _ hl h2 (by rw [s1, h3, hlen]) hv
          refine ⟨arr', ?_, e2, by rw [e3, hlen], e4⟩
          simp only [List.map_cons, Instr.fill, hpl f _ hp, hsz]
          rw [if_neg (by simp; omega)]
          rw [← e1]
          congr 1
          rw [← Array.foldl_toList, Array.toList_zipIdx]
        · cases h2
      · cases h2
    · cases h1

theorem build_sound {T : Nat → Option TI} (hT : TabOk P T) {t : TypeId} {i : TI} (ht : TOk P t i) (hagg : i.isAgg = true) {w0 : World} {φ : Phi} {tm : Tm} {a : Act} (htm : TR w0 φ tm a) {parts : Array (Nat × Operand)} {l : List (Nat × Nat × AV)} {cs : List AV}
    (hp : partsA (ev tm) (fun f => match i.fields[f]? with | some (o, ft) => (match T ft with | some j => some (o, j.size) | none => none) | none => none) parts.toList = some l) (hf : fillA (zeroA i) l = some cs) :
    ∃ u, VR w0 φ (.agg cs) u ∧ ∀ w, (Instr.build t (parts.map fun (i, x) => (i, a.eval x))).run P w = .ok u w := by
  obtain ⟨d, hu, hd⟩ := ht.desc
  cases d <;> simp [descOk, hagg] at hd
  rename_i fs
  have hfl : i.fields = fs.toList.map fun f => (f.offset, f.type) := hd.1.1.2
  obtain ⟨inf, hi, e1, e2, z, hz1, hz2⟩ := ht.info
  have hpl : ∀ (l : List Field), (∀ f ∈ l, ∃ inf, P.info? f.type = some inf) → ∃ places, l.mapM (fun f => (P.info? f.type).map fun i => (f.offset, i.size)) = some places ∧ ∀ q : Nat, places[q]? = (l[q]?).bind fun f => (P.info? f.type).map fun i => (f.offset, i.size) := by
    intro l
    induction l with
    | nil => intro _; exact ⟨[], rfl, fun q => by simp⟩
    | cons f l ih =>
      intro h
      obtain ⟨ps, g1, g2⟩ := ih fun f hf => h f (List.mem_cons_of_mem _ hf)
      obtain ⟨inf, hf⟩ := h f List.mem_cons_self
      refine ⟨(f.offset, inf.size) :: ps, by simp [List.mapM_cons, hf, g1], fun q => ?_⟩
      cases q with
      | zero => simp [hf]
      | succ q => simpa using g2 q
  obtain ⟨places, p1, p2⟩ := hpl fs.toList fun f hf => ht.flds (f.offset, f.type) (by rw [hfl]; exact List.mem_map.2 ⟨f, hf, rfl⟩)
  have hzs : z.cells.size = (zeroA i).length := by rw [← Array.length_toList, hz2]; simp [zeroA]
  obtain ⟨arr', g1, g2, g3, g4⟩ := fill_sound htm _ (fun q => places[q]?) (by
    intro f q hq
    split at hq
    · rename_i o ft hft
      split at hq
      · rename_i j hj
        cases hq
        rw [p2 f]
        rw [hfl, List.getElem?_map] at hft
        obtain ⟨fd, h1, h2⟩ := Option.map_eq_some_iff.1 hft
        cases h2
        obtain ⟨inf', hi', e1', _⟩ := (hT _ _ hj).info
        simp [h1, hi', e1']
      · cases hq
    · cases hq) parts.toList l (zeroA i) cs z.cells hp hf hzs (zeroA_VRs w0 φ i hz2)
  refine ⟨.agg arr', ?_, fun w => ?_⟩
  · rw [VR]
    exact ⟨arr'.toList, by simp, by simpa using g2, by simpa using g4⟩
  · refine run_build w t _ arr' ?_
    simp only [Program.built, hi, hu, hz1, p1]
    simpa using g1

theorem buildSl_sound {t : TypeId} {i j : TI} (ht : TOk P t i) (hs : i.sl = true) (hj : TOk P i.elem j) {w0 : World} {φ : Phi} {w : World} {H : Heap} (hr : HR w0 φ w H) {tm : Tm} {a : Act} (htm : TR w0 φ tm a) {n : Nat} (hn : (n + 1) * j.size ≤ 16777216)
    {parts : Array (Nat × Operand)} {l : List (Nat × Nat × AV)} {cs : List AV} (hp : partsA (ev tm) (fun f => some (f * j.size, j.size)) parts.toList = some l) (hf : fillA ((List.replicate (n + 1) (zeroA j)).flatten) l = some cs)
    {k : AV → Heap → Option β} {r : β} (h : pNewSl (n + 1) j.size cs true H k = some r) : DoneB w0 φ w H k r fun u w' => (Instr.buildSlice t (n + 1) (parts.map fun (i, x) => (i, a.eval x))).run P w = .ok u w' := by
  obtain ⟨inf, hi, e1, e2, z, hz1, hz2⟩ := hj.info
  obtain ⟨m1, m2⟩ := made_VRs w0 φ hz2 hj.zsz hj.spos (n + 1)
  obtain ⟨arr', g1, g2, g3, g4⟩ := fill_sound htm _ (fun f => some (f * j.size, j.size)) (fun _ _ h => h) parts.toList l _ cs (madeCells z.cells ((n + 1) * j.size)) hp hf (by rw [size_madeCells, m2]) m1
  have hrun := run_buildSlice (P := P) w t i.elem (n + 1) (parts.map fun (i, x) => (i, a.eval x)) arr' inf z (desc_slice ht hs) hi hz1 (by rw [e1]; have : (2 : Nat) ^ 24 = 16777216 := by decide
                                                                                                                                           omega)
    (by rw [e1]; exact Nat.ne_of_gt (Nat.mul_pos (Nat.succ_pos n) hj.spos)) (by rw [e1]; simpa [madeCells] using g1)
  obtain ⟨a1, a2⟩ := hr.alloc (below_alloc' w (.cells arr' i.elem)) (b := w.heap.size) (o := 0) (k := ⟨cs, true, true⟩) (Nat.le_refl _) (alloc_new w _)
    (by simp [g2]) (fun _ => rfl) (.inl rfl) (by simpa using g4)
  refine ⟨_, _, _, _, _, h, upd_le hr.fresh, a1, below_alloc' w _, ?_, hrun⟩
  rw [VR]
  refine .inr ⟨_, _, _, upd_at _ _ _, .inr ⟨_, Nat.le_refl _, rfl, ?_⟩⟩
  rw [g2, g3, m2]
  omega

/-- An empty row. -/
theorem buildNil_sound {t : TypeId} {i j : TI} (ht : TOk P t i) (hs : i.sl = true) (hj : TOk P i.elem j) {w0 : World} {φ : Phi} {w : World} {H : Heap} (hr : HR w0 φ w H) {parts : Array (Nat × Value)} (hp : parts.toList = [])
    {k : AV → Heap → Option β} {r : β} (h : k .nl H = some r) : DoneB w0 φ w H k r fun u w' => (Instr.buildSlice t 0 parts).run P w = .ok u w' := by
  have hun := fun w => run_underlying (desc_slice ht hs) w
  have hbel := below_alloc' w (.cells #[] i.elem)
  refine ⟨.nl, .slice (some ⟨w.heap.size, 0, none⟩) 0 0, φ, H, w.alloc (.cells #[] i.elem), h, PLe.refl _, ?_, hbel, ?_, ?_⟩
  · exact hr.later hbel
  · rw [VR]; exact ⟨_, rfl⟩
  · have hp' : parts = #[] := by apply Array.ext'; simpa using hp
    subst hp'
    simp [Instr.buildSlice, hun, hj.rSize, Instr.fill, newRow, Array.range_zero']

end Go.Proofs.Ytfpmccedangjoaa.Abs
