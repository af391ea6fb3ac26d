/- Each operation does in memory what it does abstractly. -/
import Derived.Laws.StructEq
import Derived.Test.YtfpmccedangjoaaRel
import Derived.Laws.Cells
import Derived.Laws.CopyRow
import Derived.Laws.IdiomCopy
import Derived.Laws.NewFold
import Derived.Maps.AppendAt
import Derived.WalkKit
set_option linter.unusedVariables false
namespace Go.Proofs.Ytfpmccedangjoaa.Abs
open Go Go.RowKit

variable {P : Program}

def descOk (i : TI) : TypeDesc → Bool
  | .struct fs => i.isAgg && !i.isB && !i.sl && (i.fields == fs.toList.map fun f => (f.offset, f.type)) && i.ik.isNone && !i.isStr
  | .slice e => !i.isAgg && !i.isB && i.sl && i.elem == e && i.ik.isNone && !i.isStr
  | .int k => !i.isAgg && !i.isB && !i.sl && i.ik == some k && !i.isStr
  | .string => !i.isAgg && !i.isB && !i.sl && i.ik.isNone && i.isStr
  | .bool => !i.isAgg && i.isB && !i.sl && i.ik.isNone && !i.isStr
  | .pointer _ => !i.isAgg && !i.isB && !i.sl && i.ik.isNone && !i.isStr
  | .func _ _ _ => !i.isAgg && !i.isB && !i.sl && i.ik.isNone && !i.isStr
  | _ => false

structure TOk (P : Program) (t : TypeId) (i : TI) : Prop where
  info : ∃ inf, P.info? t = some inf ∧ inf.size = i.size ∧ inf.bytes = i.bytes ∧ ∃ z, inf.zero = some z ∧ z.cells.toList = i.zero
  desc : ∃ d, P.underlying t = some d ∧ descOk i d = true
  zsz : i.zero.length = i.size
  spos : 0 < i.size
  bpos : 0 < i.bytes
  zlf : ∀ v ∈ i.zero, leafV v = true
  flds : ∀ q ∈ i.fields, ∃ inf, P.info? q.2 = some inf
  eqf : i.eqs = true → i.isAgg = true ∧ P.stoodInHeld t = false ∧ P.eqGuardType P.depth t = false ∧ ∀ f ∈ (P.fieldsOf t).toList, f.name ≠ "_"

def TabOk (P : Program) (ti : Nat → Option TI) : Prop := ∀ t i, ti t = some i → TOk P t i

theorem TOk.rSize {t : TypeId} {i : TI} (h : TOk P t i) (w : World) : (Go.sizeOf t).run P w = .ok i.size w := by
  obtain ⟨inf, h1, h2, _⟩ := h.info
  simp [Go.sizeOf, typeInfo, h1, h2]
theorem TOk.rAgg {t : TypeId} {i : TI} (h : TOk P t i) (w : World) : (Go.isAgg t).run P w = .ok i.isAgg w := by
  obtain ⟨d, h1, h2⟩ := h.desc
  have hu := fun w => run_underlying h1 w
  have key : (Go.isAgg t).run P w = .ok (match d with | .struct _ => true | .array _ _ => true | _ => false) w := by
    simp only [Go.isAgg, Sem.run_bind, hu, Result.andThen_ok]
    cases d <;> rfl
  rw [key]
  cases d <;> simp [descOk] at h2 ⊢ <;> simp [h2]
theorem TOk.under_slice {t : TypeId} {i : TI} (h : TOk P t i) {e : TypeId} (he : P.underlying t = some (.slice e)) : i.elem = e := by
  obtain ⟨d, h1, h2⟩ := h.desc
  rw [he] at h1
  cases h1
  simp [descOk] at h2
  exact h2.1.1.2

theorem one_some {cs : List AV} {c : AV} (h : one cs = some c) : cs = [c] := by
  match cs, h with
  | [x], h => simpa [one] using h

theorem addr_add (b o j : Nat) : (⟨b, o, none⟩ : Addr).add j = ⟨b, o + j, none⟩ := by unfold Addr.add; split <;> simp_all

/-- A variable of n cells is read. -/
theorem run_loadVar {t : TypeId} {i : TI} (ht : TOk P t i) {w0 : World} {φ : Phi} {w : World} {b o : Nat} {cs : List AV} (hl : cs.length = i.size)
    (hc : VRs w0 φ cs (fun j => w.cell? ⟨b, o + j, none⟩)) {v : AV} (hv : (i.isAgg = true ∧ v = .agg cs) ∨ (i.isAgg = false ∧ cs = [v])) :
    ∃ u, (∀ w', Below w.heap.size w w' → (Instr.loadAt t (.pointer (some ⟨b, o, none⟩))).run P w' = .ok u w') ∧ VR w0 φ v u := by
  rw [VRs_iff] at hc
  have old : ∀ (w' : World), Below w.heap.size w w' → ∀ (j : Nat) (u : Value), w.cell? ⟨b, o + j, none⟩ = some u → w'.cell? ⟨b, o + j, none⟩ = some u := by
    intro w' hw j u hu
    have hb : b < w.heap.size := by
      rcases Nat.lt_or_ge b w.heap.size with h | h
      · exact h
      · simp [World.cell?, Array.getElem?_eq_none h] at hu
    rw [hw.cell (p := ⟨b, o + j, none⟩) hb]
    exact hu
  rcases hv with ⟨ha, rfl⟩ | ⟨ha, rfl⟩
  · obtain ⟨us, hus⟩ : ∃ us : List Value, us.length = cs.length ∧ ∀ j x, cs[j]? = some x → ∃ u, us[j]? = some u ∧ w.cell? ⟨b, o + j, none⟩ = some u ∧ VR w0 φ x u := by
      refine ⟨(List.range cs.length).map fun j => (w.cell? ⟨b, o + j, none⟩).getD undef, by simp, fun j x hj => ?_⟩
      obtain ⟨u, h1, h2⟩ := hc j x hj
      have hlt : j < cs.length := (List.getElem?_eq_some_iff.1 hj).1
      exact ⟨u, by simp [hlt, h1], h1, h2⟩
    have hrun := fun (w' : World) (hw : Below w.heap.size w w') => run_loadCells_list (P := P) w' ⟨b, o, none⟩ us (fun j v hj => by
      have hlt : j < cs.length := by rw [← hus.1]; exact (List.getElem?_eq_some_iff.1 hj).1
      obtain ⟨u, h1, h2, _⟩ := hus.2 j _ (List.getElem?_eq_getElem hlt)
      rw [hj] at h1
      cases h1
      rw [addr_add]
      exact old w' hw j _ h2)
    rw [hus.1, hl] at hrun
    refine ⟨.agg us.toArray, ?_, ?_⟩
    · intro w' hw
      simp only [Instr.loadAt, Instr.sureAddr, Sem.run_bind, Sem.run_pure, Result.andThen_ok, loadVar, ht.rAgg, ha, if_true, ht.rSize, hrun w' hw]
    · rw [VR]
      refine ⟨us, rfl, hus.1, ?_⟩
      rw [VRs_iff]
      exact fun j x hj => let ⟨u, h1, _, h3⟩ := hus.2 j x hj; ⟨u, h1, h3⟩
  · obtain ⟨u, h1, h2⟩ := hc 0 v rfl
    refine ⟨u, ?_, h2⟩
    intro w' hw
    have h1 := old w' hw 0 u h1
    simp only [Nat.add_zero] at h1
    simp only [Instr.loadAt, Instr.sureAddr, Sem.run_bind, Sem.run_pure, Result.andThen_ok, loadVar, ht.rAgg, ha, Bool.false_eq_true, if_false, run_load, h1]

theorem rd_cells {w0 : World} {φ : Phi} {w : World} {H : Heap} (hr : HR w0 φ w H) {id off n : Nat} {cs : List AV} (h : rdCells H id off n = some cs) {b o sz : Nat} (hp : φ id = some (.pt b o sz)) :
    cs.length = n ∧ VRs w0 φ cs (fun j => w.cell? ⟨b, o + off + j, none⟩) := by
  unfold rdCells at h
  split at h
  · rename_i k hk
    split at h
    · rename_i hlv
      split at h
      · rename_i hle
        simp only [Option.some.injEq] at h
        subst h
        refine ⟨by simp; omega, ?_⟩
        obtain ⟨hb, arr, e, fr, h1, h2, h3, h4, h5, h6⟩ := hr.blk id k b o sz hk hlv hp
        rw [VRs_iff] at h6 ⊢
        intro j x hj
        rw [List.getElem?_take] at hj
        split at hj
        · rename_i hjn
          rw [List.getElem?_drop] at hj
          obtain ⟨u, g1, g2⟩ := h6 (off + j) x hj
          refine ⟨u, ?_, g2⟩
          simp only [World.cell?, h1]
          rw [show o + off + j = o + (off + j) by omega]
          simpa using g1
        · cases hj
      · cases h
    · cases h
  · cases h

/-- What lies below w0's blocks reads as it did. -/
theorem below_cell {w0 w : World} (h : Below w0.heap.size w0 w) {b o : Nat} (hb : b < w0.heap.size) : w.cell? ⟨b, o, none⟩ = w0.cell? ⟨b, o, none⟩ :=
  h.cell (p := ⟨b, o, none⟩) hb

theorem VRs_take {w0 : World} {φ : Phi} {xs : List AV} {g : Nat → Option Value} (h : VRs w0 φ xs g) (n : Nat) : VRs w0 φ (xs.take n) g := by
  rw [VRs_iff] at *
  intro j x hj
  rw [List.getElem?_take] at hj
  split at hj
  · exact h j x hj
  · cases hj
theorem VRs_drop {w0 : World} {φ : Phi} {xs : List AV} {g : Nat → Option Value} (h : VRs w0 φ xs g) (n : Nat) : VRs w0 φ (xs.drop n) (fun j => g (n + j)) := by
  rw [VRs_iff] at *
  intro j x hj
  rw [List.getElem?_drop] at hj
  exact h (n + j) x hj

variable {β : Type}

theorem load_sound {t : TypeId} {i : TI} (ht : TOk P t i) {w0 : World} {φ : Phi} {w : World} {H : Heap} (hr : HR w0 φ w H) {x : AV} {u : Value} (hx : VR w0 φ x u) {k : AV → Option β} {r : β}
    (h : pLoad i.isAgg i.size x H k = some r) : ∃ v uv, k v = some r ∧ VR w0 φ v uv ∧ ∀ w', Below w.heap.size w w' → (Instr.loadAt t u).run P w' = .ok uv w' := by
  have fin : ∀ (b o : Nat) (cs : List AV), cs.length = i.size → VRs w0 φ cs (fun j => w.cell? ⟨b, o + j, none⟩) → (if i.isAgg then k (.agg cs) else (one cs).bind k) = some r →
      ∃ v uv, k v = some r ∧ VR w0 φ v uv ∧ ∀ w', Below w.heap.size w w' → (Instr.loadAt t (.pointer (some ⟨b, o, none⟩))).run P w' = .ok uv w' := by
    intro b o cs hl hc hk
    cases ha : i.isAgg with
    | true =>
      rw [ha, if_pos rfl] at hk
      obtain ⟨uv, h1, h2⟩ := run_loadVar ht hl hc (v := .agg cs) (.inl ⟨ha, rfl⟩)
      exact ⟨_, uv, hk, h2, h1⟩
    | false =>
      rw [ha, if_neg (by simp)] at hk
      obtain ⟨v, hv, hk⟩ := Option.bind_eq_some_iff.1 hk
      obtain ⟨uv, h1, h2⟩ := run_loadVar ht hl hc (v := v) (.inr ⟨ha, one_some hv⟩)
      exact ⟨_, uv, hk, h2, h1⟩
  cases x <;> simp only [pLoad] at h <;> try cases h
  · rename_i id off
    obtain ⟨cs, hcs, hk⟩ := Option.bind_eq_some_iff.1 h
    rw [VR] at hx
    obtain ⟨b, o, sz, hp, rfl⟩ := hx
    obtain ⟨hl, hc⟩ := rd_cells hr hcs hp
    exact fin b (o + off) cs hl hc hk
  · rename_i cells
    split at h
    · rename_i hle
      rw [VR] at hx
      obtain ⟨b, o, rfl, hb, hc⟩ := hx
      refine fin b o (cells.take i.size) (by simp; omega) ?_ h
      have := VRs_take (VRs.mono (PLe.none φ) hc) i.size
      simpa only [below_cell hr.bel hb] using this
    · cases h

theorem leaf_one {v : Value} (h : leafV v = true) : v.oneCell' = true := by cases v <;> first | rfl | cases h

theorem setCells_other (b : Nat) : ∀ (vs : List Value) (o : Nat) (w : World) (c : Nat), c ≠ b → (w.setCells b o vs).heap[c]? = w.heap[c]?
  | [], _, _, _, _ => rfl
  | v :: r, o, w, c, h => by
    rw [World.setCells, setCells_other b r _ _ c h]
    simp only [World.setCell, Array.getElem?_modify]
    rw [if_neg (by omega)]
theorem setCells_same (b : Nat) : ∀ (vs : List Value) (o : Nat) (w : World), (w.setCells b o vs).os = w.os ∧ (w.setCells b o vs).tape = w.tape ∧ (w.setCells b o vs).output = w.output ∧ (w.setCells b o vs).heap.size = w.heap.size
  | [], _, _ => ⟨rfl, rfl, rfl, rfl⟩
  | v :: r, o, w => by
    obtain ⟨h1, h2, h3, h4⟩ := setCells_same b r (o + 1) (w.setCell ⟨b, o, none⟩ v)
    exact ⟨h1, h2, h3, h4.trans (by simp [World.setCell])⟩
theorem setCells_heap (b : Nat) (e : TypeId) (fr : Nat × Nat) : ∀ (vs : List Value) (o : Nat) (w : World) (arr : Array Value), w.heap[b]? = some (.cells arr e fr) → o + vs.length ≤ arr.size →
    ∃ arr', (w.setCells b o vs).heap[b]? = some (.cells arr' e fr) ∧ arr'.size = arr.size ∧ ∀ j, arr'[j]? = if o ≤ j ∧ j < o + vs.length then vs[j - o]? else arr[j]?
  | [], o, w, arr, h, _ => ⟨arr, h, rfl, fun j => by rw [if_neg (by simp)]⟩
  | v :: r, o, w, arr, h, hl => by
    simp only [List.length_cons] at hl
    have h1 : (w.setCell ⟨b, o, none⟩ v).heap[b]? = some (.cells (arr.setIfInBounds o v) e fr) := by
      simp only [World.setCell, Array.getElem?_modify, if_true, h, Option.map_some]
      simp
    obtain ⟨arr', g1, g2, g3⟩ := setCells_heap b e fr r (o + 1) _ _ h1 (by simp; omega)
    refine ⟨arr', g1, by simpa using g2, fun j => ?_⟩
    rw [g3 j, Array.getElem?_setIfInBounds]
    by_cases hj : o + 1 ≤ j ∧ j < o + 1 + r.length
    · rw [if_pos hj, if_pos (by simp; omega), show j - o = (j - (o + 1)) + 1 by omega]
      rfl
    · rw [if_neg hj]
      by_cases hoj : o = j
      · subst hoj
        rw [if_pos rfl, if_pos (by omega), if_pos (by simp), Nat.sub_self]
        rfl
      · rw [if_neg hoj, if_neg (by simp; omega)]

theorem splice_len {cs vs : List AV} {off : Nat} (h : off + vs.length ≤ cs.length) : (splice cs off vs).length = cs.length := by
  unfold splice
  simp
  omega
theorem splice_get {cs vs : List AV} {off : Nat} (h : off + vs.length ≤ cs.length) (j : Nat) : (splice cs off vs)[j]? = if off ≤ j ∧ j < off + vs.length then vs[j - off]? else cs[j]? := by
  unfold splice
  by_cases h1 : j < off
  · rw [if_neg (by omega), List.append_assoc, List.getElem?_append_left (by simp; omega), List.getElem?_take, if_pos h1]
  · by_cases h2 : j < off + vs.length
    · rw [if_pos (by omega), List.getElem?_append_left (by simp; omega), List.getElem?_append_right (by simp; omega)]
      congr 1
      simp
      omega
    · rw [if_neg (by omega), List.getElem?_append_right (by simp; omega), List.getElem?_drop]
      congr 1
      simp
      omega

theorem below_of_fr {w0 : World} {φ : Phi} {w w' : World} {H : Heap} (hr : HR w0 φ w H) (hf : Fr φ H w w') : Below w0.heap.size w0 w' := by
  refine hr.bel.trans ⟨hf.os, hf.tape, hf.output, hf.size, fun b hb => hf.block b (Nat.lt_of_lt_of_le hb hr.bel.size) ?_⟩
  intro id k o sz hk hlv hp
  have := (hr.blk id k b o sz hk hlv hp).1
  omega

theorem HR.later {w0 : World} {φ : Phi} {w w' : World} {H : Heap} (hr : HR w0 φ w H) (hw : Below w.heap.size w w') : HR w0 φ w' H where
  bel := below_of_fr hr (Fr.of_below hw)
  blk := by
    intro id k b o sz hk hl hp
    obtain ⟨h1, arr, e, fr, h2, h3⟩ := hr.blk id k b o sz hk hl hp
    exact ⟨h1, arr, e, fr, by rw [hw.block b (Array.getElem?_eq_some_iff.1 h2).1]; exact h2, h3⟩
  nil := hr.nil
  inj := hr.inj
  dom := hr.dom

/-- Cells of a block of the call's own are written. -/
theorem HR.write {w0 : World} {φ : Phi} {w : World} {H : Heap} (hr : HR w0 φ w H) {id : Nat} {k : Blk} {b o sz : Nat} (hk : H[id]? = some k) (hlv : k.live = true) (hp : φ id = some (.pt b o sz))
    {off : Nat} {cs : List AV} {vs : List Value} (hle : off + cs.length ≤ k.cells.length) (hl : vs.length = cs.length) (hc : VRs w0 φ cs (fun j => vs[j]?)) :
    HR w0 φ (w.setCells b (o + off) vs) (H.set id { k with cells := splice k.cells off cs }) ∧ Fr φ H w (w.setCells b (o + off) vs) := by
  obtain ⟨hb, arr, e, fr, h1, h2, h3, h4, h5, h6⟩ := hr.blk id k b o sz hk hlv hp
  obtain ⟨s1, s2, s3, s4⟩ := setCells_same b vs (o + off) w
  obtain ⟨arr', g1, g2, g3⟩ := setCells_heap b e fr vs (o + off) w arr h1 (by omega)
  have hid : id < H.length := (List.getElem?_eq_some_iff.1 hk).1
  have hfr : Fr φ H w (w.setCells b (o + off) vs) := ⟨s1, s2, s3, by omega, fun c _ hc => setCells_other b vs _ w c (fun he => hc id k o sz hk hlv (by rw [he]; exact hp))⟩
  have hlen := splice_len (cs := k.cells) (vs := cs) (off := off) hle
  -- a live block of the new heap is one of the old heap at its place
  have back : ∀ (i : Nat) (k' : Blk), (H.set id { k with cells := splice k.cells off cs })[i]? = some k' → k'.live = true → ∃ k0 : Blk, H[i]? = some k0 ∧ k0.live = true := by
    intro i k' hi hlv'
    rw [List.getElem?_set] at hi
    split at hi
    · rename_i he
      subst he
      exact ⟨k, hk, hlv⟩
    · exact ⟨k', hi, hlv'⟩
  refine ⟨⟨below_of_fr hr hfr, ?_, ?_, ?_, ?_⟩, hfr⟩
  · intro i k' b' o' sz' hi hlv' hp'
    rw [List.getElem?_set] at hi
    split at hi
    · rename_i he
      subst he
      simp only [Option.some.injEq] at hi
      subst hi
      rw [hp] at hp'
      cases hp'
      refine ⟨hb, arr', e, fr, g1, g2.trans h2, by simpa [hlen] using h3, h4, by simpa [hlen] using h5, ?_⟩
      rw [VRs_iff] at h6 hc ⊢
      intro j x hj
      rw [splice_get hle] at hj
      rw [g3 (o + j)]
      split at hj
      · rename_i hj1
        rw [if_pos (by omega), show o + j - (o + off) = j - off by omega]
        exact hc _ x hj
      · rename_i hj1
        rw [if_neg (by omega)]
        exact h6 j x hj
    · rename_i he
      obtain ⟨hb', arr2, e2, fr2, q1, q2⟩ := hr.blk i k' b' o' sz' hi hlv' hp'
      refine ⟨hb', arr2, e2, fr2, ?_, q2⟩
      rw [setCells_other b vs _ w b' (fun hbb => he (hr.inj id i k k' b o sz o' sz' hk hi hlv hlv' hp (by rw [← hbb]; exact hp')))]
      exact q1
  · intro i k' hi hlv' hp'
    rw [List.getElem?_set] at hi
    split at hi
    · rename_i he
      subst he
      rw [hp] at hp'
      cases hp'
    · exact hr.nil i k' hi hlv' hp'
  · intro i i' k1 k2 b1 o1 sz1 o2 sz2 hi hi' hl1 hl2 hp1 hp2
    obtain ⟨k1', e1, l1⟩ := back i k1 hi hl1
    obtain ⟨k2', e2, l2⟩ := back i' k2 hi' hl2
    exact hr.inj i i' k1' k2' b1 o1 sz1 o2 sz2 e1 e2 l1 l2 hp1 hp2
  · intro i p hp'
    simpa using hr.dom i p hp'

/-- A new block. -/
def upd (φ : Phi) (id : Nat) (p : Pl) : Phi := fun i => if i = id then some p else φ i
theorem upd_le {φ : Phi} {id : Nat} {p : Pl} (h : φ id = none) : PLe φ (upd φ id p) := by
  intro i q hq
  unfold upd
  split
  · rename_i he
    subst he
    rw [h] at hq
    cases hq
  · exact hq
theorem upd_at (φ : Phi) (id : Nat) (p : Pl) : upd φ id p id = some p := by simp [upd]

theorem HR.fresh {w0 : World} {φ : Phi} {w : World} {H : Heap} (hr : HR w0 φ w H) : φ H.length = none := by
  cases h : φ H.length with
  | none => rfl
  | some p => have := hr.dom _ _ h; omega

theorem HR.alloc {w0 : World} {φ : Phi} {w w' : World} {H : Heap} (hr : HR w0 φ w H) (hw : Below w.heap.size w w') {b o : Nat} {k : Blk} {arr : Array Value} {e : TypeId} {fr : Nat × Nat}
    (hbn : w.heap.size ≤ b) (hb : w'.heap[b]? = some (.cells arr e fr)) (hl : o + k.cells.length ≤ arr.size) (ha : k.app = true → fr = (0, 0)) (hf : fr = (0, 0) ∨ o + k.cells.length ≤ fr.1)
    (hc : VRs w0 φ k.cells (fun j => arr[o + j]?)) : HR w0 (upd φ H.length (.pt b o arr.size)) w' (H ++ [k]) ∧ Fr φ H w w' := by
  have hle := upd_le (p := Pl.pt b o arr.size) hr.fresh
  have hfr : Fr φ H w w' := Fr.of_below hw
  have hlt : ∀ (i : Nat) (k' : Blk) (bb oo ss : Nat), H[i]? = some k' → k'.live = true → φ i = some (.pt bb oo ss) → bb < w.heap.size := by
    intro i k' bb oo ss hi hlv hp
    obtain ⟨_, arr2, _, _, q1, _⟩ := hr.blk i k' bb oo ss hi hlv hp
    exact (Array.getElem?_eq_some_iff.1 q1).1
  have old : ∀ (i : Nat) (k' : Blk), (H ++ [k])[i]? = some k' → i ≠ H.length → H[i]? = some k' := by
    intro i k' hi hne
    have : i < H.length := by
      have := (List.getElem?_eq_some_iff.1 hi).1
      simp at this
      omega
    rwa [List.getElem?_append_left this] at hi
  have oldp : ∀ (i : Nat) (p : Pl), upd φ H.length (.pt b o arr.size) i = some p → i ≠ H.length → φ i = some p := by
    intro i p hp hne
    unfold upd at hp
    rwa [if_neg hne] at hp
  refine ⟨⟨below_of_fr hr hfr, ?_, ?_, ?_, ?_⟩, hfr⟩
  · intro i k' b' o' sz' hi hlv' hp'
    by_cases he : i = H.length
    · subst he
      rw [upd_at] at hp'
      cases hp'
      simp at hi
      subst hi
      exact ⟨Nat.le_trans hr.bel.size hbn, arr, e, fr, hb, rfl, hl, ha, hf, VRs.mono hle hc⟩
    · obtain ⟨h1, arr2, e2, fr2, q1, q2, q3, q4, q5, q6⟩ := hr.blk i k' b' o' sz' (old i k' hi he) hlv' (oldp i _ hp' he)
      exact ⟨h1, arr2, e2, fr2, by rw [hw.block b' (hlt i k' b' o' sz' (old i k' hi he) hlv' (oldp i _ hp' he))]; exact q1, q2, q3, q4, q5, VRs.mono hle q6⟩
  · intro i k' hi hlv' hp'
    by_cases he : i = H.length
    · subst he
      rw [upd_at] at hp'
      cases hp'
    · exact hr.nil i k' (old i k' hi he) hlv' (oldp i _ hp' he)
  · intro i i' k1 k2 b1 o1 sz1 o2 sz2 hi hi' hl1 hl2 hp1 hp2
    by_cases he : i = H.length
    · by_cases he' : i' = H.length
      · omega
      · subst he
        rw [upd_at] at hp1
        cases hp1
        have := hlt i' k2 _ o2 sz2 (old i' k2 hi' he') hl2 (oldp i' _ hp2 he')
        omega
    · by_cases he' : i' = H.length
      · subst he'
        rw [upd_at] at hp2
        cases hp2
        have := hlt i k1 _ o1 sz1 (old i k1 hi he) hl1 (oldp i _ hp1 he)
        omega
      · exact hr.inj i i' k1 k2 b1 o1 sz1 o2 sz2 (old i k1 hi he) (old i' k2 hi' he') hl1 hl2 (oldp i _ hp1 he) (oldp i' _ hp2 he')
  · intro i p hp'
    by_cases he : i = H.length
    · subst he; simp
    · have := hr.dom i p (oldp i _ hp' he); simp; omega

theorem store_sound {t : TypeId} {i : TI} (ht : TOk P t i) {w0 : World} {φ : Phi} {w : World} {H : Heap} (hr : HR w0 φ w H) {x y : AV} {u v : Value} (hx : VR w0 φ x u) (hy : VR w0 φ y v) {k : Heap → Option β} {r : β}
    (h : pStore i.size x y H k = some r) : ∃ H' w', k H' = some r ∧ HR w0 φ w' H' ∧ Fr φ H w w' ∧ (Instr.storeAt t u v).run P w = .ok () w' := by
  cases x <;> simp only [pStore] at h <;> try cases h
  rename_i id off
  rw [VR] at hx
  obtain ⟨b, o, sz, hp, rfl⟩ := hx
  split at h
  · rename_i kk hk
    obtain ⟨cs, hcs, h⟩ := Option.bind_eq_some_iff.1 h
    split at h
    · rename_i hlv
      split at h
      · rename_i hn
        split at h
        · rename_i hle
          obtain ⟨hl, hc, hlf⟩ := cells_VR hy hcs
          obtain ⟨h1, h2⟩ := hr.write hk hlv hp (off := off) (cs := cs) (vs := v.cells.toList) (by omega) hl hc
          refine ⟨_, _, h, h1, h2, ?_⟩
          obtain ⟨hb, arr, e, fr, q1, q2, q3, q4, q5, q6⟩ := hr.blk id kk b o sz hk hlv hp
          have hsz : v.cells.size = i.size := by rw [← hn, ← hl]; simp
          have hst := run_storeCells_cells (P := P) b (o + off) v.cells.toList 0 w
            (fun j hj => by
              have hlt : o + off + j < arr.size := by omega
              simp [World.cell?, q1, hlt])
            (fun j hj => by
              simp only [World.frozen?, q1]
              rcases q5 with q5 | q5
              · rw [q5]; simp
              · obtain ⟨f1, f2⟩ := fr
                simp at q5 ⊢
                intro hh
                omega)
            (fun x hx => leaf_one (hlf x hx))
          simp only [Nat.add_zero] at hst
          simp only [Instr.storeAt, Instr.sureAddr, Sem.run_bind, Sem.run_pure, Result.andThen_ok, storeVar, ht.rSize, hsz, ne_eq, not_true_eq_false, if_false]
          exact hst
        · cases h
      · cases h
    · cases h
  · cases h

theorem below_alloc' (w : World) (o : Obj) : Below w.heap.size w (w.alloc o) := (Below.refl _ _).alloc (Nat.le_refl _) o
theorem alloc_new (w : World) (o : Obj) : (w.alloc o).heap[w.heap.size]? = some o := by
  show (w.heap.push o)[w.heap.size]? = some o
  simp

/-- What an operation without a callee leaves: a value, what is behind it, the memory. -/
def Done (w0 : World) (φ : Phi) (w : World) (H : Heap) (k : AV → Heap → Option β) (r : β) (res : Value → World → Prop) : Prop :=
  ∃ v u φ' H' w', k v H' = some r ∧ PLe φ φ' ∧ HR w0 φ' w' H' ∧ Fr φ H w w' ∧ VR w0 φ' v u ∧ res u w'

/-- The same, where nothing that was there has changed. -/
def DoneB (w0 : World) (φ : Phi) (w : World) (H : Heap) (k : AV → Heap → Option β) (r : β) (res : Value → World → Prop) : Prop :=
  ∃ v u φ' H' w', k v H' = some r ∧ PLe φ φ' ∧ HR w0 φ' w' H' ∧ Below w.heap.size w w' ∧ VR w0 φ' v u ∧ res u w'

theorem new_sound {w0 : World} {φ : Phi} {w : World} {H : Heap} (hr : HR w0 φ w H) {cs : List AV} {arr : Array Value} (e : TypeId) (hl : arr.size = cs.length) (hc : VRs w0 φ cs (fun j => arr[j]?))
    {k : AV → Heap → Option β} {r : β} (h : pNew cs H k = some r) : DoneB w0 φ w H k r fun u w' => u = .pointer (some ⟨w.heap.size, 0, none⟩) ∧ w' = w.alloc (.cells arr e) := by
  obtain ⟨h1, h2⟩ := hr.alloc (below_alloc' w (.cells arr e)) (b := w.heap.size) (o := 0) (k := ⟨cs, true, true⟩) (Nat.le_refl _) (alloc_new w _) (by simpa using Nat.le_of_eq hl.symm) (fun _ => rfl) (.inl rfl) (by simpa using hc)
  refine ⟨_, _, _, _, _, h, upd_le hr.fresh, h1, below_alloc' w _, ?_, rfl, rfl⟩
  rw [VR]
  exact ⟨_, _, _, upd_at _ _ _, rfl⟩

theorem run_zeroValue {t : TypeId} {i : TI} (ht : TOk P t i) (w : World) : ∃ z, (zeroValue t).run P w = .ok z w ∧ z.cells.toList = i.zero := by
  obtain ⟨inf, h1, _, _, z, h2, h3⟩ := ht.info
  exact ⟨z, by simp [zeroValue, typeInfo, h1, h2], h3⟩
theorem zeroA_VRs (w0 : World) (φ : Phi) (i : TI) {z : Value} (h : z.cells.toList = i.zero) : VRs w0 φ (zeroA i) (fun j => z.cells[j]?) := by
  have e : (fun j : Nat => z.cells[j]?) = fun j => i.zero[j]? := by
    funext j
    rw [← h, Array.getElem?_toList]
  rw [e]
  exact VRs_ofCell w0 φ i.zero

theorem alloc_sound {t : TypeId} {i : TI} (ht : TOk P t i) {w0 : World} {φ : Phi} {w : World} {H : Heap} (hr : HR w0 φ w H) {k : AV → Heap → Option β} {r : β}
    (h : pNew (zeroA i) H k = some r) : DoneB w0 φ w H k r fun u w' => (Instr.alloc t true (.tuple #[])).run P w = .ok u w' := by
  obtain ⟨z, hz, hzc⟩ := run_zeroValue ht w
  have hsz : z.cells.size = i.size := by
    obtain ⟨inf, h1, h2, _, z', h3, h4⟩ := ht.info
    have e : (zeroA i).length = z.cells.toList.length := by rw [hzc]; simp [zeroA]
    rw [← ht.zsz, ← hzc]
    simp
  obtain ⟨v, u, φ', H', w', g1, g2, g3, g4, g5, rfl, rfl⟩ := new_sound hr t (cs := zeroA i) (arr := z.cells) (by rw [hsz, ← ht.zsz]; simp [zeroA]) (zeroA_VRs w0 φ i hzc) h
  refine ⟨v, _, φ', H', _, g1, g2, g3, g4, g5, ?_⟩
  simp only [Instr.alloc, Sem.run_bind, hz, Result.andThen_ok, newVar, newRow, run_newObj_alloc, Sem.run_pure]

theorem box_sound (t : TypeId) {w0 : World} {φ : Phi} {w : World} {H : Heap} (hr : HR w0 φ w H) {x : AV} {u : Value} (hx : VR w0 φ x u) {k : AV → Heap → Option β} {r : β}
    (h : pBox x H k = some r) : DoneB w0 φ w H k r fun v w' => (Instr.box t u).run P w = .ok v w' := by
  obtain ⟨cs, hcs, h⟩ := Option.bind_eq_some_iff.1 h
  obtain ⟨hl, hc, _⟩ := cells_VR hx hcs
  obtain ⟨v, u', φ', H', w', g1, g2, g3, g4, g5, rfl, rfl⟩ := new_sound hr t (cs := cs) (arr := u.cells) (by simpa using hl) (by simpa using hc) h
  refine ⟨v, _, φ', H', _, g1, g2, g3, g4, g5, ?_⟩
  simp only [Instr.box, Sem.run_bind, Result.andThen_ok, newVar, newRow, run_newObj_alloc, Sem.run_pure]

theorem fields_get {i : TI} {fs : Array Field} (h : descOk i (.struct fs) = true) {f : Nat} {o : Nat} {t : TypeId} (hf : i.fields[f]? = some (o, t)) : ∃ fd, fs[f]? = some fd ∧ fd.offset = o ∧ fd.type = t := by
  simp only [descOk, Bool.and_eq_true, beq_iff_eq] at h
  rw [h.1.1.2, List.getElem?_map] at hf
  obtain ⟨fd, h1, h2⟩ := Option.map_eq_some_iff.1 hf
  cases h2
  exact ⟨fd, by simpa using h1, rfl, rfl⟩
theorem desc_fields {t : TypeId} {i : TI} (ht : TOk P t i) {f : Nat} {p : Nat × Nat} (hf : i.fields[f]? = some p) (hagg : i.isAgg = true) : ∃ fs, P.underlying t = some (.struct fs) ∧ descOk i (.struct fs) = true := by
  obtain ⟨d, h1, h2⟩ := ht.desc
  cases d <;> simp [descOk, hagg] at h2
  rename_i fs
  exact ⟨fs, h1, by simp [descOk, hagg, h2]⟩

theorem fadr_sound {t : TypeId} {i : TI} (ht : TOk P t i) (hagg : i.isAgg = true) {f off : Nat} {ft : TypeId} (hf : i.fields[f]? = some (off, ft)) {j : TI} (hft : TOk P ft j) (hj : j.size ≠ 0)
    {w0 : World} {φ : Phi} {w : World} {H : Heap} (hr : HR w0 φ w H) {x : AV} {u : Value} (hx : VR w0 φ x u) {k : AV → Option β} {r : β}
    (h : pFadr off x k = some r) : ∃ v uv, k v = some r ∧ VR w0 φ v uv ∧ ∀ w, (Instr.fieldAt t u f).run P w = .ok uv w := by
  obtain ⟨fs, hu, hd⟩ := desc_fields ht hf hagg
  obtain ⟨fd, h1, rfl, rfl⟩ := fields_get hd hf
  have hun := fun w => run_underlying hu w
  have run : ∀ b o w, (Instr.fieldAt t (.pointer (some ⟨b, o, none⟩)) f).run P w = .ok (.pointer (some ⟨b, o + fd.offset, none⟩)) w := by
    intro b o w
    simp only [Instr.fieldAt, Sem.run_bind, hun, Result.andThen_ok, h1, Instr.sureAddr, Sem.run_pure, fieldPlace, hft.rSize, hj, if_false, addr_add]
  cases x <;> simp only [pFadr] at h <;> try cases h
  · rw [VR] at hx
    obtain ⟨b, o, sz, hp, rfl⟩ := hx
    refine ⟨_, _, h, ?_, run _ _⟩
    rw [VR]
    exact ⟨b, o, sz, hp, by rw [Nat.add_assoc]⟩
  · rw [VR] at hx
    obtain ⟨b, o, rfl, hb, hc⟩ := hx
    refine ⟨_, _, h, ?_, run _ _⟩
    rw [VR]
    refine ⟨b, o + fd.offset, rfl, hb, ?_⟩
    simpa only [Nat.add_assoc] using VRs_drop hc fd.offset

theorem asI_VR {w0 : World} {φ : Phi} {x : AV} {u : Value} (h : VR w0 φ x u) {n : Int} (hn : asI x = some n) : ∃ kd, u = .int kd n := by
  match x, hn with
  | .sc (.int kd m), hn =>
    simp only [asI, Option.some.injEq] at hn
    subst hn
    rw [VR] at h
    exact ⟨kd, h⟩
theorem asB_VR {w0 : World} {φ : Phi} {x : AV} {u : Value} (h : VR w0 φ x u) {b : Bool} (hn : asB x = some b) : u = .bool b := by
  match x, hn with
  | .sc (.bool b'), hn =>
    simp only [asB, Option.some.injEq] at hn
    subst hn
    rw [VR] at h
    exact h
theorem asS_VR {w0 : World} {φ : Phi} {x : AV} {u : Value} (h : VR w0 φ x u) {s : ByteArray} (hn : asS x = some s) : u = .string s := by
  match x, hn with
  | .sc (.string b'), hn =>
    simp only [asS, Option.some.injEq] at hn
    subst hn
    rw [VR] at h
    exact h

theorem desc_slice {t : TypeId} {i : TI} (ht : TOk P t i) (hs : i.sl = true) : P.underlying t = some (.slice i.elem) := by
  obtain ⟨d, g1, g2⟩ := ht.desc
  cases d <;> simp [descOk, hs] at g2
  rename_i e
  rw [g1, g2.1.1.2]
theorem desc_bool {t : TypeId} {i : TI} (ht : TOk P t i) (hs : i.isB = true) : P.underlying t = some .bool := by
  obtain ⟨d, g1, g2⟩ := ht.desc
  cases d <;> simp [descOk, hs] at g2
  rw [g1]
theorem desc_str {t : TypeId} {i : TI} (ht : TOk P t i) (hs : i.isStr = true) : P.underlying t = some .string := by
  obtain ⟨d, g1, g2⟩ := ht.desc
  cases d <;> simp [descOk, hs] at g2
  rw [g1]
theorem desc_int {t : TypeId} {i : TI} {kd : IntKind} (ht : TOk P t i) (hs : i.ik = some kd) : P.underlying t = some (.int kd) := by
  obtain ⟨d, g1, g2⟩ := ht.desc
  cases d <;> simp [descOk, hs] at g2
  rename_i e
  rw [g1, g2.1.2]

end Go.Proofs.Ytfpmccedangjoaa.Abs
