/- What an abstract value says of a value of the machine; what an abstract heap says of the machine's memory. -/
import Derived.Test.YtfpmccedangjoaaAbs
import Derived.Below
namespace Go.Proofs.Ytfpmccedangjoaa.Abs
open Go Go.RowKit

/-- Where a block lies: nowhere (a nil slice), or in a block of the machine, from a place on, of so many cells in all. -/
inductive Pl where
  | nl
  | pt (b o sz : Nat)

abbrev Phi := Nat → Option Pl
def noPhi : Phi := fun _ => none
def PLe (φ φ' : Phi) : Prop := ∀ id p, φ id = some p → φ' id = some p
theorem PLe.refl (φ : Phi) : PLe φ φ := fun _ _ h => h
theorem PLe.trans {a b c : Phi} (h : PLe a b) (k : PLe b c) : PLe a c := fun id p hp => k id p (h id p hp)
theorem PLe.none (φ : Phi) : PLe noPhi φ := fun _ _ h => by cases h

def SlR (φ : Phi) (id off n z : Nat) (u : Value) : Prop :=
  (φ id = some .nl ∧ off = 0 ∧ n = 0 ∧ ∃ A, u = .slice A 0 0) ∨
  ∃ b o sz, φ id = some (.pt b o sz) ∧ ((n = 0 ∧ ∃ A, u = .slice A 0 0) ∨ ∃ c, n ≤ c ∧ u = .slice (some ⟨b, o + off, none⟩) n c ∧ o + off + c * z ≤ sz)
def PtR (φ : Phi) (id off : Nat) (u : Value) : Prop := ∃ b o sz, φ id = some (.pt b o sz) ∧ u = .pointer (some ⟨b, o + off, none⟩)

mutual
/-- The value that is told of by an abstract one; w0: the world whose blocks stay. -/
def VR (w0 : World) (φ : Phi) : AV → Value → Prop
  | .any, _ => True
  | .sc v, u => u = v
  | .nl, u => ∃ A, u = .slice A 0 0
  | .ro n cells, u => ∃ A c, u = .slice A n c ∧ n ≤ c ∧ (cells = [] ∨ ∃ b o, A = some ⟨b, o, none⟩ ∧ b < w0.heap.size ∧ VRs w0 noPhi cells (fun j => w0.cell? ⟨b, o + j, none⟩))
  | .sl id off n z, u => SlR φ id off n z u
  | .ptr id off, u => PtR φ id off u
  | .rp cells, u => ∃ b o, u = .pointer (some ⟨b, o, none⟩) ∧ b < w0.heap.size ∧ VRs w0 noPhi cells (fun j => w0.cell? ⟨b, o + j, none⟩)
  | .agg cells, u => ∃ xs : List Value, u = .agg xs.toArray ∧ xs.length = cells.length ∧ VRs w0 φ cells (fun j => xs[j]?)
  | .tup cells, u => ∃ xs : List Value, u = .tuple xs.toArray ∧ xs.length = cells.length ∧ VRs w0 φ cells (fun j => xs[j]?)
  | .fn f a c, u => ∃ xs ys : List Value, u = .func (.func f) xs.toArray ys.toArray ∧ xs.length = a.length ∧ ys.length = c.length ∧ VRs w0 φ a (fun j => xs[j]?) ∧ VRs w0 φ c (fun j => ys[j]?)
def VRs (w0 : World) (φ : Phi) : List AV → (Nat → Option Value) → Prop
  | [], _ => True
  | x :: xs, g => (∃ u, g 0 = some u ∧ VR w0 φ x u) ∧ VRs w0 φ xs (fun j => g (j + 1))
end

theorem VRs_iff {w0 : World} {φ : Phi} : ∀ {xs : List AV} {g : Nat → Option Value}, VRs w0 φ xs g ↔ ∀ j x, xs[j]? = some x → ∃ u, g j = some u ∧ VR w0 φ x u
  | [], g => by simp [VRs]
  | x :: xs, g => by
    rw [VRs, VRs_iff]
    constructor
    · rintro ⟨h0, h⟩ j y hj
      cases j with
      | zero => simp at hj; subst hj; exact h0
      | succ j => exact h j y (by simpa using hj)
    · intro h
      exact ⟨h 0 x rfl, fun j y hj => h (j + 1) y (by simpa using hj)⟩

mutual
theorem VR.mono {w0 : World} {φ φ' : Phi} (hp : PLe φ φ') : ∀ {x : AV} {u : Value}, VR w0 φ x u → VR w0 φ' x u
  | .any, _, _ => by rw [VR]; trivial
  | .sc _, _, h => by rw [VR] at *; exact h
  | .nl, _, h => by rw [VR] at *; exact h
  | .ro _ _, _, h => by rw [VR] at *; exact h
  | .sl _ _ _ _, _, h => by
    rw [VR] at *
    rcases h with ⟨h1, h2⟩ | ⟨b, o, sz, h1, h2⟩
    · exact .inl ⟨hp _ _ h1, h2⟩
    · exact .inr ⟨b, o, sz, hp _ _ h1, h2⟩
  | .ptr _ _, _, h => by
    rw [VR] at *
    obtain ⟨b, o, sz, h1, h2⟩ := h
    exact ⟨b, o, sz, hp _ _ h1, h2⟩
  | .rp _, _, h => by rw [VR] at *; exact h
  | .agg _, _, h => by
    rw [VR] at *
    obtain ⟨xs, h1, h2, h3⟩ := h
    exact ⟨xs, h1, h2, VRs.mono hp h3⟩
  | .tup _, _, h => by
    rw [VR] at *
    obtain ⟨xs, h1, h2, h3⟩ := h
    exact ⟨xs, h1, h2, VRs.mono hp h3⟩
  | .fn _ _ _, _, h => by
    rw [VR] at *
    obtain ⟨xs, ys, h1, h2, h3, h4, h5⟩ := h
    exact ⟨xs, ys, h1, h2, h3, VRs.mono hp h4, VRs.mono hp h5⟩
theorem VRs.mono {w0 : World} {φ φ' : Phi} (hp : PLe φ φ') : ∀ {xs : List AV} {g : Nat → Option Value}, VRs w0 φ xs g → VRs w0 φ' xs g
  | [], _, _ => by rw [VRs]; trivial
  | _ :: _, _, h => by
    rw [VRs] at *
    obtain ⟨⟨u, h1, h2⟩, h3⟩ := h
    exact ⟨⟨u, h1, VR.mono hp h2⟩, VRs.mono hp h3⟩
end

/-- The blocks of w0 are those of w1, too. -/
def Under (w0 w1 : World) : Prop := w0.heap.size ≤ w1.heap.size ∧ ∀ b, b < w0.heap.size → w1.heap[b]? = w0.heap[b]?
theorem Under.cell {w0 w1 : World} (h : Under w0 w1) {b o : Nat} (hb : b < w0.heap.size) : w1.cell? ⟨b, o, none⟩ = w0.cell? ⟨b, o, none⟩ := by
  simp only [World.cell?, h.2 b hb]

mutual
/-- What leads to no block of the call's own is told over every later world. -/
theorem VR.under {w0 w1 : World} (hu : Under w0 w1) : ∀ {x : AV} {u : Value}, VR w0 noPhi x u → VR w1 noPhi x u
  | .any, _, _ => by rw [VR]; trivial
  | .sc _, _, h => by rw [VR] at *; exact h
  | .nl, _, h => by rw [VR] at *; exact h
  | .ro _ _, _, h => by
    rw [VR] at *
    obtain ⟨A, c, h1, h2, h3⟩ := h
    refine ⟨A, c, h1, h2, ?_⟩
    rcases h3 with h3 | ⟨b, o, h3, h4, h5⟩
    · exact .inl h3
    · refine .inr ⟨b, o, h3, Nat.lt_of_lt_of_le h4 hu.1, ?_⟩
      simp only [hu.cell h4]
      exact VRs.under hu h5
  | .sl _ _ _ _, _, h => by
    rw [VR] at *
    rcases h with ⟨h1, h2⟩ | ⟨b, o, sz, h1, h2⟩ <;> cases h1
  | .ptr _ _, _, h => by
    rw [VR] at *
    obtain ⟨b, o, sz, h1, h2⟩ := h
    cases h1
  | .rp _, _, h => by
    rw [VR] at *
    obtain ⟨b, o, h1, h2, h3⟩ := h
    refine ⟨b, o, h1, Nat.lt_of_lt_of_le h2 hu.1, ?_⟩
    simp only [hu.cell h2]
    exact VRs.under hu h3
  | .agg _, _, h => by
    rw [VR] at *
    obtain ⟨xs, h1, h2, h3⟩ := h
    exact ⟨xs, h1, h2, VRs.under hu h3⟩
  | .tup _, _, h => by
    rw [VR] at *
    obtain ⟨xs, h1, h2, h3⟩ := h
    exact ⟨xs, h1, h2, VRs.under hu h3⟩
  | .fn _ _ _, _, h => by
    rw [VR] at *
    obtain ⟨xs, ys, h1, h2, h3, h4, h5⟩ := h
    exact ⟨xs, ys, h1, h2, h3, VRs.under hu h4, VRs.under hu h5⟩
theorem VRs.under {w0 w1 : World} (hu : Under w0 w1) : ∀ {xs : List AV} {g : Nat → Option Value}, VRs w0 noPhi xs g → VRs w1 noPhi xs g
  | [], _, _ => by rw [VRs]; trivial
  | _ :: _, _, h => by
    rw [VRs] at *
    obtain ⟨⟨u, h1, h2⟩, h3⟩ := h
    exact ⟨⟨u, h1, VR.under hu h2⟩, VRs.under hu h3⟩
end

/-- A block of the call's own, as it lies in memory. -/
def BlkR (w0 : World) (φ : Phi) (w : World) (k : Blk) (b o sz : Nat) : Prop :=
  w0.heap.size ≤ b ∧ ∃ arr e fr, w.heap[b]? = some (.cells arr e fr) ∧ arr.size = sz ∧ o + k.cells.length ≤ sz ∧ (k.app = true → fr = (0, 0)) ∧ (fr = (0, 0) ∨ o + k.cells.length ≤ fr.1) ∧ VRs w0 φ k.cells (fun j => arr[o + j]?)

structure HR (w0 : World) (φ : Phi) (w : World) (H : Heap) : Prop where
  bel : Below w0.heap.size w0 w
  blk : ∀ id k b o sz, H[id]? = some k → k.live = true → φ id = some (.pt b o sz) → BlkR w0 φ w k b o sz
  nil : ∀ id k, H[id]? = some k → k.live = true → φ id = some .nl → k.cells = []
  inj : ∀ id id' k k' b o sz o' sz', H[id]? = some k → H[id']? = some k' → k.live = true → k'.live = true → φ id = some (.pt b o sz) → φ id' = some (.pt b o' sz') → id = id'
  dom : ∀ id p, φ id = some p → id < H.length

/-- What is no live block of H stays as it is. -/
structure Fr (φ : Phi) (H : Heap) (w w' : World) : Prop where
  os : w'.os = w.os
  tape : w'.tape = w.tape
  output : w'.output = w.output
  size : w.heap.size ≤ w'.heap.size
  block : ∀ b, b < w.heap.size → (∀ id k o sz, H[id]? = some k → k.live = true → φ id ≠ some (.pt b o sz)) → w'.heap[b]? = w.heap[b]?

theorem Fr.refl (φ : Phi) (H : Heap) (w : World) : Fr φ H w w := ⟨rfl, rfl, rfl, Nat.le_refl _, fun _ _ _ => rfl⟩
theorem Fr.of_below {φ : Phi} {H : Heap} {w w' : World} (h : Below w.heap.size w w') : Fr φ H w w' := ⟨h.os, h.tape, h.output, h.size, fun b hb _ => h.block b hb⟩

/-- The temporaries of a frame. -/
def TR (w0 : World) (φ : Phi) (tm : Tm) (a : Act) : Prop := ∀ i, VR w0 φ (gt tm i) (a.tmps.getD i undef)

theorem HR.under {w0 : World} {φ : Phi} {w : World} {H : Heap} (h : HR w0 φ w H) : Under w0 w := ⟨h.bel.size, h.bel.block⟩

theorem ofCell_VR (w0 : World) (φ : Phi) (v : Value) : VR w0 φ (ofCell v) v := by
  unfold ofCell
  split
  · rw [VR]; exact ⟨_, rfl⟩
  · rw [VR]
theorem VRs_ofCell (w0 : World) (φ : Phi) (xs : List Value) : VRs w0 φ (xs.map ofCell) (fun j => xs[j]?) := by
  rw [VRs_iff]
  intro j x hj
  rw [List.getElem?_map] at hj
  obtain ⟨v, hv, rfl⟩ := Option.map_eq_some_iff.1 hj
  exact ⟨v, hv, ofCell_VR w0 φ v⟩
theorem ofValue_VR (w0 : World) (φ : Phi) (v : Value) : VR w0 φ (ofValue v) v := by
  unfold ofValue
  split
  · rename_i cs
    rw [VR]
    exact ⟨cs.toList, by simp, by simp, VRs_ofCell w0 φ cs.toList⟩
  · exact ofCell_VR w0 φ v

theorem ev_VR {w0 : World} {φ : Phi} {tm : Tm} {a : Act} (h : TR w0 φ tm a) (x : Operand) : VR w0 φ (ev tm x) (a.eval x) := by
  cases x with
  | tmp t => exact h t
  | const v => exact ofValue_VR w0 φ v
  | global g => simp only [ev]; rw [VR]; trivial
  | func f =>
    simp only [ev, Act.eval]
    rw [VR]
    exact ⟨[], [], rfl, rfl, rfl, by rw [VRs]; trivial, by rw [VRs]; trivial⟩

theorem leaf_VR {w0 : World} {φ : Phi} {x : AV} {u : Value} (h : VR w0 φ x u) (hl : isLeaf x = true) : leafV u = true := by
  cases x with
  | any => cases hl
  | tup vs => cases hl
  | agg ds => cases hl
  | sc v => rw [VR] at h; subst h; exact hl
  | nl => rw [VR] at h; obtain ⟨A, rfl⟩ := h; rfl
  | ro n c => rw [VR] at h; obtain ⟨A, c, rfl, _⟩ := h; rfl
  | sl id off n z => rw [VR] at h; rcases h with ⟨_, _, _, A, rfl⟩ | ⟨b, o, sz, _, ⟨_, A, rfl⟩ | ⟨c, _, rfl, _⟩⟩ <;> rfl
  | ptr id off => rw [VR] at h; obtain ⟨b, o, sz, _, rfl⟩ := h; rfl
  | rp c => rw [VR] at h; obtain ⟨b, o, rfl, _⟩ := h; rfl
  | fn f a c => rw [VR] at h; obtain ⟨xs, ys, rfl, _⟩ := h; rfl

/-- The cells of a value. -/
theorem cells_VR {w0 : World} {φ : Phi} {x : AV} {u : Value} {cs : List AV} (h : VR w0 φ x u) (hc : cellsA x = some cs) :
    u.cells.toList.length = cs.length ∧ VRs w0 φ cs (fun j => u.cells.toList[j]?) ∧ ∀ v ∈ u.cells.toList, leafV v = true := by
  by_cases hl : isLeaf x = true
  · have e : cs = [x] := by
      cases x <;> simp_all [cellsA, isLeaf]
    subst e
    have hv := leaf_VR h hl
    have e : u.cells = #[u] := by cases u <;> first | rfl | cases hv
    rw [e]
    refine ⟨rfl, ?_, fun v hm => by simp at hm; subst hm; exact hv⟩
    rw [VRs, VRs]
    exact ⟨⟨u, rfl, h⟩, trivial⟩
  · cases x with
    | agg ds =>
      simp only [cellsA] at hc
      split at hc
      · rename_i hall
        simp only [Option.some.injEq] at hc
        subst hc
        rw [VR] at h
        obtain ⟨xs, rfl, h2, h3⟩ := h
        refine ⟨by simpa [Value.cells] using h2, by simpa [Value.cells] using h3, fun v hv => ?_⟩
        simp only [Value.cells, List.mem_iff_getElem?] at hv
        obtain ⟨j, hj⟩ := hv
        rw [VRs_iff] at h3
        have hlt : j < ds.length := by rw [← h2]; exact (List.getElem?_eq_some_iff.1 hj).1
        obtain ⟨u, g1, g2⟩ := h3 j _ (List.getElem?_eq_getElem hlt)
        rw [hj] at g1
        cases g1
        exact leaf_VR g2 (List.all_eq_true.1 hall _ (List.getElem_mem hlt))
      · cases hc
    | _ => simp_all [cellsA, isLeaf]

end Go.Proofs.Ytfpmccedangjoaa.Abs
