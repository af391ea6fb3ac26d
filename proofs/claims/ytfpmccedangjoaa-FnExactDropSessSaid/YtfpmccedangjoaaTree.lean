/- Arguments as trees, results as trees. -/
import Derived.Test.YtfpmccedangjoaaFn
set_option linter.unusedVariables false
set_option linter.unusedSimpArgs false
namespace Go.Proofs.Ytfpmccedangjoaa.Abs
open Go Go.RowKit

variable {P : Program} {β : Type}

theorem mapM_get {f : AV → Option AV} : ∀ {cs vs : List AV}, cs.mapM f = some vs → vs.length = cs.length ∧ ∀ (j : Nat) v, vs[j]? = some v → ∃ x, cs[j]? = some x ∧ f x = some v
  | [], vs, h => by
    simp at h
    subst h
    exact ⟨rfl, fun j v h => by simp at h⟩
  | x :: cs, vs, h => by
    simp only [List.mapM_cons, Option.pure_def, Option.bind_eq_bind, Option.bind_eq_some_iff, Option.some.injEq] at h
    obtain ⟨y, hy, vs', hvs, rfl⟩ := h
    obtain ⟨h1, h2⟩ := mapM_get hvs
    refine ⟨by simp [h1], fun j v hj => ?_⟩
    cases j with
    | zero => simp at hj; subst hj; exact ⟨x, rfl, hy⟩
    | succ j => simpa using h2 j v (by simpa using hj)

theorem rd_live {H : Heap} {id off n : Nat} {cs : List AV} (h : rdCells H id off n = some cs) : cs.length = n ∧ ∃ k, H[id]? = some k ∧ k.live = true ∧ off + n ≤ k.cells.length ∧ cs = (k.cells.drop off).take n := by
  unfold rdCells at h
  split at h
  · rename_i k hk
    split at h
    · rename_i hlv
      split at h
      · rename_i hle
        cases h
        exact ⟨by simp; omega, k, hk, hlv, hle, rfl⟩
      · cases h
    · cases h
  · cases h

theorem view_sound {w0 w : World} {φ : Phi} {H : Heap} (hr : HR w0 φ w H) : ∀ (d : Nat) (x v : AV) (u : Value), viewV H d x = some v → VR w0 φ x u → VR w noPhi v u
  | 0, x, v, u, h, _ => by cases h
  | d + 1, x, v, u, h, hx => by
    have lst : ∀ {cs vs : List AV} {g : Nat → Option Value}, cs.mapM (viewV H d) = some vs → VRs w0 φ cs g → VRs w noPhi vs g := by
      intro cs vs g h hc
      obtain ⟨_, h2⟩ := mapM_get h
      rw [VRs_iff] at hc ⊢
      intro j v hj
      obtain ⟨x, hx, hv⟩ := h2 j v hj
      obtain ⟨u, e1, e2⟩ := hc j x hx
      exact ⟨u, e1, view_sound hr d x v u hv e2⟩
    cases x <;> simp only [viewV] at h <;> try cases h
    · rw [VR] at hx; subst hx; exact VR_sc _ _ _
    · rw [VR] at hx
      rw [VR]
      obtain ⟨A, rfl⟩ := hx
      exact ⟨A, 0, rfl, Nat.le_refl _, .inl rfl⟩
    · refine VR.under hr.under ?_
      rw [VR] at hx ⊢
      exact hx
    · rename_i id off n z
      obtain ⟨cs, hcs, h⟩ := Option.bind_eq_some_iff.1 h
      obtain ⟨vs, hvs, h⟩ := Option.bind_eq_some_iff.1 h
      cases h
      obtain ⟨hl, k, hk, hlv, _, _⟩ := rd_live hcs
      obtain ⟨hl2, _⟩ := mapM_get hvs
      rw [VR] at hx
      rw [VR]
      rcases hx with ⟨_, _, rfl, A, rfl⟩ | ⟨b, o, s0, hp, ⟨rfl, A, rfl⟩ | ⟨c, hle, rfl, _⟩⟩
      · exact ⟨A, 0, rfl, Nat.le_refl _, .inl (List.eq_nil_of_length_eq_zero (by rw [hl2, hl]; simp))⟩
      · exact ⟨A, 0, rfl, Nat.le_refl _, .inl (List.eq_nil_of_length_eq_zero (by rw [hl2, hl]; simp))⟩
      · refine ⟨_, c, rfl, hle, .inr ⟨b, o + off, rfl, ?_, ?_⟩⟩
        · obtain ⟨_, arr, e, fr, h1, _⟩ := hr.blk id k b o s0 hk hlv hp
          exact (Array.getElem?_eq_some_iff.1 h1).1
        · exact lst hvs (rd_cells hr hcs hp).2
    · rename_i id off
      obtain ⟨b0, hb0, h⟩ := Option.bind_eq_some_iff.1 h
      obtain ⟨cs, hcs, h⟩ := Option.bind_eq_some_iff.1 h
      obtain ⟨vs, hvs, h⟩ := Option.bind_eq_some_iff.1 h
      cases h
      obtain ⟨hl, k, hk, hlv, _, _⟩ := rd_live hcs
      rw [VR] at hx
      rw [VR]
      obtain ⟨b, o, sz, hp, rfl⟩ := hx
      refine ⟨b, o + off, rfl, ?_, ?_⟩
      · obtain ⟨_, arr, e, fr, h1, _⟩ := hr.blk id k b o sz hk hlv hp
        exact (Array.getElem?_eq_some_iff.1 h1).1
      · exact lst hvs (rd_cells hr hcs hp).2
    · refine VR.under hr.under ?_
      rw [VR] at hx ⊢
      exact hx
    · obtain ⟨vs, hvs, h⟩ := Option.bind_eq_some_iff.1 h
      cases h
      rw [VR] at hx ⊢
      obtain ⟨xs, rfl, h1, h2⟩ := hx
      exact ⟨xs, rfl, by rw [h1, (mapM_get hvs).1], lst hvs h2⟩
    · obtain ⟨vs, hvs, h⟩ := Option.bind_eq_some_iff.1 h
      cases h
      rw [VR] at hx ⊢
      obtain ⟨xs, rfl, h1, h2⟩ := hx
      exact ⟨xs, rfl, by rw [h1, (mapM_get hvs).1], lst hvs h2⟩
    · rename_i f a c
      obtain ⟨as, has, h⟩ := Option.bind_eq_some_iff.1 h
      obtain ⟨cs, hcs, h⟩ := Option.bind_eq_some_iff.1 h
      cases h
      rw [VR] at hx ⊢
      obtain ⟨xs, ys, rfl, h1, h2, h3, h4⟩ := hx
      exact ⟨xs, ys, rfl, by rw [h1, (mapM_get has).1], by rw [h2, (mapM_get hcs).1], lst has h3, lst hcs h4⟩

theorem views_sound {w0 w : World} {φ : Phi} {H : Heap} (hr : HR w0 φ w H) {d : Nat} {cs vs : List AV} {g : Nat → Option Value} (h : cs.mapM (viewV H d) = some vs) (hc : VRs w0 φ cs g) : VRs w noPhi vs g := by
  obtain ⟨_, h2⟩ := mapM_get h
  rw [VRs_iff] at hc ⊢
  intro j v hj
  obtain ⟨x, hx, hv⟩ := h2 j v hj
  obtain ⟨u, e1, e2⟩ := hc j x hx
  exact ⟨u, e1, view_sound hr d x v u hv e2⟩

/-! ## Results -/

section own
variable {ti : Nat → Option TI} {tp : Nat → Option (List Nat)} {Hc : Heap}

theorem ownL_live {f : Nat → AV → Option (AV × List Nat)} (hf : ∀ ty x t ids, f ty x = some (t, ids) → ∀ id ∈ ids, ∃ k, Hc[id]? = some k ∧ k.live = true) :
    ∀ (ts : List Nat) (xs : List AV) (q : List AV × List Nat), ownL f ts xs = some q → ∀ id ∈ q.2, ∃ k, Hc[id]? = some k ∧ k.live = true
  | [], [], q, h => by simp only [ownL, Option.some.injEq] at h; subst h; intro id hid; cases hid
  | [], _ :: _, q, h => by cases h
  | _ :: _, [], q, h => by cases h
  | t :: ts, x :: xs, q, h => by
    simp only [ownL, Option.bind_eq_some_iff, Option.some.injEq] at h
    obtain ⟨p, hp, q', hq, rfl⟩ := h
    intro id hid
    rcases List.mem_append.1 hid with h | h
    · exact hf t x p.1 p.2 hp id h
    · exact ownL_live hf ts xs q' hq id h

theorem own_live : ∀ (d : Nat) (ty : Nat) (x t : AV) (ids : List Nat), ownT ti tp Hc d ty x = some (t, ids) → ∀ id ∈ ids, ∃ k, Hc[id]? = some k ∧ k.live = true
  | 0, ty, x, t, ids, h => by cases h
  | d + 1, ty, x, t, ids, h => by
    have ih := ownL_live (Hc := Hc) (fun ty x t ids => own_live d ty x t ids)
    cases x <;> simp only [ownT] at h <;> try cases h
    · intro id hid; cases hid
    · intro id hid; cases hid
    · rename_i id off n z
      obtain ⟨i, hi, h⟩ := Option.bind_eq_some_iff.1 h
      obtain ⟨j, hj, h⟩ := Option.bind_eq_some_iff.1 h
      split at h
      · split at h
        · obtain ⟨cs, hcs, h⟩ := Option.bind_eq_some_iff.1 h
          obtain ⟨q, hq, h⟩ := Option.bind_eq_some_iff.1 h
          cases h
          intro id' hid
          rcases List.mem_cons.1 hid with rfl | hid
          · obtain ⟨_, k, hk, hl, _⟩ := rd_live hcs
            exact ⟨k, hk, hl⟩
          · exact ih _ _ _ hq id' hid
        · cases h
      · cases h
    · obtain ⟨i, hi, h⟩ := Option.bind_eq_some_iff.1 h
      obtain ⟨q, hq, h⟩ := Option.bind_eq_some_iff.1 h
      cases h
      exact ih _ _ _ hq
    · obtain ⟨i, hi, h⟩ := Option.bind_eq_some_iff.1 h
      obtain ⟨q, hq, h⟩ := Option.bind_eq_some_iff.1 h
      cases h
      exact ih _ _ _ hq

theorem inst_len {f : Nat → AV → Option (AV × List Nat)} {m : Nat} {ts ts' : List Nat} {l : List AV} {q : List AV × List Nat} (h : ownL f ts l = some q) : (instL ti tp m ts' q.1).1.length = l.length := by
  have e1 : ∀ (m : Nat) (ts : List Nat) (l : List AV), (instL ti tp m ts l).1.length = l.length := by
    intro m ts l
    induction l generalizing m ts with
    | nil => rfl
    | cons x l ih => simp only [instL, List.length_cons, ih]
  have e2 : ∀ (ts : List Nat) (l : List AV) (q : List AV × List Nat), ownL f ts l = some q → q.1.length = l.length := by
    intro ts
    induction ts with
    | nil =>
      intro l q h
      cases l with
      | nil => simp only [ownL, Option.some.injEq] at h; subst h; rfl
      | cons x l => cases h
    | cons t ts ih =>
      intro l q h
      cases l with
      | nil => cases h
      | cons x l =>
        simp only [ownL, Option.bind_eq_some_iff, Option.some.injEq] at h
        obtain ⟨p, _, q', hq, rfl⟩ := h
        simp [ih l q' hq]
  rw [e1, e2 _ _ _ h]

/-- A dead block. -/
theorem HR.deadblk {w0 : World} {φ : Phi} {w : World} {H : Heap} (hr : HR w0 φ w H) (k : Blk) (hk : k.live = false) : HR w0 φ w (H ++ [k]) := by
  have old : ∀ (i : Nat) (k' : Blk), (H ++ [k])[i]? = some k' → k'.live = true → H[i]? = some k' := by
    intro i k' hi hl
    by_cases hlt : i < H.length
    · rwa [List.getElem?_append_left hlt] at hi
    · rw [List.getElem?_append_right (by omega)] at hi
      cases hq : i - H.length with
      | zero => rw [hq] at hi; simp at hi; subst hi; rw [hk] at hl; cases hl
      | succ m => rw [hq] at hi; simp at hi
  exact ⟨hr.bel, fun i k' b o sz hi hl hp => hr.blk i k' b o sz (old i k' hi hl) hl hp, fun i k' hi hl hp => hr.nil i k' (old i k' hi hl) hl hp,
    fun i i' k1 k2 b o sz o' sz' h1 h2 l1 l2 p1 p2 => hr.inj i i' k1 k2 b o sz o' sz' (old i k1 h1 l1) (old i' k2 h2 l2) l1 l2 p1 p2, fun i p hp => by have := hr.dom i p hp; simp; omega⟩

/-- A dead block comes to life. -/
theorem HR.wake {w0 : World} {φ : Phi} {w : World} {A B : Heap} {k0 k : Blk} (hr : HR w0 φ w (A ++ k0 :: B)) (hn : φ A.length = none) {p : Pl}
    (hb : match p with
      | .nl => k.cells = []
      | .pt b o sz => BlkR w0 φ w k b o sz ∧ ∀ q k' o' sz', (A ++ k0 :: B)[q]? = some k' → k'.live = true → φ q ≠ some (.pt b o' sz')) : HR w0 (upd φ A.length p) w (A ++ k :: B) := by
  have hle := upd_le (p := p) hn
  have same : ∀ (i : Nat), i ≠ A.length → (A ++ k :: B)[i]? = (A ++ k0 :: B)[i]? := by
    intro i hi
    by_cases hlt : i < A.length
    · rw [List.getElem?_append_left hlt, List.getElem?_append_left hlt]
    · rw [List.getElem?_append_right (by omega), List.getElem?_append_right (by omega)]
      cases hq : i - A.length with
      | zero => omega
      | succ m => simp
  have at_ : (A ++ k :: B)[A.length]? = some k := by rw [List.getElem?_append_right (Nat.le_refl _)]; simp
  have oldp : ∀ (i : Nat) (q : Pl), upd φ A.length p i = some q → i ≠ A.length → φ i = some q := by
    intro i q hq hne
    unfold upd at hq
    rwa [if_neg hne] at hq
  refine ⟨hr.bel, ?_, ?_, ?_, ?_⟩
  · intro i k' b o sz hi hl hp
    by_cases he : i = A.length
    · subst he
      rw [at_] at hi
      cases hi
      rw [upd_at] at hp
      cases hp
      obtain ⟨h1, arr, e, fr, g1, g2, g3, g4, g5, g6⟩ := hb.1
      exact ⟨h1, arr, e, fr, g1, g2, g3, g4, g5, VRs.mono hle g6⟩
    · rw [same i he] at hi
      obtain ⟨h1, arr, e, fr, g1, g2, g3, g4, g5, g6⟩ := hr.blk i k' b o sz hi hl (oldp i _ hp he)
      exact ⟨h1, arr, e, fr, g1, g2, g3, g4, g5, VRs.mono hle g6⟩
  · intro i k' hi hl hp
    by_cases he : i = A.length
    · subst he
      rw [at_] at hi
      cases hi
      rw [upd_at] at hp
      cases hp
      exact hb
    · rw [same i he] at hi
      exact hr.nil i k' hi hl (oldp i _ hp he)
  · intro i i' k1 k2 b o sz o' sz' h1 h2 l1 l2 p1 p2
    by_cases he : i = A.length
    · by_cases he' : i' = A.length
      · omega
      · subst he
        rw [upd_at] at p1
        cases p1
        rw [same i' he'] at h2
        exact absurd (oldp i' _ p2 he') (hb.2 i' k2 o' sz' h2 l2)
    · by_cases he' : i' = A.length
      · subst he'
        rw [upd_at] at p2
        cases p2
        rw [same i he] at h1
        exact absurd (oldp i _ p1 he) (hb.2 i k1 o sz h1 l1)
      · rw [same i he] at h1
        rw [same i' he'] at h2
        exact hr.inj i i' k1 k2 b o sz o' sz' h1 h2 l1 l2 (oldp i _ p1 he) (oldp i' _ p2 he')
  · intro i q hq
    by_cases he : i = A.length
    · subst he; simp
    · have := hr.dom i q (oldp i _ hq he)
      simpa using this

variable {wc w0 w : World} {φc : Phi}

/-- No live block of H lies where one of ids does. -/
def Apart (φc : Phi) (ids : List Nat) (φ : Phi) (H : Heap) : Prop := ∀ id ∈ ids, ∀ b o sz, φc id = some (.pt b o sz) → ∀ q k o' sz', H[q]? = some k → k.live = true → φ q ≠ some (.pt b o' sz')

/-- What is laid: the old blocks stay, the new ones lie where ids do. -/
structure Laid (φc : Phi) (ids : List Nat) (φ φ' : Phi) (H B : Heap) : Prop where
  le : PLe φ φ'
  old : ∀ q, q < H.length → φ' q = φ q
  new : ∀ q k b o sz, (H ++ B)[q]? = some k → k.live = true → φ' q = some (.pt b o sz) → (q < H.length ∧ φ q = some (.pt b o sz)) ∨ ∃ id ∈ ids, ∃ o' sz', φc id = some (.pt b o' sz')

theorem instL_sound (hc : HR wc φc w Hc) {f : Nat → AV → Option (AV × List Nat)} (hlive : ∀ ty x t ids, f ty x = some (t, ids) → ∀ id ∈ ids, ∃ k, Hc[id]? = some k ∧ k.live = true)
    (hf : ∀ (ty : Nat) (x t : AV) (ids : List Nat) (u : Value) (H : Heap) (φ : Phi), f ty x = some (t, ids) → VR wc φc x u → ids.Nodup → HR w0 φ w H → Apart φc ids φ H →
      ∃ φ', HR w0 φ' w (H ++ (instT ti tp H.length ty t).2) ∧ VR w0 φ' (instT ti tp H.length ty t).1 u ∧ Laid φc ids φ φ' H (instT ti tp H.length ty t).2) :
    ∀ (ts : List Nat) (xs : List AV) (q : List AV × List Nat) (g : Nat → Option Value) (H : Heap) (φ : Phi), ownL f ts xs = some q → VRs wc φc xs g → q.2.Nodup → HR w0 φ w H → Apart φc q.2 φ H →
      ∃ φ', HR w0 φ' w (H ++ (instL ti tp H.length ts q.1).2) ∧ VRs w0 φ' (instL ti tp H.length ts q.1).1 g ∧ Laid φc q.2 φ φ' H (instL ti tp H.length ts q.1).2
  | [], [], q, g, H, φ, h, hx, hn, hr, ha => by
    simp only [ownL, Option.some.injEq] at h
    subst h
    simp only [instL, List.append_nil]
    refine ⟨φ, hr, by rw [VRs]; trivial, PLe.refl _, fun _ _ => rfl, fun q k b o sz h1 h2 h3 => .inl ⟨?_, h3⟩⟩
    exact hr.dom q _ h3
  | [], _ :: _, q, g, H, φ, h, _, _, _, _ => by cases h
  | _ :: _, [], q, g, H, φ, h, _, _, _, _ => by cases h
  | ty :: ts, x :: xs, q, g, H, φ, h, hx, hn, hr, ha => by
    simp only [ownL, Option.bind_eq_some_iff, Option.some.injEq] at h
    obtain ⟨p, hp, q', hq, rfl⟩ := h
    rw [VRs] at hx
    obtain ⟨⟨u, hu1, hu2⟩, hxs⟩ := hx
    have hnd := List.nodup_append.1 hn
    obtain ⟨φ1, a1, a2, a3⟩ := hf ty x p.1 p.2 u H φ hp hu2 hnd.1 hr (fun id hid => ha id (List.mem_append_left _ hid))
    have hap : Apart φc q'.2 φ1 (H ++ (instT ti tp H.length ty p.1).2) := by
      intro id hid b o sz hpl qq k o' sz' hk hl hq2
      rcases a3.new qq k b o' sz' hk hl hq2 with ⟨hlt, h4⟩ | ⟨id', hid', o2, sz2, h4⟩
      · rw [List.getElem?_append_left hlt] at hk
        exact ha id (List.mem_append_right _ hid) b o sz hpl qq k o' sz' hk hl h4
      · obtain ⟨k1, e1, l1⟩ := ownL_live hlive ts xs q' hq id hid
        obtain ⟨k2, e2, l2⟩ := hlive ty x p.1 p.2 hp id' hid'
        have := hc.inj id id' k1 k2 b o sz o2 sz2 e1 e2 l1 l2 hpl h4
        subst this
        exact hnd.2.2 id hid' id hid rfl
    obtain ⟨φ2, b1, b2, b3⟩ := instL_sound hc hlive hf ts xs q' _ (H ++ (instT ti tp H.length ty p.1).2) φ1 hq hxs hnd.2.1 a1 hap
    simp only [instL, List.headD_cons, List.tail_cons, List.length_append, List.append_assoc] at b1 b2 b3 ⊢
    refine ⟨φ2, b1, ?_, PLe.trans a3.le b3.le, ?_, ?_⟩
    · rw [VRs]
      exact ⟨⟨u, hu1, VR.mono b3.le a2⟩, b2⟩
    · intro qq hqq
      rw [b3.old qq (by simp; omega), a3.old qq hqq]
    · intro qq k b o sz hk hl hpl
      rcases b3.new qq k b o sz (by simpa using hk) hl hpl with ⟨hlt, h4⟩ | ⟨id, hid, o2, sz2, h4⟩
      · rw [← List.append_assoc, List.getElem?_append_left hlt] at hk
        rcases a3.new qq k b o sz hk hl h4 with h5 | ⟨id, hid, o2, sz2, h5⟩
        · exact .inl h5
        · exact .inr ⟨id, List.mem_append_left _ hid, o2, sz2, h5⟩
      · exact .inr ⟨id, List.mem_append_right _ hid, o2, sz2, h4⟩
theorem inst_sound (hc : HR wc φc w Hc) (h0 : w0.heap.size ≤ wc.heap.size) : ∀ (d : Nat) (ty : Nat) (x t : AV) (ids : List Nat) (u : Value) (H : Heap) (φ : Phi), ownT ti tp Hc d ty x = some (t, ids) → VR wc φc x u → ids.Nodup → HR w0 φ w H → Apart φc ids φ H →
      ∃ φ', HR w0 φ' w (H ++ (instT ti tp H.length ty t).2) ∧ VR w0 φ' (instT ti tp H.length ty t).1 u ∧ Laid φc ids φ φ' H (instT ti tp H.length ty t).2
  | 0, ty, x, t, ids, u, H, φ, h, _, _, _, _ => by cases h
  | d + 1, ty, x, t, ids, u, H, φ, h, hx, hn, hr, ha => by
    have ih := instL_sound (w0 := w0) (ti := ti) (tp := tp) hc (fun ty x t ids => own_live d ty x t ids) (fun ty x t ids u H φ => inst_sound hc h0 d ty x t ids u H φ)
    cases x <;> simp only [ownT] at h <;> try cases h
    · rw [VR] at hx
      subst hx
      simp only [instT, List.append_nil]
      exact ⟨φ, hr, VR_sc _ _ _, PLe.refl _, fun _ _ => rfl, fun q k b o sz h1 h2 h3 => .inl ⟨hr.dom q _ h3, h3⟩⟩
    · rw [VR] at hx
      obtain ⟨A, rfl⟩ := hx
      simp only [instT, instL, List.replicate_zero, List.flatten_nil]
      refine ⟨upd φ H.length .nl, hr.nilblk, ?_, upd_le hr.fresh, fun q hq => ?_, fun q k b o sz h1 h2 h3 => ?_⟩
      · rw [VR]
        exact .inl ⟨upd_at _ _ _, rfl, rfl, A, rfl⟩
      · unfold upd; rw [if_neg (by omega)]
      · unfold upd at h3
        split at h3
        · cases h3
        · exact .inl ⟨hr.dom q _ h3, h3⟩
    · rename_i id off n z
      obtain ⟨i, hi, h⟩ := Option.bind_eq_some_iff.1 h
      obtain ⟨j, hj, h⟩ := Option.bind_eq_some_iff.1 h
      split at h
      case isFalse => cases h
      rename_i hz
      split at h
      case isFalse => cases h
      rename_i happ
      obtain ⟨cs, hcs, h⟩ := Option.bind_eq_some_iff.1 h
      obtain ⟨q, hq, h⟩ := Option.bind_eq_some_iff.1 h
      cases h
      obtain ⟨hl, k0, hk0, hlv, hle, hcs0⟩ := rd_live hcs
      have happ0 : k0.app = true := by simpa [isApp, hk0] using happ
      have hnd := List.nodup_cons.1 hn
      have hr1 := hr.deadblk ⟨[], false, true⟩ rfl
      have hj' : (((ti ty).bind fun i => ti i.elem).getD default) = j := by rw [hi]; simp [hj]
      have hfresh := hr.fresh
      have hap1 : Apart φc q.2 φ (H ++ [⟨[], false, true⟩]) := by
        intro id' hid b o sz hpl qq k o' sz' hk hl hq2
        have hlt : qq < H.length := hr.dom qq _ hq2
        rw [List.getElem?_append_left hlt] at hk
        exact ha id' (List.mem_cons_of_mem _ hid) b o sz hpl qq k o' sz' hk hl hq2
      simp only [instT, hj']
      -- the cells, then the block
      have key : ∀ (g : Nat → Option Value) (p : Pl) (hg : VRs wc φc cs g), (∀ φ1, PLe φ φ1 → (match p with
            | .nl => True
            | .pt b o sz => (∃ o2, φc id = some (.pt b o2 sz)) ∧ ∀ cells, cells.length = cs.length → VRs w0 φ1 cells g → BlkR w0 φ1 w ⟨cells, true, true⟩ b o sz)) → (p = .nl → cs = []) →
          (∀ φ', φ' H.length = some p → SlR φ' H.length 0 n j.size u) →
          ∃ φ', HR w0 φ' w (H ++ (⟨(instL ti tp (H.length + 1) (List.replicate n j.cty).flatten q.1).1, true, true⟩ :: (instL ti tp (H.length + 1) (List.replicate n j.cty).flatten q.1).2)) ∧ VR w0 φ' (.sl H.length 0 n j.size) u ∧
            Laid φc (id :: q.2) φ φ' H (⟨(instL ti tp (H.length + 1) (List.replicate n j.cty).flatten q.1).1, true, true⟩ :: (instL ti tp (H.length + 1) (List.replicate n j.cty).flatten q.1).2) := by
        intro g p hg hp hnl hsl
        obtain ⟨φ1, a1, a2, a3⟩ := ih _ cs q g (H ++ [⟨[], false, true⟩]) φ hq hg hnd.2 hr1 hap1
        have hH1 : (H ++ [(⟨[], false, true⟩ : Blk)]).length = H.length + 1 := by simp
        rw [hH1] at a1 a2 a3
        rw [List.append_assoc] at a1
        have hn1 : φ1 H.length = none := by rw [a3.old H.length (by simp)]; exact hfresh
        have hlen : (instL ti tp (H.length + 1) (List.replicate n j.cty).flatten q.1).1.length = cs.length := inst_len hq
        have hwake : HR w0 (upd φ1 H.length p) w (H ++ (⟨(instL ti tp (H.length + 1) (List.replicate n j.cty).flatten q.1).1, true, true⟩ :: (instL ti tp (H.length + 1) (List.replicate n j.cty).flatten q.1).2)) := by
          refine HR.wake a1 hn1 ?_
          have hp1 := hp φ1 a3.le
          cases p with
          | nl => exact List.eq_nil_of_length_eq_zero (by rw [hlen, hnl rfl]; rfl)
          | pt b o sz =>
            obtain ⟨⟨o2, hpl⟩, hbl⟩ := hp1
            refine ⟨hbl _ hlen a2, ?_⟩
            intro qq k' o' sz' hk hl hq2
            have hk' : ((H ++ [(⟨[], false, true⟩ : Blk)]) ++ (instL ti tp (H.length + 1) (List.replicate n j.cty).flatten q.1).2)[qq]? = some k' := by rw [List.append_assoc]; exact hk
            rcases a3.new qq k' b o' sz' hk' hl hq2 with ⟨hlt, h4⟩ | ⟨id', hid', o3, sz3, h4⟩
            · have hlt2 := hr.dom qq _ h4
              rw [List.append_assoc, List.getElem?_append_left hlt2] at hk'
              exact ha id List.mem_cons_self b o2 sz hpl qq k' o' sz' hk' hl h4
            · obtain ⟨k2, e2, l2⟩ := ownL_live (Hc := Hc) (fun ty x t ids => own_live d ty x t ids) _ _ _ hq id' hid'
              have := hc.inj id id' k0 k2 b o2 sz o3 sz3 hk0 e2 hlv l2 hpl h4
              subst this
              exact hnd.1 hid'
        refine ⟨upd φ1 H.length p, hwake, ?_, PLe.trans a3.le (upd_le hn1), ?_, ?_⟩
        · rw [VR]
          exact hsl _ (upd_at _ _ _)
        · intro qq hqq
          unfold upd
          rw [if_neg (by omega)]
          exact a3.old qq (by simp; omega)
        · intro qq k b o sz hk hl hpl
          by_cases he : qq = H.length
          · subst he
            rw [upd_at] at hpl
            cases hpl
            obtain ⟨⟨o2, hpl2⟩, _⟩ := hp φ1 a3.le
            exact .inr ⟨id, List.mem_cons_self, o2, sz, hpl2⟩
          · unfold upd at hpl
            rw [if_neg he] at hpl
            have hk' : ((H ++ [(⟨[], false, true⟩ : Blk)]) ++ (instL ti tp (H.length + 1) (List.replicate n j.cty).flatten q.1).2)[qq]? = some k := by
              by_cases hlt : qq < H.length
              · rw [List.append_assoc, List.getElem?_append_left hlt]
                rw [List.getElem?_append_left hlt] at hk
                exact hk
              · rw [List.getElem?_append_right (by omega)] at hk
                rw [List.append_assoc, List.getElem?_append_right (by omega)]
                cases hq2 : qq - H.length with
                | zero => omega
                | succ m => rw [hq2] at hk; simpa using hk
            rcases a3.new qq k b o sz hk' hl hpl with ⟨hlt, h4⟩ | ⟨id', hid', o3, sz3, h4⟩
            · exact .inl ⟨hr.dom qq _ h4, h4⟩
            · exact .inr ⟨id', List.mem_cons_of_mem _ hid', o3, sz3, h4⟩
      subst hz
      rw [VR] at hx
      rcases hx with ⟨hpl, rfl, rfl, A, rfl⟩ | ⟨b, o, sz, hpl, hx⟩
      · have hcs0 : cs = [] := List.eq_nil_of_length_eq_zero (by rw [hl]; simp)
        exact key (fun _ => none) .nl (by rw [hcs0, VRs]; trivial) (fun _ _ => trivial) (fun _ => hcs0) (fun φ' hφ => .inl ⟨hφ, rfl, rfl, A, rfl⟩)
      · obtain ⟨hv1, hv2⟩ := rd_cells hc hcs hpl
        obtain ⟨hb, arr, e, fr, h1, h2, h3, h4, h5, h6⟩ := hc.blk id k0 b o sz hk0 hlv hpl
        refine key _ (.pt b (o + off) sz) hv2 (fun φ1 _ => ⟨⟨o, hpl⟩, fun cells hcl hcv => ?_⟩) (fun h => by cases h) (fun φ' hφ => .inr ⟨b, o + off, sz, hφ, ?_⟩)
        · refine ⟨Nat.le_trans h0 hb, arr, e, fr, h1, h2, by simp [hcl]; omega, fun _ => h4 happ0, .inl (h4 happ0), ?_⟩
          rw [VRs_iff] at hcv ⊢
          intro qq y hqq
          obtain ⟨uu, e1, e2⟩ := hcv qq y hqq
          simp only [World.cell?, h1] at e1
          exact ⟨uu, by simpa using e1, e2⟩
        · rcases hx with ⟨rfl, A, rfl⟩ | ⟨c, hc1, rfl, hfit⟩
          · exact .inl ⟨rfl, A, rfl⟩
          · exact .inr ⟨c, hc1, rfl, hfit⟩
    · obtain ⟨i, hi, h⟩ := Option.bind_eq_some_iff.1 h
      obtain ⟨q, hq, h⟩ := Option.bind_eq_some_iff.1 h
      cases h
      rw [VR] at hx
      obtain ⟨xs, rfl, h1, h2⟩ := hx
      obtain ⟨φ', a1, a2, a3⟩ := ih _ _ q _ H φ hq h2 hn hr ha
      simp only [instT, hi, Option.getD_some]
      refine ⟨φ', a1, ?_, a3⟩
      rw [VR]
      refine ⟨xs, rfl, ?_, a2⟩
      rw [h1]
      exact (inst_len hq).symm
    · obtain ⟨i, hi, h⟩ := Option.bind_eq_some_iff.1 h
      obtain ⟨q, hq, h⟩ := Option.bind_eq_some_iff.1 h
      cases h
      rw [VR] at hx
      obtain ⟨xs, rfl, h1, h2⟩ := hx
      obtain ⟨φ', a1, a2, a3⟩ := ih _ _ q _ H φ hq h2 hn hr ha
      simp only [instT, hi, Option.getD_some]
      refine ⟨φ', a1, ?_, a3⟩
      rw [VR]
      refine ⟨xs, rfl, ?_, a2⟩
      rw [h1]
      exact (inst_len hq).symm
end own

end Go.Proofs.Ytfpmccedangjoaa.Abs
