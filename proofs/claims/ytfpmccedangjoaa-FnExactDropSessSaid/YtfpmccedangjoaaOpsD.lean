/- Each operation does in memory what it does abstractly: what makes memory. -/
import Derived.Test.YtfpmccedangjoaaOpsC
import Derived.Laws.Append
import Derived.Laws.AppendOwn
import Derived.Lib.AppendStr
import Derived.Laws.MakeOwn
import Derived.Lib.ConvBytes
set_option linter.unusedVariables false
namespace Go.Proofs.Ytfpmccedangjoaa.Abs
open Go Go.RowKit

variable {P : Program} {β : Type}

theorem set_dead {H : Heap} {id : Nat} {k0 : Blk} {i : Nat} {k : Blk} (h : (H.set id { k0 with live := false })[i]? = some k) (hl : k.live = true) : i ≠ id ∧ H[i]? = some k := by
  rw [List.getElem?_set] at h
  split at h
  · rename_i he
    subst he
    split at h
    · simp only [Option.some.injEq] at h
      subst h
      cases hl
    · cases h
  · rename_i he
    exact ⟨fun h => he h.symm, h⟩

theorem HR.dead {w0 : World} {φ : Phi} {w : World} {H : Heap} (hr : HR w0 φ w H) (id : Nat) (k0 : Blk) : HR w0 φ w (H.set id { k0 with live := false }) where
  bel := hr.bel
  blk i k b o sz hi hl hp := hr.blk i k b o sz (set_dead hi hl).2 hl hp
  nil i k hi hl hp := hr.nil i k (set_dead hi hl).2 hl hp
  inj i i' k k' b o sz o' sz' hi hi' hl hl' hp hp' := hr.inj i i' k k' b o sz o' sz' (set_dead hi hl).2 (set_dead hi' hl').2 hl hl' hp hp'
  dom i p hp := by simpa using hr.dom i p hp

theorem Fr.dead {φ : Phi} {H : Heap} {w w' : World} {id : Nat} {k0 : Blk} (h : Fr φ (H.set id { k0 with live := false }) w w') : Fr φ H w w' :=
  ⟨h.os, h.tape, h.output, h.size, fun b hb hn => h.block b hb fun i k o sz hi hl => hn i k o sz (set_dead hi hl).2 hl⟩

/-- A nil slice as a block of the call's own. -/
theorem HR.nilblk {w0 : World} {φ : Phi} {w : World} {H : Heap} (hr : HR w0 φ w H) : HR w0 (upd φ H.length .nl) w (H ++ [⟨[], true, true⟩]) := by
  have hle := upd_le (p := Pl.nl) hr.fresh
  have old : ∀ (i : Nat) (k' : Blk), (H ++ [⟨[], true, true⟩])[i]? = some k' → i ≠ H.length → H[i]? = some k' := by
    intro i k' hi hne
    have : i < H.length := by
      have := (List.getElem?_eq_some_iff.1 hi).1
      simp at this
      omega
    rwa [List.getElem?_append_left this] at hi
  have oldp : ∀ (i : Nat) (p : Pl), upd φ H.length .nl i = some p → i ≠ H.length → φ i = some p := by
    intro i p hp hne
    unfold upd at hp
    rwa [if_neg hne] at hp
  have ne : ∀ i b o sz, upd φ H.length .nl i = some (.pt b o sz) → i ≠ H.length := by
    intro i b o sz hp he
    subst he
    rw [upd_at] at hp
    cases hp
  refine ⟨hr.bel, ?_, ?_, ?_, ?_⟩
  · intro i k b o sz hi hl hp
    have he := ne i b o sz hp
    obtain ⟨h1, arr, e, fr, g1, g2, g3, g4, g5, g6⟩ := hr.blk i k b o sz (old i k hi he) hl (oldp i _ hp he)
    exact ⟨h1, arr, e, fr, g1, g2, g3, g4, g5, VRs.mono hle g6⟩
  · intro i k hi hl hp
    by_cases he : i = H.length
    · subst he
      simp at hi
      subst hi
      rfl
    · exact hr.nil i k (old i k hi he) hl (oldp i _ hp he)
  · intro i i' k k' b o sz o' sz' hi hi' hl hl' hp hp'
    exact hr.inj i i' k k' b o sz o' sz' (old i k hi (ne _ _ _ _ hp)) (old i' k' hi' (ne _ _ _ _ hp')) hl hl' (oldp i _ hp (ne _ _ _ _ hp)) (oldp i' _ hp' (ne _ _ _ _ hp'))
  · intro i p hp
    by_cases he : i = H.length
    · subst he; simp
    · have := hr.dom i p (oldp i _ hp he); simp; omega

/-- A block is handed on: what it held is gone, and it is the block of another one. -/
theorem HR.adopt {w0 : World} {φ : Phi} {w w' : World} {H : Heap} (hr : HR w0 φ w H) {id : Nat} {k : Blk} {b o sz : Nat} (hk : H[id]? = some k) (hlv : k.live = true) (hp : φ id = some (.pt b o sz))
    (hw : w'.os = w.os ∧ w'.tape = w.tape ∧ w'.output = w.output ∧ w'.heap.size = w.heap.size) (ho : ∀ c, c ≠ b → w'.heap[c]? = w.heap[c]?) {k' : Blk} {o' : Nat} (hb : BlkR w0 φ w' k' b o' sz) :
    HR w0 (upd φ H.length (.pt b o' sz)) w' (H.set id { k with live := false } ++ [k']) ∧ Fr φ H w w' := by
  have hle := upd_le (p := Pl.pt b o' sz) hr.fresh
  have hfr : Fr φ H w w' := ⟨hw.1, hw.2.1, hw.2.2.1, by omega, fun c hc hn => ho c fun he => hn id k o sz hk hlv (by rw [he]; exact hp)⟩
  have hlen : (H.set id { k with live := false }).length = H.length := by simp
  have old : ∀ (i : Nat) (q : Blk), (H.set id { k with live := false } ++ [k'])[i]? = some q → q.live = true → i ≠ H.length → i ≠ id ∧ H[i]? = some q := by
    intro i q hi hl hne
    have : i < (H.set id { k with live := false }).length := by
      have := (List.getElem?_eq_some_iff.1 hi).1
      simp at this ⊢
      omega
    rw [List.getElem?_append_left this] at hi
    exact set_dead hi hl
  have new : ∀ (q : Blk), (H.set id { k with live := false } ++ [k'])[H.length]? = some q → q = k' := by
    intro q hi
    rw [List.getElem?_append_right (by simp)] at hi
    simp at hi
    exact hi.symm
  have oldp : ∀ (i : Nat) (p : Pl), upd φ H.length (.pt b o' sz) i = some p → i ≠ H.length → φ i = some p := by
    intro i p hp hne
    unfold upd at hp
    rwa [if_neg hne] at hp
  have other : ∀ i q bb oo ss, H[i]? = some q → q.live = true → φ i = some (.pt bb oo ss) → i ≠ id → bb ≠ b := by
    intro i q bb oo ss hi hl hp' hne he
    subst he
    exact hne (hr.inj i id q k _ oo ss o sz hi hk hl hlv hp' hp)
  refine ⟨⟨below_of_fr hr hfr, ?_, ?_, ?_, ?_⟩, hfr⟩
  · intro i q b' o2 sz' hi hl hp'
    by_cases he : i = H.length
    · subst he
      have := new q hi
      subst this
      rw [upd_at] at hp'
      cases hp'
      obtain ⟨h1, arr, e, fr, g1, g2, g3, g4, g5, g6⟩ := hb
      exact ⟨h1, arr, e, fr, g1, g2, g3, g4, g5, VRs.mono hle g6⟩
    · obtain ⟨hne, hq⟩ := old i q hi hl he
      have hpp := oldp i _ hp' he
      obtain ⟨h1, arr, e, fr, g1, g2, g3, g4, g5, g6⟩ := hr.blk i q b' o2 sz' hq hl hpp
      exact ⟨h1, arr, e, fr, by rw [ho b' (other i q b' o2 sz' hq hl hpp hne)]; exact g1, g2, g3, g4, g5, VRs.mono hle g6⟩
  · intro i q hi hl hp'
    by_cases he : i = H.length
    · subst he
      rw [upd_at] at hp'
      cases hp'
    · exact hr.nil i q (old i q hi hl he).2 hl (oldp i _ hp' he)
  · intro i i' q q' b1 o1 sz1 o2 sz2 hi hi' hl hl' hp1 hp2
    by_cases he : i = H.length
    · by_cases he' : i' = H.length
      · omega
      · subst he
        rw [upd_at] at hp1
        cases hp1
        obtain ⟨hne, hq⟩ := old i' q' hi' hl' he'
        exact absurd rfl (other i' q' _ o2 sz2 hq hl' (oldp i' _ hp2 he') hne)
    · by_cases he' : i' = H.length
      · subst he'
        rw [upd_at] at hp2
        cases hp2
        obtain ⟨hne, hq⟩ := old i q hi hl he
        exact absurd rfl (other i q _ o1 sz1 hq hl (oldp i _ hp1 he) hne)
      · exact hr.inj i i' q q' b1 o1 sz1 o2 sz2 (old i q hi hl he).2 (old i' q' hi' hl' he').2 hl hl' (oldp i _ hp1 he) (oldp i' _ hp2 he')
  · intro i p hp'
    by_cases he : i = H.length
    · subst he; simp
    · have := hr.dom i p (oldp i _ hp' he); simp; omega

theorem VRs_append {w0 : World} {φ : Phi} {xs ys : List AV} {g : Nat → Option Value} (h1 : VRs w0 φ xs g) (h2 : VRs w0 φ ys (fun j => g (xs.length + j))) : VRs w0 φ (xs ++ ys) g := by
  rw [VRs_iff] at *
  intro j x hj
  by_cases hlt : j < xs.length
  · rw [List.getElem?_append_left hlt] at hj
    exact h1 j x hj
  · rw [List.getElem?_append_right (by omega)] at hj
    have := h2 (j - xs.length) x hj
    rwa [show xs.length + (j - xs.length) = j by omega] at this

/-- append, whatever is appended: with room, or into a new row. -/
theorem run_append_room' {t t' ty : TypeId} {i j : TI} (ht : TOk P t i) (hs : i.sl = true) (hj : TOk P i.elem j) (hu : (∃ e, P.underlying t' = some (.slice e)) ∨ P.underlying t' = some .string)
    {w : World} {A : Option Addr} {n c m : Nat} {x : Value} {news : List Value} (hlen : (Builtin.lenOf x).run P w = .ok m w) (hfc : (Builtin.firstCells j.size m x).run P w = .ok news.toArray w) (hroom : n + m ≤ c) :
    (Builtin.append_ #[t, t'] ty #[.slice A n c, x]).run P w = match A with
      | none => .ok (.slice none (n + m) c) w
      | some a => ((storeCells (a.add (n * j.size)) news).run P w).andThen fun _ w' => .ok (.slice A (n + m) c) w' := by
  have hun := fun w => run_underlying (desc_slice ht hs) w
  rcases hu with ⟨e, hu⟩ | hu
  · have hu := fun w => run_underlying hu w
    cases A with
    | none => simp [Builtin.append_, hun, hj.rSize, hu, hlen, hfc, hroom]
    | some a => simp [Builtin.append_, hun, hj.rSize, hu, hlen, hfc, hroom]
  · have hu := fun w => run_underlying hu w
    cases A with
    | none => simp [Builtin.append_, hun, hj.rSize, hu, hlen, hfc, hroom]
    | some a => simp [Builtin.append_, hun, hj.rSize, hu, hlen, hfc, hroom]

theorem run_append_more {t t' ty : TypeId} {i j : TI} (ht : TOk P t i) (hs : i.sl = true) (hj : TOk P i.elem j) (hu : (∃ e, P.underlying t' = some (.slice e)) ∨ P.underlying t' = some .string)
    {w : World} {A : Option Addr} {n c m : Nat} {x : Value} {olds news : List Value} (hlen : (Builtin.lenOf x).run P w = .ok m w) (hfc : ∀ w', w' = w ∨ w' = w.drew → (Builtin.firstCells j.size m x).run P w' = .ok news.toArray w')
    (hold : ∀ w', w' = w ∨ w' = w.drew → (Builtin.firstCells j.size n (.slice A n c)).run P w' = .ok olds.toArray w') (hroom : ¬ n + m ≤ c) (hnc : n ≤ c) (hb : (n + m) * j.bytes ≤ 140737488355328) :
    ∃ rest : List Value, (Builtin.append_ #[t, t'] ty #[.slice A n c, x]).run P w = .ok (.slice (some ⟨w.heap.size, 0, none⟩) (n + m) (grownCap w (n + m) c i.elem)) (w.drew.alloc (.cells (olds ++ news ++ rest).toArray i.elem)) ∧
      rest.length = (grownCap w (n + m) c i.elem - (n + m)) * j.size := by
  have hun := fun w => run_underlying (desc_slice ht hs) w
  obtain ⟨inf, hi, e1, e2, z, hz1, hz2⟩ := hj.info
  have hzs : z.cells.size = j.size := by rw [← hj.zsz, ← hz2]; simp
  have hbp := hj.bpos
  have hle : (n + m) ≤ 140737488355328 := Nat.le_trans (Nat.le_mul_of_pos_right _ hbp) hb
  have h63 : ¬ ((9223372036854775807 : Int) < (n : Int) + (m : Int)) := by omega
  have h48 := growslice_fits (need := n + m) (old := c) (bytes := j.bytes) (by omega) hb
  refine ⟨(Builtin.zeroCells z.cells (grownCap w (n + m) c i.elem - (n + m))).toList, ?_, by rw [Array.length_toList, size_zeroCells, hzs]⟩
  have o1 := hold w.drew (.inr rfl)
  have o2 := hfc w.drew (.inr rfl)
  have h48' : ¬ (281474976710656 < Builtin.nextslicecap (n + m) c * inf.bytes) := by rw [e2]; omega
  rcases hu with ⟨e, hu⟩ | hu
  · have hu := fun w => run_underlying hu w
    simp [Builtin.append_, hun, hj.rSize, hu, hlen, hroom, typeInfo, hi, h48', h63, Question.forced, o1, o2, zeroValue, hz1, newRow, grownCap]
    congr 2
    apply Array.ext'
    simp
  · have hu := fun w => run_underlying hu w
    simp [Builtin.append_, hun, hj.rSize, hu, hlen, hroom, typeInfo, hi, h48', h63, Question.forced, o1, o2, zeroValue, hz1, newRow, grownCap]
    congr 2
    apply Array.ext'
    simp

theorem below_drew_alloc (w : World) (o : Obj) : Below w.heap.size w (w.drew.alloc o) := by
  have h := below_alloc' w.drew o
  exact ⟨h.os, h.tape, h.output, h.size, h.block⟩

/-- What is handed on to a longer slice. -/
theorem app_core {t t' ty : TypeId} {i j : TI} (ht : TOk P t i) (hs : i.sl = true) (hj : TOk P i.elem j) (hu : (∃ e, P.underlying t' = some (.slice e)) ∨ P.underlying t' = some .string)
    {w0 : World} {φ : Phi} {w : World} {H H1 : Heap} (hr : HR w0 φ w H) {x : AV} {u v : Value} (hx : VR w0 φ x u) {n m : Nat} {cx cy : List AV} {news : List Value}
    (hlen : (Builtin.lenOf v).run P w = .ok m w) (hfc : ∀ w', w' = w ∨ w' = w.drew → (Builtin.firstCells j.size m v).run P w' = .ok news.toArray w')
    (hl : news.length = m * j.size) (hcl : cy.length = m * j.size) (hcy : VRs w0 φ cy (fun q => news[q]?)) (hleaf : ∀ z ∈ news, z.oneCell' = true)
    (hn : lenA x = some n) (hcx : content H j.size x = some cx) (hki : kill H x = some H1) (hb : (n + m) * j.bytes ≤ 140737488355328)
    {k : AV → Heap → Option β} {r : β} (hk : k (.sl H1.length 0 (n + m) j.size) (H1 ++ [⟨cx ++ cy, true, true⟩]) = some r) :
    Done w0 φ w H k r fun u' w' => (Builtin.append_ #[t, t'] ty #[u, v]).run P w = .ok u' w' ∧ (x = .nl → Below w.heap.size w w') := by
  obtain ⟨A, c, olds, rfl, hnc, c1, c2, c3, c4, c5, c6⟩ := content_VR (P := P) hr hx hn hcx
  have hold : ∀ w', w' = w ∨ w' = w.drew → (Builtin.firstCells j.size n (.slice A n c)).run P w' = .ok olds.toArray w' := by
    intro w' hw'
    cases A with
    | none =>
      have e : olds = [] := List.eq_nil_of_length_eq_zero (by rw [c2, c5 rfl])
      subst e
      exact run_firstCells_none w' j.size n n c
    | some a =>
      refine run_firstCells_some w' j.size n a n c olds c2 fun q z hq => ?_
      have := c6 a rfl q z hq
      rcases hw' with rfl | rfl
      · exact this
      · simpa using this
  have h1len : H1.length = H.length := by
    cases x <;> simp only [kill] at hki
    all_goals first
      | (cases hki; done)
      | (cases hki; rfl)
      | (simp only [Option.bind_eq_some_iff] at hki; obtain ⟨k0, hk0, hki⟩ := hki; split at hki <;> cases hki; simp)
  -- the heap without what is handed on
  have hdead : HR w0 φ w H1 ∧ ∀ w', Fr φ H1 w w' → Fr φ H w w' := by
    cases x <;> simp only [kill] at hki
    all_goals first
      | (cases hki; done)
      | (cases hki; exact ⟨hr, fun _ h => h⟩)
      | (simp only [Option.bind_eq_some_iff] at hki; obtain ⟨k0, hk0, hki⟩ := hki; split at hki <;> cases hki; exact ⟨hr.dead _ _, fun _ h => h.dead⟩)
  by_cases hroom : n + m ≤ c
  · have hrun := run_append_room' (ty := ty) ht hs hj hu hlen (hfc w (.inl rfl)) hroom (A := A)
    cases x with
    | nl =>
      simp only [kill, Option.some.injEq] at hki
      subst hki
      rw [VR] at hx
      obtain ⟨A', hx⟩ := hx
      cases hx
      have hm : m = 0 := by omega
      subst hm
      simp only [content, Option.some.injEq] at hcx
      subst hcx
      have hcy0 : cy = [] := List.eq_nil_of_length_eq_zero (by simpa using hcl)
      subst hcy0
      have hnw0 : news = [] := List.eq_nil_of_length_eq_zero (by simpa using hl)
      subst hnw0
      refine ⟨_, .slice A 0 0, _, _, _, hk, upd_le hr.fresh, hr.nilblk, Fr.refl _ _ _, ?_, ?_⟩
      · rw [VR]
        exact .inl ⟨upd_at _ _ _, rfl, rfl, _, rfl⟩
      · rw [hrun]
        exact ⟨by cases A <;> rfl, fun _ => Below.refl _ _⟩
    | sl id off n' z =>
      simp only [lenA, Option.some.injEq] at hn
      subst hn
      simp only [kill, Option.bind_eq_some_iff] at hki
      obtain ⟨k0, hk0, hki⟩ := hki
      split at hki
      · rename_i happ
        simp only [Option.some.injEq] at hki
        subst hki
        simp only [content] at hcx
        split at hcx
        · rename_i hz
          unfold rdCells at hcx
          rw [hk0] at hcx
          simp only at hcx
          split at hcx
          · rename_i hlv
            split at hcx
            · rename_i hle
              simp only [Option.some.injEq] at hcx
              rw [VR] at hx
              rcases hx with ⟨hp, rfl, rfl, A', hx⟩ | ⟨b, o, sz, hp, hx⟩
              · cases hx
                have hm : m = 0 := by omega
                subst hm
                have hcy0 : cy = [] := List.eq_nil_of_length_eq_zero (by simpa using hcl)
                have hcx0 : cx = [] := List.eq_nil_of_length_eq_zero (by simpa using c1)
                subst hcy0 hcx0
                have hnw0 : news = [] := List.eq_nil_of_length_eq_zero (by simpa using hl)
                subst hnw0
                refine ⟨_, .slice A 0 0, _, _, _, hk, upd_le hdead.1.fresh, hdead.1.nilblk, Fr.refl _ _ _, ?_, ?_⟩
                · rw [VR]
                  exact .inl ⟨upd_at _ _ _, rfl, rfl, _, rfl⟩
                · rw [hrun]
                  exact ⟨by cases A <;> rfl, fun h => by cases h⟩
              · obtain ⟨hbw, arr, e, fr, q1, q2, q3, q4, q5, q6⟩ := hr.blk id k0 b o sz hk0 hlv hp
                rcases hx with ⟨rfl, A', hx⟩ | ⟨c', hc', hx, hfit⟩
                · cases hx
                  have hm : m = 0 := by omega
                  subst hm
                  have hcy0 : cy = [] := List.eq_nil_of_length_eq_zero (by simpa using hcl)
                  have hcx0 : cx = [] := List.eq_nil_of_length_eq_zero (by simpa using c1)
                  have hnw0 : news = [] := List.eq_nil_of_length_eq_zero (by simpa using hl)
                  subst hcy0 hcx0 hnw0
                  obtain ⟨g1, g2⟩ := hr.adopt hk0 hlv hp ⟨rfl, rfl, rfl, rfl⟩ (fun _ _ => rfl) (k' := ⟨[] ++ [], true, true⟩) (o' := o) (w' := w) ⟨hbw, arr, e, fr, q1, q2, by simp; omega, fun _ => q4 happ, .inl (q4 happ), by simp [VRs]⟩
                  simp only [List.length_set] at hk
                  refine ⟨_, .slice A 0 0, _, _, _, hk, upd_le hr.fresh, g1, g2, ?_, ?_⟩
                  · rw [VR]
                    exact .inr ⟨_, _, _, upd_at _ _ _, .inl ⟨rfl, _, rfl⟩⟩
                  · rw [hrun]
                    exact ⟨by cases A <;> rfl, fun h => by cases h⟩
                · cases hx
                  subst hz
                  have hfr := q4 happ
                  obtain ⟨s1, s2, s3, s4⟩ := setCells_same b news (o + off + n' * j.size) w
                  have hfit2 : n' * j.size + m * j.size ≤ c * j.size := by rw [← Nat.add_mul]; exact Nat.mul_le_mul_right _ hroom
                  obtain ⟨arr', g1, g2, g3⟩ := setCells_heap b e fr news (o + off + n' * j.size) w arr q1 (by omega)
                  have hst := run_storeCells_cells (P := P) b (o + off + n' * j.size) news 0 w
                    (fun q hq => by
                      have hlt : o + off + n' * j.size + q < arr.size := by omega
                      simp [World.cell?, q1, hlt])
                    (fun q hq => by
                      simp only [World.frozen?, q1, hfr]
                      simp)
                    hleaf
                  simp only [Nat.add_zero] at hst
                  have hcxl : cx.length = n' * j.size := c1
                  have hv : VRs w0 φ (cx ++ cy) (fun q => arr'[o + off + q]?) := by
                    refine VRs_append ?_ ?_
                    · rw [VRs_iff] at q6 ⊢
                      intro q y hq
                      have hlt := (List.getElem?_eq_some_iff.1 hq).1
                      rw [← hcx, List.getElem?_take_of_lt (by omega), List.getElem?_drop] at hq
                      obtain ⟨uu, e1, e2⟩ := q6 _ y hq
                      refine ⟨uu, ?_, e2⟩
                      rw [g3, if_neg (by omega), Nat.add_assoc]
                      exact e1
                    · rw [VRs_iff] at hcy ⊢
                      intro q y hq
                      have hlt := (List.getElem?_eq_some_iff.1 hq).1
                      obtain ⟨uu, e1, e2⟩ := hcy q y hq
                      refine ⟨uu, ?_, e2⟩
                      rw [g3, if_pos (by omega), ← e1]
                      congr 1
                      omega
                  obtain ⟨a1, a2⟩ := hr.adopt hk0 hlv hp ⟨s1, s2, s3, s4⟩ (fun c hc => setCells_other b news _ w c hc) (k' := ⟨cx ++ cy, true, true⟩) (o' := o + off) (w' := w.setCells b (o + off + n' * j.size) news)
                    ⟨hbw, arr', e, fr, g1, by omega, by simp; omega, fun _ => hfr, .inl hfr, hv⟩
                  simp only [List.length_set] at hk
                  refine ⟨_, .slice (some ⟨b, o + off, none⟩) (n' + m) c, _, _, _, hk, upd_le hr.fresh, a1, a2, ?_, ?_⟩
                  · rw [VR]
                    exact .inr ⟨_, _, _, upd_at _ _ _, .inr ⟨c, hroom, rfl, hfit⟩⟩
                  · rw [hrun]
                    simp only [addr_add]
                    rw [hst]
                    exact ⟨rfl, fun h => by cases h⟩
            · cases hcx
          · cases hcx
        · cases hcx
      · cases hki
    | _ => cases hki
  · obtain ⟨rest, h1, h2⟩ := run_append_more (ty := ty) ht hs hj hu hlen hfc hold hroom hnc hb
    have hcap := grownCap_ge w (n + m) c i.elem
    obtain ⟨a1, a2⟩ := hdead.1.alloc (below_drew_alloc w (.cells (olds ++ news ++ rest).toArray i.elem)) (b := w.heap.size) (o := 0) (k := ⟨cx ++ cy, true, true⟩) (Nat.le_refl _) (alloc_new w.drew _)
      (by simp; omega) (fun _ => rfl) (.inl rfl) (by
        simp only [Nat.zero_add, List.getElem?_toArray]
        refine VRs_append ?_ ?_
        · rw [VRs_iff] at c3 ⊢
          intro q y hq
          have hlt := (List.getElem?_eq_some_iff.1 hq).1
          rw [List.append_assoc, List.getElem?_append_left (by omega)]
          exact c3 q y hq
        · rw [VRs_iff] at hcy ⊢
          intro q y hq
          have hlt := (List.getElem?_eq_some_iff.1 hq).1
          rw [List.append_assoc, List.getElem?_append_right (by omega), List.getElem?_append_left (by omega), show cx.length + q - olds.length = q by omega]
          exact hcy q y hq)
    refine ⟨_, _, _, _, _, hk, upd_le hdead.1.fresh, a1, hdead.2 _ a2, ?_, h1, fun _ => below_drew_alloc w _⟩
    rw [VR]
    refine .inr ⟨_, _, _, upd_at _ _ _, .inr ⟨_, hcap, rfl, ?_⟩⟩
    have : (n + m) * j.size + (grownCap w (n + m) c i.elem - (n + m)) * j.size = grownCap w (n + m) c i.elem * j.size := by
      rw [← Nat.add_mul]
      congr 1
      omega
    have e2 : (n + m) * j.size = n * j.size + m * j.size := Nat.add_mul _ _ _
    simp
    omega

theorem app_sound {t t' ty : TypeId} {i i' j : TI} (ht : TOk P t i) (hs : i.sl = true) (hj : TOk P i.elem j) (ht' : TOk P t' i') (hs' : i'.sl = true)
    {w0 : World} {φ : Phi} {w : World} {H : Heap} (hr : HR w0 φ w H) {x y : AV} {u v : Value} (hx : VR w0 φ x u) (hy : VR w0 φ y v) {k : AV → Heap → Option β} {r : β}
    (h : pApp j.size j.bytes x y H k = some r) : Done w0 φ w H k r fun u' w' => (Builtin.append_ #[t, t'] ty #[u, v]).run P w = .ok u' w' ∧ (x = .nl → Below w.heap.size w w') := by
  simp only [pApp, Option.bind_eq_some_iff] at h
  obtain ⟨n, hn, m, hm, cx, hcx, cy, hcy, H1, hki, h⟩ := h
  split at h
  · rename_i hb
    split at h
    · rename_i hlf
      obtain ⟨B, c, news, rfl, hmc, d1, d2, d3, d4, d5, d6⟩ := content_VR (P := P) hr hy hm hcy
      refine app_core ht hs hj (.inl ⟨_, desc_slice ht' hs'⟩) hr hx (m := m) (cy := cy) (news := news) rfl ?_ d2 d1 d3 ?_ hn hcx hki hb h
      · intro w' hw'
        cases B with
        | none =>
          have e : news = [] := List.eq_nil_of_length_eq_zero (by rw [d2, d5 rfl])
          subst e
          exact run_firstCells_none w' j.size m m c
        | some a =>
          refine run_firstCells_some w' j.size m a m c news d2 fun q z hq => ?_
          have := d6 a rfl q z hq
          rcases hw' with rfl | rfl
          · exact this
          · simpa using this
      · intro z hz
        obtain ⟨q, hq⟩ := List.mem_iff_getElem?.1 hz
        rw [VRs_iff] at d3
        have hlt : q < cy.length := by rw [d1, ← d2]; exact (List.getElem?_eq_some_iff.1 hq).1
        obtain ⟨uu, e1, e2⟩ := d3 q _ (List.getElem?_eq_getElem hlt)
        rw [hq] at e1
        cases e1
        exact leaf_one (leaf_VR e2 (List.all_eq_true.1 hlf _ (List.getElem_mem hlt)))
    · cases h
  · cases h

theorem bytesAV_VRs (w0 : World) (φ : Phi) (s : ByteArray) : VRs w0 φ (bytesAV s) (fun q => (s.data.toList.map fun b => Value.int .u8 b.toNat)[q]?) := by
  rw [VRs_iff]
  intro q y hq
  simp only [bytesAV, List.getElem?_map] at hq ⊢
  obtain ⟨b, hb, rfl⟩ := Option.map_eq_some_iff.1 hq
  exact ⟨_, by rw [hb]; rfl, VR_sc _ _ _⟩

theorem appS_sound {t t' ty : TypeId} {i i' j : TI} (ht : TOk P t i) (hs : i.sl = true) (hj : TOk P i.elem j) (ht' : TOk P t' i') (hs' : i'.isStr = true) (hj1 : j.size = 1)
    {w0 : World} {φ : Phi} {w : World} {H : Heap} (hr : HR w0 φ w H) {x y : AV} {u v : Value} (hx : VR w0 φ x u) (hy : VR w0 φ y v) {k : AV → Heap → Option β} {r : β}
    (h : pAppS j.bytes x y H k = some r) : Done w0 φ w H k r fun u' w' => (Builtin.append_ #[t, t'] ty #[u, v]).run P w = .ok u' w' ∧ (x = .nl → Below w.heap.size w w') := by
  simp only [pAppS, Option.bind_eq_some_iff] at h
  obtain ⟨n, hn, s, hm, cx, hcx, H1, hki, h⟩ := h
  have := asS_VR hy hm
  subst this
  split at h
  · rename_i hb
    refine app_core ht hs hj (.inr (desc_str ht' hs')) hr hx (m := s.size) (cx := cx) (cy := bytesAV s) (news := s.data.toList.map fun b => Value.int .u8 b.toNat) rfl ?_ ?_ ?_ (bytesAV_VRs _ _ _) ?_ hn ?_ hki hb ?_
    · intro w' _
      have e : s.extract 0 s.size = s := by
        simp
      simp only [Builtin.firstCells, e, Sem.run_pure]
      congr 1
      apply Array.ext'
      simp
    · simp [hj1]
    · simp [hj1, bytesAV]
    · intro z hz
      obtain ⟨b, _, rfl⟩ := List.mem_map.1 hz
      rfl
    · rw [hj1]; exact hcx
    · rw [hj1]; exact h
  · cases h

theorem rep_get {α : Type} (z : List α) : ∀ (n q : Nat), q < n * z.length → ((List.replicate n z).flatten)[q]? = z[q % z.length]?
  | 0, q, h => by omega
  | n + 1, q, h => by
    rw [List.replicate_succ, List.flatten_cons]
    have e : (n + 1) * z.length = n * z.length + z.length := Nat.succ_mul _ _
    by_cases hq : q < z.length
    · rw [List.getElem?_append_left hq, Nat.mod_eq_of_lt hq]
    · rw [List.getElem?_append_right (by omega), rep_get z n _ (by omega)]
      congr 1
      conv => rhs; rw [show q = (q - z.length) + z.length by omega]
      rw [Nat.add_mod_right]

theorem made_VRs (w0 : World) (φ : Phi) {j : TI} {z : Value} (hz : z.cells.toList = j.zero) (hs : j.zero.length = j.size) (hp : 0 < j.size) (n : Nat) :
    VRs w0 φ ((List.replicate n (zeroA j)).flatten) (fun q => (madeCells z.cells (n * j.size))[q]?) ∧ ((List.replicate n (zeroA j)).flatten).length = n * j.size := by
  have hl : (zeroA j).length = j.size := by simp [zeroA, hs]
  have hlen : ((List.replicate n (zeroA j)).flatten).length = n * j.size := by simp [hl]
  have hzs : z.cells.size = j.size := by rw [← hs, ← hz]; simp
  refine ⟨?_, hlen⟩
  have hz0 := zeroA_VRs w0 φ j hz
  rw [VRs_iff] at hz0 ⊢
  intro q y hq
  have hlt : q < n * j.size := by rw [← hlen]; exact (List.getElem?_eq_some_iff.1 hq).1
  rw [rep_get _ _ _ (by rw [hl]; exact hlt), hl] at hq
  obtain ⟨u, e1, e2⟩ := hz0 _ y hq
  refine ⟨u, ?_, e2⟩
  have hm : q % j.size < z.cells.size := by rw [hzs]; exact Nat.mod_lt _ hp
  have e : (madeCells z.cells (n * j.size))[q]? = some (z.cells[q % z.cells.size]!) := by
    simp [madeCells, hlt]
  rw [e, hzs, getElem!_pos z.cells _ hm]
  rw [Array.getElem?_eq_getElem hm] at e1
  exact e1

theorem make_sound {t : TypeId} {i j : TI} (ht : TOk P t i) (hs : i.sl = true) (hj : TOk P i.elem j)
    {w0 : World} {φ : Phi} {w : World} {H : Heap} (hr : HR w0 φ w H) {x y : AV} {u v : Value} (hx : VR w0 φ x u) (hy : VR w0 φ y v) {k : AV → Heap → Option β} {r : β}
    (h : pMake j.size j.bytes (zeroA j) x y H k = some r) : DoneB w0 φ w H k r fun u' w' => (Instr.makeSlice t u v).run P w = .ok u' w' := by
  simp only [pMake, Option.bind_eq_some_iff] at h
  obtain ⟨n, hn, m, hm, h⟩ := h
  split at h
  · rename_i he
    subst he
    split at h
    · rename_i h0
      split at h
      · rename_i hb
        obtain ⟨kl, rfl⟩ := asI_VR hx hn
        obtain ⟨kc, rfl⟩ := asI_VR hy hm
        obtain ⟨inf, hi, e1, e2, z, hz1, hz2⟩ := hj.info
        obtain ⟨g1, g2⟩ := made_VRs w0 φ hz2 hj.zsz hj.spos n.toNat
        have hle : n.toNat ≤ 140737488355328 := Nat.le_trans (Nat.le_mul_of_pos_right _ hj.bpos) hb
        have hbz : (inf.bytes : Int) * n ≤ 281474976710656 := by
          have e : ((n.toNat : Int)) = n := Int.toNat_of_nonneg h0
          rw [e2, ← e]
          have : ((j.bytes * n.toNat : Nat) : Int) ≤ 281474976710656 := by rw [Nat.mul_comm]; omega
          rwa [Int.natCast_mul] at this
        have hrun := run_make (P := P) w t i.elem inf z (desc_slice ht hs) hi hz1 kl kc n n h0 (Int.le_refl _) hbz (by omega)
        obtain ⟨a1, a2⟩ := hr.alloc (below_alloc' w (.cells (madeCells z.cells (n.toNat * inf.size)) i.elem)) (b := w.heap.size) (o := 0) (k := ⟨(List.replicate n.toNat (zeroA j)).flatten, true, true⟩) (Nat.le_refl _) (alloc_new w _)
          (by rw [size_madeCells, e1, Nat.zero_add]; exact Nat.le_of_eq g2) (fun _ => rfl) (.inl rfl) (by simpa [e1] using g1)
        refine ⟨_, _, _, _, _, h, upd_le hr.fresh, a1, below_alloc' w _, ?_, hrun⟩
        rw [VR]
        refine .inr ⟨_, _, _, upd_at _ _ _, .inr ⟨_, Nat.le_refl _, rfl, ?_⟩⟩
        rw [size_madeCells, e1]
        omega
      · cases h
    · cases h
  · cases h

theorem clear_sound {t ty : TypeId} {i j : TI} (ht : TOk P t i) (hs : i.sl = true) (hj : TOk P i.elem j) {w0 : World} {φ : Phi} {w : World} {H : Heap} (hr : HR w0 φ w H) {x : AV} {u : Value} (hx : VR w0 φ x u) {k : Heap → Option β} {r : β}
    (h : pClear j.size (zeroA j) x H k = some r) : ∃ H' w', k H' = some r ∧ HR w0 φ w' H' ∧ Fr φ H w w' ∧ (Builtin.clear_ #[t] ty #[u]).run P w = .ok (.tuple #[]) w' := by
  have hun := run_underlying (desc_slice ht hs) w
  have h00 : ∀ (A : Option Addr) (c : Nat), (Builtin.clear_ #[t] ty #[.slice A 0 c]).run P w = .ok (.tuple #[]) w := fun A c => by
    cases A <;> simp [Builtin.clear_, hun]
  cases x with
  | nl =>
    rw [VR] at hx
    obtain ⟨A, rfl⟩ := hx
    exact ⟨H, w, h, hr, Fr.refl _ _ _, h00 A 0⟩
  | sl id off n s =>
    simp only [pClear] at h
    split at h
    · rename_i hsz
      subst hsz
      rw [VR] at hx
      cases n with
      | zero =>
        simp only at h
        have : ∃ A c, u = .slice A 0 c := by
          rcases hx with ⟨_, _, _, A, rfl⟩ | ⟨b, o, sz, hp, ⟨_, A, rfl⟩ | ⟨c, _, rfl, _⟩⟩
          · exact ⟨_, _, rfl⟩
          · exact ⟨_, _, rfl⟩
          · exact ⟨_, _, rfl⟩
        obtain ⟨A, c, rfl⟩ := this
        exact ⟨H, w, h, hr, Fr.refl _ _ _, h00 A c⟩
      | succ n =>
        rcases hx with ⟨_, _, h0, _⟩ | ⟨b, o, sz, hp, ⟨h0, _⟩ | ⟨c, hc, rfl, hle0⟩⟩
        · cases h0
        · cases h0
        · simp only at h
          split at h
          · rename_i kk hk
            split at h
            · rename_i hlv
              split at h
              · rename_i hle
                obtain ⟨inf, hi, e1, e2, z, hz1, hz2⟩ := hj.info
                obtain ⟨z', hz', hzc⟩ := run_zeroValue hj w
                obtain ⟨g1, g2⟩ := made_VRs w0 φ hzc hj.zsz hj.spos (n + 1)
                have hzs : z'.cells.size = j.size := by rw [← hj.zsz, ← hzc]; simp
                have hzc' : Builtin.zeroCells z'.cells (n + 1) = madeCells z'.cells ((n + 1) * j.size) := by rw [← hzs]; rfl
                have hlen : (Builtin.zeroCells z'.cells (n + 1)).toList.length = (n + 1) * j.size := by rw [hzc']; simp [size_madeCells]
                obtain ⟨k1, k2⟩ := hr.write hk hlv hp (off := off) (cs := (List.replicate (n + 1) (zeroA j)).flatten) (vs := (Builtin.zeroCells z'.cells (n + 1)).toList) (by rw [g2]; exact hle) (by rw [g2, hlen]) (by
                  rw [hzc']
                  simpa using g1)
                refine ⟨_, _, h, k1, k2, ?_⟩
                obtain ⟨hb, arr, e, fr, q1, q2, q3, q4, q5, q6⟩ := hr.blk id kk b o sz hk hlv hp
                have hst := run_storeCells_cells (P := P) b (o + off) (Builtin.zeroCells z'.cells (n + 1)).toList 0 w
                  (fun q hq => by
                    have hlt : o + off + q < arr.size := by omega
                    simp [World.cell?, q1, hlt])
                  (fun q hq => by
                    simp only [World.frozen?, q1]
                    rcases q5 with q5 | q5
                    · rw [q5]; simp
                    · obtain ⟨f1, f2⟩ := fr
                      simp at q5 ⊢
                      intro hh
                      omega)
                  (fun v hv => by
                    refine leaf_one ?_
                    rw [hzc'] at hv
                    simp only [madeCells, Array.toList_map, List.mem_map] at hv
                    obtain ⟨q, _, rfl⟩ := hv
                    have hm : q % z'.cells.size < z'.cells.size := Nat.mod_lt _ (by rw [hzs]; exact hj.spos)
                    rw [getElem!_pos z'.cells _ hm]
                    refine hj.zlf _ ?_
                    rw [← hzc]
                    simp)
                simp only [Nat.add_zero] at hst
                simp [Builtin.clear_, hun, hz', hst]
              · cases h
            · cases h
          · cases h
    · cases h
  | _ => simp [pClear] at h

theorem cvSB_sound {s d : TypeId} {i j e : TI} (hs : TOk P s i) (hd : TOk P d j) (hi : i.isStr = true) (hj : j.sl = true) (he : TOk P j.elem e) (hu : e.ik = some .u8) {w0 : World} {φ : Phi} {w : World} {H : Heap} (hr : HR w0 φ w H) {x : AV} {u : Value} (hx : VR w0 φ x u) {k : AV → Heap → Option β} {r : β}
    (h : pCvSB x H k = some r) : DoneB w0 φ w H k r fun z w' => (convert s d u).run P w = .ok z w' := by
  simp only [pCvSB, Option.bind_eq_some_iff] at h
  obtain ⟨b, hb, h⟩ := h
  have := asS_VR hx hb
  subst this
  split at h
  · have hrun := Lib.run_convert_string_bytes (P := P) w s d j.elem b (desc_str hs hi) (desc_slice hd hj) (desc_int he hu)
    have hge := grownCap_ge w b.size 0 j.elem
    have hsz : (Lib.bytesCells w j.elem b).size = grownCap w b.size 0 j.elem := by
      simp [Lib.bytesCells]
      have : b.data.size = b.size := rfl
      omega
    have hbel : Below w.heap.size w (Lib.bytesWorld w j.elem b) := by
      refine ⟨?_, ?_, ?_, ?_, fun q hq => Lib.bytesWorld_at_old w j.elem b q hq⟩
      · simp [Lib.bytesWorld, World.freeze]; rfl
      · simp [Lib.bytesWorld, World.freeze]
      · simp [Lib.bytesWorld, World.freeze]; rfl
      · rw [Lib.bytesWorld_size]; omega
    have hlen : (bytesAV b).length = b.size := by simp [bytesAV]
    have hle : 0 + (bytesAV b).length ≤ (Lib.bytesCells w j.elem b).size := by omega
    obtain ⟨a1, a2⟩ := hr.alloc hbel (b := w.heap.size) (o := 0) (k := ⟨bytesAV b, true, false⟩) (Nat.le_refl _) (Lib.bytesWorld_at_new w j.elem b)
      (by simp only [Nat.zero_add]; omega) (fun h => by cases h) (.inr hle) (by
        have := bytesAV_VRs w0 φ b
        rw [VRs_iff] at this ⊢
        intro q y hq
        obtain ⟨uu, e1, e2⟩ := this q y hq
        refine ⟨uu, ?_, e2⟩
        have hlt := (List.getElem?_eq_some_iff.1 hq).1
        rw [Nat.zero_add, Lib.bytesCells, Array.getElem?_append_left (by simp; rw [hlen] at hlt; exact hlt)]
        simpa using e1)
    refine ⟨_, _, _, _, _, h, upd_le hr.fresh, a1, hbel, ?_, hrun⟩
    rw [VR]
    refine .inr ⟨_, _, _, upd_at _ _ _, .inr ⟨_, hge, rfl, ?_⟩⟩
    simp only [Nat.zero_add]
    omega
  · cases h

end Go.Proofs.Ytfpmccedangjoaa.Abs
