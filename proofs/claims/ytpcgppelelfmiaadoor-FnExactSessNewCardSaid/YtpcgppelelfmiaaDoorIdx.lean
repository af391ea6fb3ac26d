/- strings.ContainsAny at the set "+#", whatever the text: the library's own text is walked where the shelf's contract asks for ASCII. -/
import Derived.Test.YtpcgppelelfmiaaDoorLev
import Derived.Shelf.Strings.IndexAnyAll
import Derived.Shelf.Small.Utf8
import Derived.Lib.TrimUEq
import Derived.Lib.QuoteLoop
import Derived.Laws.RangeAny
import Derived.Laws.Runes
import Derived.WalkKit
import Derived.WalkMore
import Derived.Below
import Derived.LoopTactic
import Derived.Shelf.RegionOpenPlain
set_option linter.unusedVariables false
set_option linter.unusedSimpArgs false
namespace Go.Proofs.YtpcgppelelfmiaaDoor.Abs
open Go Go.Shelf Go.RowKit Go.Lib Go.Proofs
variable {P : Program} {ρ : Ren}

/-- The iterator of a range over a text lies where it was put; below, the world is as it was. -/
def ItAt (w w' : World) (s : ByteArray) (pos : Nat) : Prop := Below w.heap.size w w' ∧ w'.heap[w.heap.size]? = some (.stringIter s pos)
def setIt (w' : World) (a : Nat) (s : ByteArray) (pos : Nat) : World := { w' with heap := w'.heap.setIfInBounds a (.stringIter s pos) }
theorem itAt_start (w : World) (s : ByteArray) (pos : Nat) : ItAt w (w.iter s pos) s pos := ⟨(Below.refl _ w).alloc (Nat.le_refl _) _, World.iter_heap w s pos⟩
theorem ItAt.lt {w w' : World} {s : ByteArray} {pos : Nat} (h : ItAt w w' s pos) : w.heap.size < w'.heap.size := by
  have := h.2
  simp only [Array.getElem?_eq_some_iff] at this
  exact this.1
theorem ItAt.set {w w' : World} {s : ByteArray} {pos : Nat} (h : ItAt w w' s pos) (pos' : Nat) : ItAt w (setIt w' w.heap.size s pos') s pos' := by
  refine ⟨h.1.trans ⟨rfl, rfl, rfl, by simp [setIt], fun k hk => ?_⟩, ?_⟩
  · simp only [setIt]
    rw [Array.getElem?_setIfInBounds_ne (by omega)]
  · simp only [setIt]
    rw [Array.getElem?_setIfInBounds_self_of_lt h.lt]
theorem ItAt.below {w w1 w2 : World} {s : ByteArray} {pos : Nat} (h : ItAt w w1 s pos) (hb : Below w1.heap.size w1 w2) : ItAt w w2 s pos :=
  ⟨h.1.trans (hb.mono h.1.size), by rw [hb.block _ h.lt]; exact h.2⟩
theorem next_at {w w' : World} {s : ByteArray} {pos : Nat} (h : ItAt w w' s pos) (hp : pos < s.size) (ty : TypeId) :
    (Instr.next (.pointer (some ⟨w.heap.size, 0, none⟩)) true ty).run P w' = .ok (.tuple #[.bool true, .int .i64 pos, .int .i32 (Utf8.decode s pos).1]) (setIt w' w.heap.size s (pos + (Utf8.decode s pos).2)) := by
  simp only [Instr.next, getObj, setObj, Sem.run_bind, Sem.run, h.2, Result.andThen, hp, if_true]
  simp [goInt, setIt]
theorem next_end {w w' : World} {s : ByteArray} {pos : Nat} (h : ItAt w w' s pos) (hp : ¬ pos < s.size) (ty : TypeId) :
    (Instr.next (.pointer (some ⟨w.heap.size, 0, none⟩)) true ty).run P w' = .ok (.tuple #[.bool false]) w' := by
  simp [Instr.next, getObj, Sem.run, h.2, hp]
theorem rune_at (s : ByteArray) (pos : Nat) : (Utf8.decode s pos).1 < 55296 ∨ (57343 < (Utf8.decode s pos).1 ∧ (Utf8.decode s pos).1 ≤ 1114111) := by
  rw [← Lib.decodeL_drop, Lib.decodeL_N]
  exact Lib.decodeN_valid _ _ _ _ _ (UInt8.toNat_lt _)

theorem ph_size : phB.size = 2 := rfl

set_option maxHeartbeats 8000000 in
set_option maxRecDepth 1000000 in
theorem rune_big (L : Lays.n152 P ρ) (r : Nat) (rs : ByteArray) (w : World) (h1 : 128 ≤ r) (hv : r < 55296 ∨ (57343 < r ∧ r ≤ 1114111)) (he : ¬ r = 65533) (hcv : ∀ w, (convert (ρ.t 21) (ρ.t 9) (.int .i32 r)).run P w = .ok (.string rs) w)
    (hs2 : 2 ≤ rs.size) (hs4 : rs.size ≤ 4) (hsl : rs.size = 2 → ∀ h : 1 < rs.size, 128 ≤ (rs[1]'h).toNat) :
    Calls P (ρ.f 152) #[.string phB, .int .i32 r] w fun e w' => e = .returned (.int .i64 (-1)) ∧ Below w.heap.size w w' := by
  have cV : ∀ w, Calls P (ρ.f 119) #[.int .i32 r] w _ := fun w => Any.utf8_ValidRune { L with } r w
  have cI : ∀ s c w, Calls P (ρ.f 137) #[.string s, .int .u8 c] w _ := fun s c w => Any.strings_IndexByte { L with } s c w
  have mixed := L.mixed
  have t3 := L.t3; have a3 := L.a3; have z3 := L.z3; have v3 := L.v3
  have t4 := L.t4; have a4 := L.a4; have z4 := L.z4; have v4 := L.v4
  have t5 := L.t5; have a5 := L.a5; have z5 := L.z5; have v5 := L.v5
  have t9 := L.t9; have a9 := L.a9; have z9 := L.z9; have v9 := L.v9
  have t21 := L.t21; have a21 := L.a21; have z21 := L.z21; have v21 := L.v21
  have e137 : ∀ args w, (callFunc (ρ.f 137) args).run P w = .ok (.enter (ρ.f 137) args) w := enters_of L.f137 (by kernel_rfl) rfl
  have e119 : ∀ args w, (callFunc (ρ.f 119) args).run P w = .ok (.enter (ρ.f 119) args) w := enters_of L.f119 (by kernel_rfl) rfl
  have hge : decide ((0 : Int) ≤ (r : Int)) = true := by simp
  have hlt : decide ((r : Int) < 128) = false := by simp; omega
  have bel : ∀ pos, Below w.heap.size w (w.iter phB pos) := fun pos => (Below.refl _ w).alloc (Nat.le_refl _) _
  have hne : ((r : Int) == 65533) = false := by simp; omega
  have hvr : Lib.validRune (r : Int) = true := by simp [Lib.validRune]; omega
  go_enter L.f152, Body.n152_ntmps ρ
  go_wp2_with (first
    | (go_at_fn (ρ.f 119); refine (cV _).mono ?_; rintro e w' ⟨rfl, hw⟩; rw [hw, hvr])
    | (go_at_fn (ρ.f 137); refine (cI _ _ _).mono ?_; rintro e w' ⟨rfl, hw⟩; rw [hw]))
  go_step3
  go_wp2
  go_loopg [9, 10] 1 (fun g i fl wx => g = 1 ∧ i = .int .i64 ((rs.size : Int) - 1) ∧ fl = .int .i64 0 ∧ wx = w)
  case atStart => exact ⟨rfl, rfl, rfl, rfl⟩
  case round =>
    obtain ⟨-, rfl, rfl, rfl⟩ := hrel
    by_cases h3 : 3 ≤ rs.size
    · have hlt : decide ((rs.size : Int) - 1 < (phB.size : Int)) = false := by rw [ph_size]; simp; omega
      go_wp2
      try rw [Exit.noGoto_ret]
      go_ret
      exact ⟨rfl, Below.refl _ _⟩
    · have h2 : rs.size = 2 := by omega
      have hi1 : ((rs.size : Int) - 1) = 1 := by omega
      have hi : 1 < rs.size := by omega
      have hp : 1 < phB.size := by decide
      obtain ⟨x, hx⟩ : ∃ x : UInt8, rs[1]'hi = x := ⟨_, rfl⟩
      have hx128 : 128 ≤ x.toNat := by
        rw [← hx]
        exact hsl h2 hi
      have hp1 : phB[1]'hp = 35 := rfl
      have hlt : decide ((1 : Int) < (phB.size : Int)) = true := rfl
      have hne35 : (((35 : UInt8).toNat : Int) != (x.toNat : Int)) = true := by simp; omega
      have hib : Lib.indexByte (List.take (phB.size - 2) (List.drop 2 phB.data.toList)) x = -1 := rfl
      rw [hi1]
      clear hsl hs2 hs4
      go_wp2
      go_step3
      go_wp2
      go_region_o
      all_goals
        go_wp2
        go_region_with_o (go_at_fn (ρ.f 137); refine (cI _ _ _).mono ?_; rintro e w' ⟨rfl, hw⟩; rw [hw])
      all_goals
        go_wp2
        simp only [Exit.inBlock, Exit.then, Exit.noGoto]
        go_ret
        exact ⟨rfl, (Below.refl _ _).drew.drew⟩

set_option maxHeartbeats 8000000 in
set_option maxRecDepth 1000000 in
/-- A rune that is no ASCII is not in "+#". -/
theorem rune_ph (L : Lays.n152 P ρ) (r : Nat) (w : World) (h1 : 128 ≤ r) (hv : r < 55296 ∨ (57343 < r ∧ r ≤ 1114111)) :
    Calls P (ρ.f 152) #[.string phB, .int .i32 r] w fun e w' => e = .returned (.int .i64 (-1)) ∧ Below w.heap.size w w' := by
  have cV : ∀ w, Calls P (ρ.f 119) #[.int .i32 r] w _ := fun w => Any.utf8_ValidRune { L with } r w
  have cI : ∀ s c w, Calls P (ρ.f 137) #[.string s, .int .u8 c] w _ := fun s c w => Any.strings_IndexByte { L with } s c w
  have t3 := L.t3; have a3 := L.a3; have z3 := L.z3; have v3 := L.v3
  have t4 := L.t4; have a4 := L.a4; have z4 := L.z4; have v4 := L.v4
  have t5 := L.t5; have a5 := L.a5; have z5 := L.z5; have v5 := L.v5
  have t9 := L.t9; have a9 := L.a9; have z9 := L.z9; have v9 := L.v9
  have t21 := L.t21; have a21 := L.a21; have z21 := L.z21; have v21 := L.v21
  have e137 : ∀ args w, (callFunc (ρ.f 137) args).run P w = .ok (.enter (ρ.f 137) args) w := enters_of L.f137 (by kernel_rfl) rfl
  have e119 : ∀ args w, (callFunc (ρ.f 119) args).run P w = .ok (.enter (ρ.f 119) args) w := enters_of L.f119 (by kernel_rfl) rfl
  have hge : decide ((0 : Int) ≤ (r : Int)) = true := by simp
  have hlt : decide ((r : Int) < 128) = false := by simp; omega
  have bel : ∀ pos, Below w.heap.size w (w.iter phB pos) := fun pos => (Below.refl _ w).alloc (Nat.le_refl _) _
  by_cases he : r = 65533
  · subst he
    go_enter L.f152, Body.n152_ntmps ρ
    go_wp2
    go_loopg [5, 6] 2 (fun g _ _ wx => ∃ i : Nat, i + g = 2 ∧ wx = w.iter phB i)
    case atStart => exact ⟨0, by omega, rfl⟩
    case round =>
      obtain ⟨i, hig, rfl⟩ := hrel
      cases gk with
      | zero =>
        obtain rfl : i = 2 := by omega
        have hnx := fun ty => run_next_end (P := P) w phB 2 ty (by decide)
        go_wp2
        go_ret
        exact ⟨rfl, bel _⟩
      | succ g =>
        have hi : i < phB.size := by
          show i < 2
          omega
        have hx : (phB[i]'hi).toNat < 64 := by
          have : ∀ q : Fin 2, (phB[q.val]'q.isLt).toNat < 64 := by decide
          exact this ⟨i, hi⟩
        have hnx := fun ty => run_next_ascii (P := P) w phB i ty hi (by omega)
        generalize (phB[i]'hi).toNat = x at hnx hx
        have hxe : ((x : Int) == 65533) = false := by simp; omega
        go_wp2
        go_roundg g
        case measure => omega
        case rel => exact ⟨i + 1, by omega, rfl⟩
  · obtain ⟨hs2, hs4, hsl⟩ := encode_facts (r : Int) (by simp [Utf8.valid]; omega) (by omega)
    refine rune_big L r (Utf8.encode r) w h1 hv he (fun w => run_convert_int_string w _ _ _ _ (by rw [t21]; rfl) t9) hs2 hs4 ?_
    intro h2 hi
    have := hsl (by omega)
    simp only [h2] at this
    exact this

theorem getD_drop (l : List UInt8) (i j : Nat) : (l.drop i).getD j 0 = l.getD (i + j) 0 := by simp [List.getD_eq_getElem?_getD, List.getElem?_drop]
/-- A sign that is no ASCII: none of its bytes is. -/
theorem dec_hi (l : List UInt8) (h : 128 ≤ (l.getD 0 0).toNat) : 128 ≤ (Lib.decodeL l).1 ∧ ∀ j, j < (Lib.decodeL l).2 → 128 ≤ (l.getD j 0).toNat := by
  rw [Lib.decodeL_N]
  generalize hn : l.length = n
  generalize h0 : (l.getD 0 0).toNat = b0 at h ⊢
  generalize h1 : (l.getD 1 0).toNat = b1
  generalize h2 : (l.getD 2 0).toNat = b2
  generalize h3 : (l.getD 3 0).toNat = b3
  have key : ∀ q, q ≤ 4 → (q = 2 → 128 ≤ b1) → (q = 3 → 128 ≤ b1 ∧ 128 ≤ b2) → (q = 4 → 128 ≤ b1 ∧ 128 ≤ b2 ∧ 128 ≤ b3) → ∀ j, j < q → 128 ≤ (l.getD j 0).toNat := by
    intro q hq k2 k3 k4 j hj
    have : j = 0 ∨ j = 1 ∨ j = 2 ∨ j = 3 := by omega
    rcases this with rfl | rfl | rfl | rfl
    · rw [h0]; exact h
    · rw [h1]; omega
    · rw [h2]; omega
    · rw [h3]; omega
  unfold Lib.decodeN
  rw [if_neg (by omega)]
  repeat' split
  all_goals
    refine ⟨?_, key _ ?_ ?_ ?_ ?_⟩ <;> simp only <;> omega
/-- Whether '+' or '#' stands in bytes. -/
def phL (l : List UInt8) : Bool := l.any fun c => c == 43 || c == 35
theorem phL_skip : ∀ (k : Nat) (l : List UInt8), (∀ j, j < k → 128 ≤ (l.getD j 0).toNat) → phL l = phL (l.drop k)
  | 0, l, _ => rfl
  | k + 1, [], _ => by simp
  | k + 1, b :: l, h => by
    have h0 : 128 ≤ b.toNat := h 0 (by omega)
    have ih := phL_skip k l fun j hj => h (j + 1) (by omega)
    have e1 : (b == 43) = false := by
      rw [beq_eq_false_iff_ne]
      rintro rfl
      simp at h0
    have e2 : (b == 35) = false := by
      rw [beq_eq_false_iff_ne]
      rintro rfl
      simp at h0
    show (List.any (b :: l) _) = _
    rw [List.any_cons, e1, e2, Bool.or_self, Bool.false_or, List.drop_succ_cons]
    exact ih
/-- The first sign, then the rest. -/
theorem phL_step (l : List UInt8) (hne : l ≠ []) : phL l = (((Lib.decodeL l).1 == 43 || (Lib.decodeL l).1 == 35) || phL (l.drop (Lib.decodeL l).2)) := by
  cases l with
  | nil => exact absurd rfl hne
  | cons b l =>
    by_cases hb : 128 ≤ b.toNat
    · obtain ⟨h1, h2⟩ := dec_hi (b :: l) hb
      have e1 : ((Lib.decodeL (b :: l)).1 == 43) = false := by simp; omega
      have e2 : ((Lib.decodeL (b :: l)).1 == 35) = false := by simp; omega
      rw [e1, e2, Bool.or_self, Bool.false_or]
      exact phL_skip _ _ h2
    · have e : Lib.decodeL (b :: l) = (b.toNat, 1) := by
        rw [Lib.decodeL_N]
        unfold Lib.decodeN
        rw [if_pos (by simpa using hb)]
        rfl
      rw [e]
      show List.any (b :: l) _ = _
      rw [List.any_cons, List.drop_succ_cons, List.drop_zero]
      have e1 : (b == 43) = (b.toNat == 43) := by
        rw [Bool.eq_iff_iff, beq_iff_eq, beq_iff_eq, ← UInt8.toNat_inj]; rfl
      have e2 : (b == 35) = (b.toNat == 35) := by
        rw [Bool.eq_iff_iff, beq_iff_eq, beq_iff_eq, ← UInt8.toNat_inj]; rfl
      rw [e1, e2]
      rfl
theorem phL_vPH (s : ByteArray) : phL s.data.toList = vPH s := any_or _ _ _
theorem byte_ph (r : Nat) (h : r < 128) : decide (0 ≤ Lib.indexByte phB.data.toList r.toUInt8) = (r == 43 || r == 35) := by
  have : ∀ q : Fin 128, decide (0 ≤ Lib.indexByte phB.data.toList (q.val).toUInt8) = (q.val == 43 || q.val == 35) := by decide
  exact this ⟨r, h⟩

set_option maxHeartbeats 8000000 in
set_option maxRecDepth 1000000 in
/-- strings.IndexAny at "+#", a short text. -/
theorem short_ph (L : Lays.n153 P ρ) (s : ByteArray) (w : World) (h8 : s.size ≤ 8) :
    Calls P (ρ.f 153) #[.string s, .string phB] w fun e w' => (∃ z : Int, e = .returned (.int .i64 z) ∧ decide (0 ≤ z) = phL s.data.toList) ∧ Below w.heap.size w w' := by
  have cA : ∀ (r : Nat) w, r < 128 → ∃ z : Int, decide (0 ≤ z) = (r == 43 || r == 35) ∧ Calls P (ρ.f 152) #[.string phB, .int .i32 r] w fun e w' => e = .returned (.int .i64 z) ∧ w' = w := fun r w h => ⟨_, byte_ph r h, Any.strings_IndexRune_ascii { L with } phB r w (by omega) (by omega)⟩
  have cR : ∀ (r : Nat) w, 128 ≤ r → r < 55296 ∨ (57343 < r ∧ r ≤ 1114111) → Calls P (ρ.f 152) #[.string phB, .int .i32 r] w _ := fun r w h h' => rune_ph { L with } r w h h'
  have hemp : phB.toList.isEmpty = false := by rw [Lib.toList_data]; rfl
  have hn1 : ((phB.size : Int) == 1) = false := rfl
  have h8z : decide ((8 : Int) < (s.size : Int)) = false := decide_eq_false (by omega)
  have t3 := L.t3; have a3 := L.a3; have z3 := L.z3; have v3 := L.v3
  have t4 := L.t4; have a4 := L.a4; have z4 := L.z4; have v4 := L.v4
  have t5 := L.t5; have a5 := L.a5; have z5 := L.z5; have v5 := L.v5
  have t9 := L.t9; have a9 := L.a9; have z9 := L.z9; have v9 := L.v9
  have t21 := L.t21; have a21 := L.a21; have z21 := L.z21; have v21 := L.v21
  have e152 : ∀ args w, (callFunc (ρ.f 152) args).run P w = .ok (.enter (ρ.f 152) args) w := enters_of L.f152 (by kernel_rfl) rfl
  have e226 : ∀ args w, (callFunc (ρ.f 226) args).run P w = .ok (.enter (ρ.f 226) args) w := enters_of L.f226 (by kernel_rfl) rfl
  go_enter L.f153, Body.n153_ntmps ρ
  go_wp2_with (go_at_fn (ρ.f 226); refine (Any.strings_shouldUseASCIISet { L with } _ _).mono ?_; rintro e w' ⟨rfl, hw⟩; rw [hw, h8z])
  go_loopg [9, 10] s.size (fun g _ _ wx => ∃ pos : Nat, s.size ≤ pos + g ∧ ItAt w wx s pos ∧ phL (s.data.toList.drop pos) = phL s.data.toList)
  case atStart => exact ⟨0, by omega, itAt_start w s 0, by simp⟩
  case round =>
    obtain ⟨pos, hpg, hit, hph⟩ := hrel
    have HIT : Aside (ItAt w wr s pos) := hit
    have HPH : Aside (phL (s.data.toList.drop pos) = phL s.data.toList) := hph
    by_cases hp : pos < s.size
    · obtain ⟨g, rfl⟩ : ∃ g, gk = g + 1 := ⟨gk - 1, by omega⟩
      have hnx := fun ty => next_at (P := P) hit hp ty
      have hne : s.data.toList.drop pos ≠ [] := by
        intro h
        have := congrArg List.length h
        simp at this
        omega
      have hst := phL_step _ hne
      rw [Lib.decodeL_drop, hph, List.drop_drop] at hst
      have hwd : 1 ≤ (Utf8.decode s pos).2 := by rw [← Lib.decodeL_drop s pos]; exact Lib.decodeL_width _
      have hru := rune_at s pos
      have HIT2 : Aside (ItAt w (setIt wr w.heap.size s (pos + (Utf8.decode s pos).2)) s (pos + (Utf8.decode s pos).2)) := hit.set _
      clear hit hph
      generalize hr : (Utf8.decode s pos).1 = r at hnx hst hru
      have HST : Aside (phL s.data.toList = ((r == 43 || r == 35) || phL (s.data.toList.drop (pos + (Utf8.decode s pos).2)))) := hst
      clear hst
      by_cases h128 : r < 128
      · obtain ⟨z, hz, cz⟩ := cA r (setIt wr w.heap.size s (pos + (Utf8.decode s pos).2)) h128
        clear cA
        cases hin : (r == 43 || r == 35)
        · rw [hin] at hz
          have hlt : ¬ ((0 : Int) ≤ z) := of_decide_eq_false hz
          clear hz
          go_wp2_with (go_at_fn (ρ.f 152); refine cz.mono ?_; rintro e w' ⟨rfl, hw⟩; rw [hw])
          go_roundg g
          case measure => omega
          case rel => exact ⟨_, by omega, HIT2.out, by rw [HST.out, hin, Bool.false_or]⟩
        · rw [hin] at hz
          have hge : (0 : Int) ≤ z := of_decide_eq_true hz
          clear hz
          go_wp2_with (go_at_fn (ρ.f 152); refine cz.mono ?_; rintro e w' ⟨rfl, hw⟩; rw [hw])
          go_ret
          exact ⟨⟨_, rfl, by rw [HST.out, hin, Bool.true_or]; simp⟩, HIT2.out.1⟩
      · have hin : (r == 43 || r == 35) = false := by simp; omega
        go_wp2_with (go_at_fn (ρ.f 152); refine (cR r _ (by omega) hru).mono ?_; rintro e w' ⟨rfl, hw⟩)
        go_roundg g
        case measure => omega
        case rel => exact ⟨_, by omega, HIT2.out.below hw, by rw [HST.out, hin, Bool.false_or]⟩
    · have hnx := fun ty => next_end (P := P) hit hp ty
      have hnil : s.data.toList.drop pos = [] := by
        apply List.drop_of_length_le
        simp
        omega
      rw [hnil] at hph
      go_wp2
      go_ret
      exact ⟨⟨_, rfl, by rw [← hph]; rfl⟩, HIT.out.1⟩

/-- strings.IndexAny at "+#". -/
theorem index_ph (L : Lays.n153 P ρ) (hv116 : ∀ w, (zeroValue (ρ.t 116)).run P w = .ok (.agg (Array.replicate 256 (.bool false))) w) (hi116 : (P.info? (ρ.t 116)).map (·.size) = some 256) (s : ByteArray) (w : World) (hs : s.size < 4294967281) :
    Calls P (ρ.f 153) #[.string s, .string phB] w fun e w' => (∃ z : Int, e = .returned (.int .i64 z) ∧ decide (0 ≤ z) = phL s.data.toList) ∧ Below w.heap.size w w' := by
  by_cases h8 : s.size ≤ 8
  · exact short_ph L s w h8
  · refine (Any.strings_IndexAny_long L hv116 hi116 s phB w (by decide) (by omega) hs (by decide) ?_).mono fun e w' ⟨h1, h2⟩ => ⟨⟨_, h1, ?_⟩, ?_⟩
    · intro j b hb
      have : phB.data.toList = [43, 35] := rfl
      rw [this] at hb
      match j, hb with
      | 0, hb => cases hb; decide
      | 1, hb => cases hb; decide
    · have := has_ph s
      rw [phL_vPH, ← this]
      rfl
    · rw [h2]
      exact ((Below.refl _ _).alloc (Nat.le_refl _) _).alloc (by simp) _
set_option maxHeartbeats 1000000 in
/-- strings.ContainsAny at "+#". -/
theorem contains_ph (L : Lays.n150 P ρ) (hv116 : ∀ w, (zeroValue (ρ.t 116)).run P w = .ok (.agg (Array.replicate 256 (.bool false))) w) (hi116 : (P.info? (ρ.t 116)).map (·.size) = some 256) (s : ByteArray) (w : World) (hs : s.size < 4294967281) :
    Calls P (ρ.f 150) #[.string s, .string phB] w fun e w' => e = .returned (.bool (vPH s)) ∧ Below w.heap.size w w' := by
  have c := index_ph { L with } hv116 hi116 s w hs
  have t3 := L.t3; have a3 := L.a3; have z3 := L.z3; have v3 := L.v3
  have t4 := L.t4; have a4 := L.a4; have z4 := L.z4; have v4 := L.v4
  have t9 := L.t9; have a9 := L.a9; have z9 := L.z9; have v9 := L.v9
  have e153 : ∀ args w, (callFunc (ρ.f 153) args).run P w = .ok (.enter (ρ.f 153) args) w := enters_of L.f153 (by kernel_rfl) rfl
  go_enter L.f150, Body.n150_ntmps ρ
  go_wp2_with (go_at_fn (ρ.f 153); refine c.mono ?_; rintro e w' ⟨⟨z, rfl, hz⟩, hw⟩)
  go_ret
  refine ⟨?_, hw⟩
  rw [← phL_vPH, ← hz]
  rfl

end Go.Proofs.YtpcgppelelfmiaaDoor.Abs
