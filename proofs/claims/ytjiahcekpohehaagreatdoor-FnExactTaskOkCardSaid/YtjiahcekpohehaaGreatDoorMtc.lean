/- What the proof needs, part 3: a sound evaluator over trees, the program's functions on it, and what they come to. -/
import Derived.Test.YtjiahcekpohehaaGreatDoorMtb
import Derived.Shelf.Strings.IndexAnyAll
import Derived.Shelf.Small.Utf8
import Derived.Lib.TrimUEq
import Derived.Lib.QuoteLoop
import Derived.Laws.RangeAny
import Derived.Laws.Runes
import Derived.WalkKit
import Derived.WalkMore
import Derived.Below
import Derived.LoopTactic
import Derived.Shelf.RegionOpenPlain
import Derived.Test.YtjiahcekpohehaaGreatDoorChecked
import Derived.Shelf.Unicode.ValidAny
import Derived.Shelf.Strings.Split
import Derived.Shelf.Vars
import Derived.Lib.ValidLaws
import Derived.Lib.MapLaws
set_option linter.unusedVariables false
set_option linter.unusedSimpArgs false
namespace Go.Proofs.YtjiahcekpohehaaGreatDoor.Abs
section
open Go Go.Shelf Go.RowKit Go.Lib Go.Proofs
variable {P : Program} {ρ : Ren}
def ItAt (w w' : World) (s : ByteArray) (pos : Nat) : Prop := Below w.heap.size w w' ∧ w'.heap[w.heap.size]? = some (.stringIter s pos)
def Og (w' : World) (a : Nat) (s : ByteArray) (pos : Nat) : World := { w' with heap := w'.heap.setIfInBounds a (.stringIter s pos) }
theorem Vs (w : World) (s : ByteArray) (pos : Nat) : ItAt w (w.iter s pos) s pos := ⟨(Below.refl _ w).alloc (Nat.le_refl _) _, World.iter_heap w s pos⟩
theorem ItAt.lt {w w' : World} {s : ByteArray} {pos : Nat} (h : ItAt w w' s pos) : w.heap.size < w'.heap.size := by
 have := h.2
 simp only [Array.getElem?_eq_some_iff] at this
 exact this.1
theorem ItAt.set {w w' : World} {s : ByteArray} {pos : Nat} (h : ItAt w w' s pos) (pos' : Nat) : ItAt w (Og w' w.heap.size s pos') s pos' := by
 refine ⟨h.1.trans ⟨rfl, rfl, rfl, by simp [Og], fun k hk => ?_⟩, ?_⟩
 ·simp only [Og]
  rw [Array.getElem?_setIfInBounds_ne (by omega)]
 ·simp only [Og]
  rw [Array.getElem?_setIfInBounds_self_of_lt h.lt]
theorem ItAt.below {w w1 w2 : World} {s : ByteArray} {pos : Nat} (h : ItAt w w1 s pos) (hb : Below w1.heap.size w1 w2) : ItAt w w2 s pos :=
 ⟨h.1.trans (hb.mono h.1.size), by rw [hb.block _ h.lt]; exact h.2⟩
theorem AdT {w w' : World} {s : ByteArray} {pos : Nat} (h : ItAt w w' s pos) (hp : pos < s.size) (ty : TypeId) :
  (Instr.next (.pointer (some ⟨w.heap.size, 0, none⟩)) true ty).run P w' = .ok (.tuple #[.bool true, .int .i64 pos, .int .i32 (Utf8.decode s pos).1]) (Og w' w.heap.size s (pos + (Utf8.decode s pos).2)) := by
 simp only [Instr.next, getObj, setObj, Sem.run_bind, Sem.run, h.2, Result.andThen, hp, if_true]
 simp [goInt, Og]
theorem AbB {w w' : World} {s : ByteArray} {pos : Nat} (h : ItAt w w' s pos) (hp : ¬ pos < s.size) (ty : TypeId) :
  (Instr.next (.pointer (some ⟨w.heap.size, 0, none⟩)) true ty).run P w' = .ok (.tuple #[.bool false]) w' := by
 simp [Instr.next, getObj, Sem.run, h.2, hp]
theorem Aei (s : ByteArray) (pos : Nat) : (Utf8.decode s pos).1 < 55296 ∨ (57343 < (Utf8.decode s pos).1 ∧ (Utf8.decode s pos).1 ≤ 1114111) := by
 rw [← Lib.decodeL_drop, Lib.decodeL_N]
 exact Lib.decodeN_valid _ _ _ _ _ (UInt8.toNat_lt _)
theorem Aec : phB.size = 2 := rfl
set_option maxHeartbeats 8000000 in
set_option maxRecDepth 1000000 in
theorem AbO (L : Lays.n152 P ρ) (r : Nat) (rs : ByteArray) (w : World) (h1 : 128 ≤ r) (hv : r < 55296 ∨ (57343 < r ∧ r ≤ 1114111)) (he : ¬ r = 65533) (hcv : ∀ w, (convert (ρ.t 21) (ρ.t 9) (.int .i32 r)).run P w = .ok (.string rs) w)
  (hs2 : 2 ≤ rs.size) (hs4 : rs.size ≤ 4) (hsl : rs.size = 2 → ∀ h : 1 < rs.size, 128 ≤ (rs[1]'h).toNat) :
  Calls P (ρ.f 152) #[.string phB, .int .i32 r] w fun e w' => e = .returned (.int .i64 (-1)) ∧ Below w.heap.size w w' := by
 have cV : ∀ w, Calls P (ρ.f 119) #[.int .i32 r] w _ := fun w => Any.utf8_ValidRune { L with } r w
 have cI : ∀ s c w, Calls P (ρ.f 137) #[.string s, .int .u8 c] w _ := fun s c w => Any.strings_IndexByte { L with } s c w
 have mixed := L.mixed
 have t3 := L.t3; have a3 := L.a3; have z3 := L.z3; have v3 := L.v3
 have t4 := L.t4; have a4 := L.a4; have z4 := L.z4; have v4 := L.v4
 have t5 := L.t5; have a5 := L.a5; have z5 := L.z5; have v5 := L.v5
 have t9 := L.t9; have a9 := L.a9; have z9 := L.z9; have v9 := L.v9
 have t21 := L.t21; have a21 := L.a21; have z21 := L.z21; have v21 := L.v21
 have e137 : ∀ args w, (callFunc (ρ.f 137) args).run P w = .ok (.enter (ρ.f 137) args) w := enters_of L.f137 (by kernel_rfl) rfl
 have e119 : ∀ args w, (callFunc (ρ.f 119) args).run P w = .ok (.enter (ρ.f 119) args) w := enters_of L.f119 (by kernel_rfl) rfl
 have hge : decide ((0 : Int) ≤ (r : Int)) = true := by simp
 have hlt : decide ((r : Int) < 128) = false := by simp; omega
 have bel : ∀ pos, Below w.heap.size w (w.iter phB pos) := fun pos => (Below.refl _ w).alloc (Nat.le_refl _) _
 have hne : ((r : Int) == 65533) = false := by simp; omega
 have hvr : Lib.validRune (r : Int) = true := by simp [Lib.validRune]; omega
 go_enter L.f152, Body.n152_ntmps ρ
 go_wp2_with (first
  | (go_at_fn (ρ.f 119); refine (cV _).mono ?_; rintro e w' ⟨rfl, hw⟩; rw [hw, hvr])
  | (go_at_fn (ρ.f 137); refine (cI _ _ _).mono ?_; rintro e w' ⟨rfl, hw⟩; rw [hw]))
 go_step3
 go_wp2
 go_loopg [9, 10] 1 (fun g i fl wx => g = 1 ∧ i = .int .i64 ((rs.size : Int) - 1) ∧ fl = .int .i64 0 ∧ wx = w)
 case atStart => exact ⟨rfl, rfl, rfl, rfl⟩
 case round =>
  obtain ⟨-, rfl, rfl, rfl⟩ := hrel
  by_cases h3 : 3 ≤ rs.size
  ·have hlt : decide ((rs.size : Int) - 1 < (phB.size : Int)) = false := by rw [Aec]; simp; omega
   go_wp2
   try rw [Exit.noGoto_ret]
   go_ret
   exact ⟨rfl, Below.refl _ _⟩
  ·have h2 : rs.size = 2 := by omega
   have hi1 : ((rs.size : Int) - 1) = 1 := by omega
   have hi : 1 < rs.size := by omega
   have hp : 1 < phB.size := by decide
   obtain ⟨x, hx⟩ : ∃ x : UInt8, rs[1]'hi = x := ⟨_, rfl⟩
   have hx128 : 128 ≤ x.toNat := by
    rw [← hx]
    exact hsl h2 hi
   have hp1 : phB[1]'hp = 35 := rfl
   have hlt : decide ((1 : Int) < (phB.size : Int)) = true := rfl
   have hne35 : (((35 : UInt8).toNat : Int) != (x.toNat : Int)) = true := by simp; omega
   have hib : Lib.indexByte (List.take (phB.size - 2) (List.drop 2 phB.data.toList)) x = -1 := rfl
   rw [hi1]
   clear hsl hs2 hs4
   go_wp2
   go_step3
   go_wp2
   go_region_o
   all_goals
    go_wp2
    go_region_with_o (go_at_fn (ρ.f 137); refine (cI _ _ _).mono ?_; rintro e w' ⟨rfl, hw⟩; rw [hw])
   all_goals
    go_wp2
    simp only [Exit.inBlock, Exit.then, Exit.noGoto]
    go_ret
    exact ⟨rfl, (Below.refl _ _).drew.drew⟩
set_option maxHeartbeats 8000000 in
set_option maxRecDepth 1000000 in
theorem Aej (L : Lays.n152 P ρ) (r : Nat) (w : World) (h1 : 128 ≤ r) (hv : r < 55296 ∨ (57343 < r ∧ r ≤ 1114111)) :
  Calls P (ρ.f 152) #[.string phB, .int .i32 r] w fun e w' => e = .returned (.int .i64 (-1)) ∧ Below w.heap.size w w' := by
 have cV : ∀ w, Calls P (ρ.f 119) #[.int .i32 r] w _ := fun w => Any.utf8_ValidRune { L with } r w
 have cI : ∀ s c w, Calls P (ρ.f 137) #[.string s, .int .u8 c] w _ := fun s c w => Any.strings_IndexByte { L with } s c w
 have t3 := L.t3; have a3 := L.a3; have z3 := L.z3; have v3 := L.v3
 have t4 := L.t4; have a4 := L.a4; have z4 := L.z4; have v4 := L.v4
 have t5 := L.t5; have a5 := L.a5; have z5 := L.z5; have v5 := L.v5
 have t9 := L.t9; have a9 := L.a9; have z9 := L.z9; have v9 := L.v9
 have t21 := L.t21; have a21 := L.a21; have z21 := L.z21; have v21 := L.v21
 have e137 : ∀ args w, (callFunc (ρ.f 137) args).run P w = .ok (.enter (ρ.f 137) args) w := enters_of L.f137 (by kernel_rfl) rfl
 have e119 : ∀ args w, (callFunc (ρ.f 119) args).run P w = .ok (.enter (ρ.f 119) args) w := enters_of L.f119 (by kernel_rfl) rfl
 have hge : decide ((0 : Int) ≤ (r : Int)) = true := by simp
 have hlt : decide ((r : Int) < 128) = false := by simp; omega
 have bel : ∀ pos, Below w.heap.size w (w.iter phB pos) := fun pos => (Below.refl _ w).alloc (Nat.le_refl _) _
 by_cases he : r = 65533
 ·subst he
  go_enter L.f152, Body.n152_ntmps ρ
  go_wp2
  go_loopg [5, 6] 2 (fun g _ _ wx => ∃ i : Nat, i + g = 2 ∧ wx = w.iter phB i)
  case atStart => exact ⟨0, by omega, rfl⟩
  case round =>
   obtain ⟨i, hig, rfl⟩ := hrel
   cases gk with
   | zero =>
    obtain rfl : i = 2 := by omega
    have hnx := fun ty => run_next_end (P := P) w phB 2 ty (by decide)
    go_wp2
    go_ret
    exact ⟨rfl, bel _⟩
   | succ g =>
    have hi : i < phB.size := by
     show i < 2
     omega
    have hx : (phB[i]'hi).toNat < 64 := by
     have : ∀ q : Fin 2, (phB[q.val]'q.isLt).toNat < 64 := by decide
     exact this ⟨i, hi⟩
    have hnx := fun ty => run_next_ascii (P := P) w phB i ty hi (by omega)
    generalize (phB[i]'hi).toNat = x at hnx hx
    have hxe : ((x : Int) == 65533) = false := by simp; omega
    go_wp2
    go_roundg g
    case measure => omega
    case rel => exact ⟨i + 1, by omega, rfl⟩
 ·obtain ⟨hs2, hs4, hsl⟩ := encode_facts (r : Int) (by simp [Utf8.valid]; omega) (by omega)
  refine AbO L r (Utf8.encode r) w h1 hv he (fun w => run_convert_int_string w _ _ _ _ (by rw [t21]; rfl) t9) hs2 hs4 ?_
  intro h2 hi
  have := hsl (by omega)
  simp only [h2] at this
  exact this
theorem Af0 (l : List UInt8) (h : 128 ≤ (l.getD 0 0).toNat) : 128 ≤ (Lib.decodeL l).1 ∧ ∀ j, j < (Lib.decodeL l).2 → 128 ≤ (l.getD j 0).toNat := by
 rw [Lib.decodeL_N]
 generalize hn : l.length = n
 generalize h0 : (l.getD 0 0).toNat = b0 at h ⊢
 generalize h1 : (l.getD 1 0).toNat = b1
 generalize h2 : (l.getD 2 0).toNat = b2
 generalize h3 : (l.getD 3 0).toNat = b3
 have key : ∀ q, q ≤ 4 → (q = 2 → 128 ≤ b1) → (q = 3 → 128 ≤ b1 ∧ 128 ≤ b2) → (q = 4 → 128 ≤ b1 ∧ 128 ≤ b2 ∧ 128 ≤ b3) → ∀ j, j < q → 128 ≤ (l.getD j 0).toNat := by
  intro q hq k2 k3 k4 j hj
  have : j = 0 ∨ j = 1 ∨ j = 2 ∨ j = 3 := by omega
  rcases this with rfl | rfl | rfl | rfl
  ·rw [h0]; exact h
  ·rw [h1]; omega
  ·rw [h2]; omega
  ·rw [h3]; omega
 unfold Lib.decodeN
 rw [if_neg (by omega)]
 repeat' split
 all_goals
  refine ⟨?_, key _ ?_ ?_ ?_ ?_⟩ <;> simp only <;> omega
def phL (l : List UInt8) : Bool := l.any fun c => c == 43 || c == 35
theorem T5 : ∀ (k : Nat) (l : List UInt8), (∀ j, j < k → 128 ≤ (l.getD j 0).toNat) → phL l = phL (l.drop k)
 | 0, l, _ => rfl
 | k + 1, [], _ => by simp
 | k + 1, b :: l, h => by
  have h0 : 128 ≤ b.toNat := h 0 (by omega)
  have ih := T5 k l fun j hj => h (j + 1) (by omega)
  have e1 : (b == 43) = false := by
   rw [beq_eq_false_iff_ne]
   rintro rfl
   simp at h0
  have e2 : (b == 35) = false := by
   rw [beq_eq_false_iff_ne]
   rintro rfl
   simp at h0
  show (List.any (b :: l) _) = _
  rw [List.any_cons, e1, e2, Bool.or_self, Bool.false_or, List.drop_succ_cons]
  exact ih
theorem AbL (l : List UInt8) (hne : l ≠ []) : phL l = (((Lib.decodeL l).1 == 43 || (Lib.decodeL l).1 == 35) || phL (l.drop (Lib.decodeL l).2)) := by
 cases l with
 | nil => exact absurd rfl hne
 | cons b l =>
  by_cases hb : 128 ≤ b.toNat
  ·obtain ⟨h1, h2⟩ := Af0 (b :: l) hb
   have e1 : ((Lib.decodeL (b :: l)).1 == 43) = false := by simp; omega
   have e2 : ((Lib.decodeL (b :: l)).1 == 35) = false := by simp; omega
   rw [e1, e2, Bool.or_self, Bool.false_or]
   exact T5 _ _ h2
  ·have e : Lib.decodeL (b :: l) = (b.toNat, 1) := by
    rw [Lib.decodeL_N]
    unfold Lib.decodeN
    rw [if_pos (by simpa using hb)]
    rfl
   rw [e]
   show List.any (b :: l) _ = _
   rw [List.any_cons, List.drop_succ_cons, List.drop_zero]
   have e1 : (b == 43) = (b.toNat == 43) := by
    rw [Bool.eq_iff_iff, beq_iff_eq, beq_iff_eq, ← UInt8.toNat_inj]; rfl
   have e2 : (b == 35) = (b.toNat == 35) := by
    rw [Bool.eq_iff_iff, beq_iff_eq, beq_iff_eq, ← UInt8.toNat_inj]; rfl
   rw [e1, e2]
   rfl
theorem Xo (s : ByteArray) : phL s.data.toList = vPH s := Uo _ _ _
theorem Ac4 (r : Nat) (h : r < 128) : decide (0 ≤ Lib.indexByte phB.data.toList r.toUInt8) = (r == 43 || r == 35) := by
 have : ∀ q : Fin 128, decide (0 ≤ Lib.indexByte phB.data.toList (q.val).toUInt8) = (q.val == 43 || q.val == 35) := by decide
 exact this ⟨r, h⟩
set_option maxHeartbeats 8000000 in
set_option maxRecDepth 1000000 in
theorem AbR (L : Lays.n153 P ρ) (s : ByteArray) (w : World) (h8 : s.size ≤ 8) :
  Calls P (ρ.f 153) #[.string s, .string phB] w fun e w' => (∃ z : Int, e = .returned (.int .i64 z) ∧ decide (0 ≤ z) = phL s.data.toList) ∧ Below w.heap.size w w' := by
 have cA : ∀ (r : Nat) w, r < 128 → ∃ z : Int, decide (0 ≤ z) = (r == 43 || r == 35) ∧ Calls P (ρ.f 152) #[.string phB, .int .i32 r] w fun e w' => e = .returned (.int .i64 z) ∧ w' = w := fun r w h => ⟨_, Ac4 r h, Any.strings_IndexRune_ascii { L with } phB r w (by omega) (by omega)⟩
 have cR : ∀ (r : Nat) w, 128 ≤ r → r < 55296 ∨ (57343 < r ∧ r ≤ 1114111) → Calls P (ρ.f 152) #[.string phB, .int .i32 r] w _ := fun r w h h' => Aej { L with } r w h h'
 have hemp : phB.toList.isEmpty = false := by rw [Lib.toList_data]; rfl
 have hn1 : ((phB.size : Int) == 1) = false := rfl
 have h8z : decide ((8 : Int) < (s.size : Int)) = false := decide_eq_false (by omega)
 have t3 := L.t3; have a3 := L.a3; have z3 := L.z3; have v3 := L.v3
 have t4 := L.t4; have a4 := L.a4; have z4 := L.z4; have v4 := L.v4
 have t5 := L.t5; have a5 := L.a5; have z5 := L.z5; have v5 := L.v5
 have t9 := L.t9; have a9 := L.a9; have z9 := L.z9; have v9 := L.v9
 have t21 := L.t21; have a21 := L.a21; have z21 := L.z21; have v21 := L.v21
 have e152 : ∀ args w, (callFunc (ρ.f 152) args).run P w = .ok (.enter (ρ.f 152) args) w := enters_of L.f152 (by kernel_rfl) rfl
 have e226 : ∀ args w, (callFunc (ρ.f 226) args).run P w = .ok (.enter (ρ.f 226) args) w := enters_of L.f226 (by kernel_rfl) rfl
 go_enter L.f153, Body.n153_ntmps ρ
 go_wp2_with (go_at_fn (ρ.f 226); refine (Any.strings_shouldUseASCIISet { L with } _ _).mono ?_; rintro e w' ⟨rfl, hw⟩; rw [hw, h8z])
 go_loopg [9, 10] s.size (fun g _ _ wx => ∃ pos : Nat, s.size ≤ pos + g ∧ ItAt w wx s pos ∧ phL (s.data.toList.drop pos) = phL s.data.toList)
 case atStart => exact ⟨0, by omega, Vs w s 0, by simp⟩
 case round =>
  obtain ⟨pos, hpg, hit, hph⟩ := hrel
  have HIT : Aside (ItAt w wr s pos) := hit
  have HPH : Aside (phL (s.data.toList.drop pos) = phL s.data.toList) := hph
  by_cases hp : pos < s.size
  ·obtain ⟨g, rfl⟩ : ∃ g, gk = g + 1 := ⟨gk - 1, by omega⟩
   have hnx := fun ty => AdT (P := P) hit hp ty
   have hne : s.data.toList.drop pos ≠ [] := by
    intro h
    have := congrArg List.length h
    simp at this
    omega
   have hst := AbL _ hne
   rw [Lib.decodeL_drop, hph, List.drop_drop] at hst
   have hwd : 1 ≤ (Utf8.decode s pos).2 := by rw [← Lib.decodeL_drop s pos]; exact Lib.decodeL_width _
   have hru := Aei s pos
   have HIT2 : Aside (ItAt w (Og wr w.heap.size s (pos + (Utf8.decode s pos).2)) s (pos + (Utf8.decode s pos).2)) := hit.set _
   clear hit hph
   generalize hr : (Utf8.decode s pos).1 = r at hnx hst hru
   have HST : Aside (phL s.data.toList = ((r == 43 || r == 35) || phL (s.data.toList.drop (pos + (Utf8.decode s pos).2)))) := hst
   clear hst
   by_cases h128 : r < 128
   ·obtain ⟨z, hz, cz⟩ := cA r (Og wr w.heap.size s (pos + (Utf8.decode s pos).2)) h128
    clear cA
    cases hin : (r == 43 || r == 35)
    ·rw [hin] at hz
     have hlt : ¬ ((0 : Int) ≤ z) := of_decide_eq_false hz
     clear hz
     go_wp2_with (go_at_fn (ρ.f 152); refine cz.mono ?_; rintro e w' ⟨rfl, hw⟩; rw [hw])
     go_roundg g
     case measure => omega
     case rel => exact ⟨_, by omega, HIT2.out, by rw [HST.out, hin, Bool.false_or]⟩
    ·rw [hin] at hz
     have hge : (0 : Int) ≤ z := of_decide_eq_true hz
     clear hz
     go_wp2_with (go_at_fn (ρ.f 152); refine cz.mono ?_; rintro e w' ⟨rfl, hw⟩; rw [hw])
     go_ret
     exact ⟨⟨_, rfl, by rw [HST.out, hin, Bool.true_or]; simp⟩, HIT2.out.1⟩
   ·have hin : (r == 43 || r == 35) = false := by simp; omega
    go_wp2_with (go_at_fn (ρ.f 152); refine (cR r _ (by omega) hru).mono ?_; rintro e w' ⟨rfl, hw⟩)
    go_roundg g
    case measure => omega
    case rel => exact ⟨_, by omega, HIT2.out.below hw, by rw [HST.out, hin, Bool.false_or]⟩
  ·have hnx := fun ty => AbB (P := P) hit hp ty
   have hnil : s.data.toList.drop pos = [] := by
    apply List.drop_of_length_le
    simp
    omega
   rw [hnil] at hph
   go_wp2
   go_ret
   exact ⟨⟨_, rfl, by rw [← hph]; rfl⟩, HIT.out.1⟩
theorem Ab2 (L : Lays.n153 P ρ) (hv116 : ∀ w, (zeroValue (ρ.t 116)).run P w = .ok (.agg (Array.replicate 256 (.bool false))) w) (hi116 : (P.info? (ρ.t 116)).map (·.size) = some 256) (s : ByteArray) (w : World) (hs : s.size < 4294967281) :
  Calls P (ρ.f 153) #[.string s, .string phB] w fun e w' => (∃ z : Int, e = .returned (.int .i64 z) ∧ decide (0 ≤ z) = phL s.data.toList) ∧ Below w.heap.size w w' := by
 by_cases h8 : s.size ≤ 8
 ·exact AbR L s w h8
 ·refine (Any.strings_IndexAny_long L hv116 hi116 s phB w (by decide) (by omega) hs (by decide) ?_).mono fun e w' ⟨h1, h2⟩ => ⟨⟨_, h1, ?_⟩, ?_⟩
  ·intro j b hb
   have : phB.data.toList = [43, 35] := rfl
   rw [this] at hb
   match j, hb with
   | 0, hb => cases hb; decide
   | 1, hb => cases hb; decide
  ·have := AfN s
   rw [Xo, ← this]
   rfl
  ·rw [h2]
   exact ((Below.refl _ _).alloc (Nat.le_refl _) _).alloc (by simp) _
set_option maxHeartbeats 1000000 in
theorem Ti (L : Lays.n150 P ρ) (hv116 : ∀ w, (zeroValue (ρ.t 116)).run P w = .ok (.agg (Array.replicate 256 (.bool false))) w) (hi116 : (P.info? (ρ.t 116)).map (·.size) = some 256) (s : ByteArray) (w : World) (hs : s.size < 4294967281) :
  Calls P (ρ.f 150) #[.string s, .string phB] w fun e w' => e = .returned (.bool (vPH s)) ∧ Below w.heap.size w w' := by
 have c := Ab2 { L with } hv116 hi116 s w hs
 have t3 := L.t3; have a3 := L.a3; have z3 := L.z3; have v3 := L.v3
 have t4 := L.t4; have a4 := L.a4; have z4 := L.z4; have v4 := L.v4
 have t9 := L.t9; have a9 := L.a9; have z9 := L.z9; have v9 := L.v9
 have e153 : ∀ args w, (callFunc (ρ.f 153) args).run P w = .ok (.enter (ρ.f 153) args) w := enters_of L.f153 (by kernel_rfl) rfl
 go_enter L.f150, Body.n150_ntmps ρ
 go_wp2_with (go_at_fn (ρ.f 153); refine c.mono ?_; rintro e w' ⟨⟨z, rfl, hz⟩, hw⟩)
 go_ret
 refine ⟨?_, hw⟩
 rw [← Xo, ← hz]
 rfl
end
end Go.Proofs.YtjiahcekpohehaaGreatDoor.Abs
set_option linter.unusedVariables false
set_option linter.unusedSimpArgs false
namespace Go.Proofs
open Go.RowKit Go.Shelf Go.Lib
def Tryz.laysValid_ren : Go.Shelf.Ren := ⟨fun | 196 => 234 | 259 => 278 | n => n, fun | 9 => 9 | 4 => 4 | 3 => 3 | 5 => 5 | 12 => 12 | 119 => 285 | 0 => 0 | 46 => 247 | 139 => 288 | 138 => 287 | 53 => 314 | n => n, fun | 3 => 0 | 4 => 1 | n => n⟩
theorem Tryz.laysValid : Go.Proofs.Lays.n196 Tryz.prog Tryz.laysValid_ren := {
 mixed := by kernel_rfl
 f196 := Tryz.func234.trans (congrArg some (by kernel_rfl))
 f259 := Tryz.func278.trans (congrArg some (by kernel_rfl))
 t0 := Tryz.underlying0
 a0 := Tryz.isAgg0
 z0 := Tryz.sizeOf0
 v0 := Tryz.zeroValue0
 t3 := Tryz.underlying3
 a3 := Tryz.isAgg3
 z3 := Tryz.sizeOf3
 v3 := Tryz.zeroValue3
 t4 := Tryz.underlying4
 a4 := Tryz.isAgg4
 z4 := Tryz.sizeOf4
 v4 := Tryz.zeroValue4
 t5 := Tryz.underlying5
 a5 := Tryz.isAgg5
 z5 := Tryz.sizeOf5
 v5 := Tryz.zeroValue5
 t9 := Tryz.underlying9
 a9 := Tryz.isAgg9
 z9 := Tryz.sizeOf9
 v9 := Tryz.zeroValue9
 t12 := Tryz.underlying12
 a12 := Tryz.isAgg12
 z12 := Tryz.sizeOf12
 v12 := Tryz.zeroValue12
 t46 := Tryz.underlying247
 a46 := Tryz.isAgg247
 z46 := Tryz.sizeOf247
 v46 := Tryz.zeroValue247
 t53 := Tryz.underlying314
 a53 := Tryz.isAgg314
 z53 := Tryz.sizeOf314
 v53 := Tryz.zeroValue314
 t119 := Tryz.underlying285
 a119 := Tryz.isAgg285
 z119 := Tryz.sizeOf285
 t138 := Tryz.underlying287
 a138 := Tryz.isAgg287
 z138 := Tryz.sizeOf287
 v138 := Tryz.zeroValue287
 t139 := Tryz.underlying288
 a139 := Tryz.isAgg288
 z139 := Tryz.sizeOf288
 v139 := Tryz.zeroValue288
 g3 := by kernel_rfl
 g4 := by kernel_rfl }
def Tryz.laysAny_ren : Go.Shelf.Ren := ⟨fun | 150 => 267 | 153 => 299 | 152 => 319 | 226 => 320 | 227 => 321 | 228 => 322 | 137 => 341 | 119 => 342 | 224 => 343 | 225 => 344 | 217 => 359 | 266 => 368 | n => n, fun | 9 => 9 | 4 => 4 | 3 => 3 | 5 => 5 | 21 => 21 | 117 => 329 | 116 => 328 | 0 => 0 | 46 => 247 | 124 => 351 | n => n, fun | n => n⟩
theorem Tryz.laysAny : Go.Proofs.Lays.n150 Tryz.prog Tryz.laysAny_ren := {
 mixed := by kernel_rfl
 f119 := Tryz.func342.trans (congrArg some (by kernel_rfl))
 f137 := Tryz.func341.trans (congrArg some (by kernel_rfl))
 f150 := Tryz.func267.trans (congrArg some (by kernel_rfl))
 f152 := Tryz.func319.trans (congrArg some (by kernel_rfl))
 f153 := Tryz.func299.trans (congrArg some (by kernel_rfl))
 f217 := Tryz.func359.trans (congrArg some (by kernel_rfl))
 f224 := Tryz.func343.trans (congrArg some (by kernel_rfl))
 f225 := Tryz.func344.trans (congrArg some (by kernel_rfl))
 f226 := Tryz.func320.trans (congrArg some (by kernel_rfl))
 f227 := Tryz.func321.trans (congrArg some (by kernel_rfl))
 f228 := Tryz.func322.trans (congrArg some (by kernel_rfl))
 f266 := Tryz.func368.trans (congrArg some (by kernel_rfl))
 t0 := Tryz.underlying0
 a0 := Tryz.isAgg0
 z0 := Tryz.sizeOf0
 v0 := Tryz.zeroValue0
 t3 := Tryz.underlying3
 a3 := Tryz.isAgg3
 z3 := Tryz.sizeOf3
 v3 := Tryz.zeroValue3
 t4 := Tryz.underlying4
 a4 := Tryz.isAgg4
 z4 := Tryz.sizeOf4
 v4 := Tryz.zeroValue4
 t5 := Tryz.underlying5
 a5 := Tryz.isAgg5
 z5 := Tryz.sizeOf5
 v5 := Tryz.zeroValue5
 t9 := Tryz.underlying9
 a9 := Tryz.isAgg9
 z9 := Tryz.sizeOf9
 v9 := Tryz.zeroValue9
 t21 := Tryz.underlying21
 a21 := Tryz.isAgg21
 z21 := Tryz.sizeOf21
 v21 := Tryz.zeroValue21
 t46 := Tryz.underlying247
 a46 := Tryz.isAgg247
 z46 := Tryz.sizeOf247
 v46 := Tryz.zeroValue247
 t116 := Tryz.underlying328
 a116 := Tryz.isAgg328
 z116 := Tryz.sizeOf328
 t117 := Tryz.underlying329
 a117 := Tryz.isAgg329
 z117 := Tryz.sizeOf329
 v117 := Tryz.zeroValue329
 t124 := Tryz.underlying351
 a124 := Tryz.isAgg351
 z124 := Tryz.sizeOf351
 v124 := Tryz.zeroValue351 }
def Tryz.laysSplit_ren : Go.Shelf.Ren := ⟨fun | 146 => 300 | 221 => 323 | 268 => 345 | 138 => 346 | 143 => 347 | 195 => 360 | 197 => 361 | 218 => 362 | 219 => 363 | 260 => 369 | 217 => 359 | 225 => 344 | 224 => 343 | 267 => 370 | 266 => 368 | 314 => 373 | n => n, fun | 9 => 9 | 31 => 33 | 3 => 3 | 4 => 4 | 0 => 0 | 105 => 365 | 21 => 21 | 5 => 5 | 46 => 247 | 119 => 285 | 139 => 288 | 138 => 287 | 146 => 372 | 51 => 371 | n => n, fun | 1 => 2 | 3 => 0 | 4 => 1 | n => n⟩
theorem Tryz.laysSplit : Go.Proofs.Lays.n146 Tryz.prog Tryz.laysSplit_ren := {
 mixed := by kernel_rfl
 f138 := Tryz.func346.trans (congrArg some (by kernel_rfl))
 f143 := Tryz.func347.trans (congrArg some (by kernel_rfl))
 f146 := Tryz.func300.trans (congrArg some (by kernel_rfl))
 f195 := Tryz.func360.trans (congrArg some (by kernel_rfl))
 f197 := Tryz.func361.trans (congrArg some (by kernel_rfl))
 f217 := Tryz.func359.trans (congrArg some (by kernel_rfl))
 f218 := Tryz.func362.trans (congrArg some (by kernel_rfl))
 f219 := Tryz.func363.trans (congrArg some (by kernel_rfl))
 f221 := Tryz.func323.trans (congrArg some (by kernel_rfl))
 f224 := Tryz.func343.trans (congrArg some (by kernel_rfl))
 f225 := Tryz.func344.trans (congrArg some (by kernel_rfl))
 f260 := Tryz.func369.trans (congrArg some (by kernel_rfl))
 f266 := Tryz.func368.trans (congrArg some (by kernel_rfl))
 f267 := Tryz.func370.trans (congrArg some (by kernel_rfl))
 f268 := Tryz.func345.trans (congrArg some (by kernel_rfl))
 f314 := Tryz.func373.trans (congrArg some (by kernel_rfl))
 t0 := Tryz.underlying0
 a0 := Tryz.isAgg0
 z0 := Tryz.sizeOf0
 v0 := Tryz.zeroValue0
 t3 := Tryz.underlying3
 a3 := Tryz.isAgg3
 z3 := Tryz.sizeOf3
 v3 := Tryz.zeroValue3
 t4 := Tryz.underlying4
 a4 := Tryz.isAgg4
 z4 := Tryz.sizeOf4
 v4 := Tryz.zeroValue4
 t5 := Tryz.underlying5
 a5 := Tryz.isAgg5
 z5 := Tryz.sizeOf5
 v5 := Tryz.zeroValue5
 t9 := Tryz.underlying9
 a9 := Tryz.isAgg9
 z9 := Tryz.sizeOf9
 v9 := Tryz.zeroValue9
 t21 := Tryz.underlying21
 a21 := Tryz.isAgg21
 z21 := Tryz.sizeOf21
 v21 := Tryz.zeroValue21
 t31 := Tryz.underlying33
 a31 := Tryz.isAgg33
 z31 := Tryz.sizeOf33
 v31 := Tryz.zeroValue33
 t46 := Tryz.underlying247
 a46 := Tryz.isAgg247
 z46 := Tryz.sizeOf247
 v46 := Tryz.zeroValue247
 t51 := Tryz.underlying371
 a51 := Tryz.isAgg371
 z51 := Tryz.sizeOf371
 v51 := Tryz.zeroValue371
 t105 := Tryz.underlying365
 a105 := Tryz.isAgg365
 z105 := Tryz.sizeOf365
 v105 := Tryz.zeroValue365
 t119 := Tryz.underlying285
 a119 := Tryz.isAgg285
 z119 := Tryz.sizeOf285
 t138 := Tryz.underlying287
 a138 := Tryz.isAgg287
 z138 := Tryz.sizeOf287
 v138 := Tryz.zeroValue287
 t139 := Tryz.underlying288
 a139 := Tryz.isAgg288
 z139 := Tryz.sizeOf288
 v139 := Tryz.zeroValue288
 t146 := Tryz.underlying372
 a146 := Tryz.isAgg372
 z146 := Tryz.sizeOf372
 v146 := Tryz.zeroValue372
 g1 := by kernel_rfl
 g3 := by kernel_rfl
 g4 := by kernel_rfl }
namespace YtjiahcekpohehaaGreatDoor.Abs
def noZ : Nat → List UInt8 → Bool
 | 0, _ => true
 | n + 1, l => if l = [] then true else if (Lib.decodeL l).1 = 0 then false else noZ n (l.drop (Lib.decodeL l).2)
def R5 (s : ByteArray) : Bool := noZ s.size s.data.toList && (Lib.validD s.data.toList && decide (s.size ≤ 60))
def JT (w : World) : Prop := Lib.Utf8Tabs (Tryz.laysValid_ren.g 3) (Tryz.laysValid_ren.g 4) w
def J0 (w : World) : Prop := JT w ∧ ∃ m, w.cell? ⟨Tryz.laysSplit_ren.g 1, 0, none⟩ = some (.int .i64 m)
theorem Ab5 : ∀ w w' : World, JT w → Below w.heap.size w w' → JT w' := fun _ _ h hb => Utf8Tabs_below h hb
theorem Ab4 : ∀ w w' : World, J0 w → Below w.heap.size w w' → J0 w' := fun w w' h hb => ⟨Ab5 w w' h.1 hb, by
 obtain ⟨m, hm⟩ := h.2
 have hlt := World.block_lt_of_cell? _ _ hm
 refine ⟨m, ?_⟩
 rw [← hm]
 simp only [World.cell?]
 rw [hb.block _ hlt]⟩
set_option maxHeartbeats 1000000 in
set_option maxRecDepth 1000000 in
theorem Aam (s : ByteArray) (w : World) (hs : s.size ≤ 9223372036854775807) (hT : JT w) :
  Calls Tryz.prog 147 #[.string s] w fun e w' => e = .returned (.bool (R5 s)) ∧ Below w.heap.size w w' := by
 have cV : ∀ w, JT w → Calls Tryz.prog 234 #[.string s] w _ := fun w hT => Any.utf8_ValidString Tryz.laysValid s w hs hT
 unfold R5
 generalize hV : Lib.validD s.data.toList = V at cV ⊢
 have bel : ∀ pos, Below w.heap.size w (w.iter s pos) := fun pos => (Below.refl _ w).alloc (Nat.le_refl _) _
 go_enter Tryz.func147, Tryz.ntmps147
 go_wp2
 go_loopw [] (fun w' => ∃ (pos b : Nat), w' = w.iter s pos ∧ noZ b (s.data.toList.drop pos) = noZ s.size s.data.toList ∧ s.size ≤ pos + b) (fun w' => s.size - w'.iterPos w.heap.size)
 case atStart => exact ⟨0, s.size, rfl, by simp, by omega⟩
 case round =>
  obtain ⟨pos, b, rfl, hc, hb⟩ := hrel
  by_cases hp : pos < s.size
  ·have hnx : ∀ ty, (Instr.next (.pointer (some ⟨w.heap.size, 0, none⟩)) true ty).run Tryz.prog (w.iter s pos) = _ := fun ty => run_next_any w s pos ty hp
   have hdd := Lib.decodeL_drop s pos
   have hwd : 1 ≤ (Utf8.decode s pos).2 := by rw [← hdd]; exact Lib.decodeL_width _
   obtain ⟨b, rfl⟩ : ∃ b', b = b' + 1 := ⟨b - 1, by omega⟩
   have hne : s.data.toList.drop pos ≠ [] := by
    intro h
    have := congrArg List.length h
    simp at this
    omega
   rw [noZ, if_neg hne, hdd] at hc
   by_cases hz : (Utf8.decode s pos).1 = 0
   ·rw [if_pos hz] at hc
    have hz' : (((Utf8.decode s pos).1 : Int) == 0) = true := by simp [hz]
    go_wp2
    go_ret
    rw [← hc]
    exact ⟨by simp, bel _⟩
   ·rw [if_neg hz, List.drop_drop] at hc
    have hz' : (((Utf8.decode s pos).1 : Int) == 0) = false := by simp; omega
    go_wp2
    go_roundw
    case rel => exact ⟨pos + (Utf8.decode s pos).2, b, rfl, hc, by omega⟩
    case measure =>
     simp
     omega
  ·have hnx : ∀ ty, (Instr.next (.pointer (some ⟨w.heap.size, 0, none⟩)) true ty).run Tryz.prog (w.iter s pos) = _ := fun ty => run_next_end w s pos ty hp
   have hnil : s.data.toList.drop pos = [] := by
    apply List.drop_of_length_le
    simp
    omega
   have hc2 : noZ s.size s.data.toList = true := by
    rw [← hc, hnil]
    cases b <;> simp [noZ]
   rw [hc2]
   have cV2 := cV (w.iter s pos) (Utf8Tabs_below hT (bel pos))
   go_wp2_with (go_at_call 234; refine cV2.mono ?_; rintro e w' ⟨rfl, hb2⟩)
   all_goals
    go_ret
    refine ⟨?_, (bel pos).trans (hb2.mono (bel pos).size)⟩
   ·simp_all
    omega
   ·simp_all
theorem Rz : ∀ (n : Nat) (l : List UInt8), K6 n l = (noZ n l && Lib.validGoD n l)
 | 0, _ => rfl
 | n + 1, l => by
  rw [K6, noZ, Lib.validGoD, Rz n]
  by_cases h : l = []
  ·simp [h]
  ·by_cases h1 : (Lib.decodeL l).1 = 65533 ∧ (Lib.decodeL l).2 = 1
   ·simp [h, h1]
   ·by_cases h2 : (Lib.decodeL l).1 = 0
    ·simp [h, h2]
    ·simp [h, h1, h2]
theorem Aax (s : ByteArray) : R5 s = Bi s := by
 have e : s.data.toList.length = s.size := by simp
 unfold R5 Bi Lib.validD
 rw [Rz, e]
 cases noZ s.size s.data.toList <;> cases Lib.validGoD s.size s.data.toList <;> simp
theorem AgD {c : ByteArray} (h : c.data.toList = [43, 35]) : c = phB := by
 cases c with
 | mk d =>
  have : d = #[43, 35] := by apply Array.ext'; simpa using h
  subst this
  rfl
theorem Agf {c : ByteArray} (h : c.data.toList = [47]) : c = Qk := by
 cases c with
 | mk d =>
  have : d = #[47] := by apply Array.ext'; simpa using h
  subst this
  rfl
theorem AbQ : (Tryz.prog.info? (Tryz.laysAny_ren.t 116)).map (fun i => (i.zero, i.size)) = some (some (.agg (Array.replicate 256 (.bool false))), 256) := by kernel_rfl
theorem hi9 : (Tryz.prog.info? (Tryz.laysSplit_ren.t 9)).map (fun i => (i.zero, i.size, i.bytes)) = some (some (.string ByteArray.empty), 1, 16) := by kernel_rfl
theorem AdJ {w w' : World} (hb : Below w.heap.size w w') : HR w Ej w' [] := by
 refine ⟨hb, ?_, ?_, ?_, ?_⟩
 ·intro i k b o sz hi
  cases hi
 ·intro i k hi
  cases hi
 ·intro i i' k k' b o sz o' sz' hi
  cases hi
 ·intro i p hp
  cases hp
theorem Wo {w w' : World} (hb : Below w.heap.size w w') (ty : Nat) (v : Value) : ∃ φ' Hc x ids, HR w φ' w' Hc ∧ VR w φ' x v ∧ Co E0.ti E0.tp Hc 8 ty x = some (.sc v, ids) ∧ ids.Nodup :=
 ⟨Ej, [], .sc v, [], AdJ hb, Eg _ _ _, rfl, List.nodup_nil⟩
theorem Tz {ti : Nat → Option TI} {tp : Nat → Option (List Nat)} {H : Af} {d : Nat} : ∀ (ts : List Nat) (l : List Value), ts.length = l.length → Dg (Co ti tp H (d + 1)) ts (l.map AV.sc) = some (l.map AV.sc, [])
 | [], [], _ => rfl
 | t :: ts, v :: l, h => by
  have ih := Tz (ti := ti) (tp := tp) (H := H) (d := d) ts l (by simpa using h)
  simp only [List.map_cons, Dg, ih, Option.bind_some]
  rfl
theorem Aea {ti : Nat → Option TI} {tp : Nat → Option (List Nat)} {H : Af} {d ty id off n z : Nat} : Co ti tp H (d + 1) ty (.sl id off n z) = (ti ty).bind fun i => (ti i.elem).bind fun j => if z = j.size then (if Il H id then (Aw H id off (n * z)).bind fun cs => (Dg (Co ti tp H d) (List.replicate n j.cty).flatten cs).bind fun q => some (.ro n q.1, id :: q.2) else none) else none := rfl
theorem Aa4 (w : World) (l : List ByteArray) (e : TypeId) : ∃ φ' Hc x ids, HR w φ' (w.alloc (.cells (l.map Value.string).toArray e)) Hc ∧ VR w φ' x (.slice (some ⟨w.heap.size, 0, none⟩) l.length l.length) ∧
  Co E0.ti E0.tp Hc 8 33 x = some (.ro l.length (l.map fun s => .sc (.string s)), ids) ∧ ids.Nodup := by
 have hcs : VRs w Ej ((l.map Value.string).map AV.sc) (fun j => (l.map Value.string).toArray[0 + j]?) := by
  rw [Cj]
  intro j x hj
  rw [List.getElem?_map] at hj
  obtain ⟨v, hv, rfl⟩ := Option.map_eq_some_iff.1 hj
  exact ⟨v, by simpa using hv, Eg _ _ _⟩
 obtain ⟨h1, h2⟩ := (HR.start w).alloc (D2 w (.cells (l.map Value.string).toArray e)) (b := w.heap.size) (o := 0) (k := ⟨(l.map Value.string).map AV.sc, true, true⟩) (Nat.le_refl _) (I0 w _) (by simp) (fun _ => rfl) (.inl rfl) hcs
 refine ⟨_, _, .sl 0 0 l.length 1, [0], h1, ?_, ?_, by simp⟩
 ·rw [VR]
  refine .inr ⟨w.heap.size, 0, _, Du _ _ _, .inr ⟨l.length, Nat.le_refl _, rfl, ?_⟩⟩
  simp
 ·rw [Aea]
  have hr : Aw ([] ++ [⟨(l.map Value.string).map AV.sc, true, true⟩]) 0 0 (l.length * 1) = some ((l.map Value.string).map AV.sc) := by
   simp [Aw, List.take_of_length_le]
  have e1 : E0.ti 33 = As 33 := rfl
  obtain ⟨i, j, hi, hj, hz, hc⟩ : ∃ i j, As 33 = some i ∧ As i.elem = some j ∧ j.size = 1 ∧ j.cty = [i.elem] := ⟨_, _, rfl, rfl, rfl, rfl⟩
  simp only [e1, hi, Option.bind_some, show E0.ti i.elem = some j from hj, hz, if_true, hr, hc]
  have ho := Tz (ti := E0.ti) (tp := E0.tp) (H := [] ++ [⟨(l.map Value.string).map AV.sc, true, true⟩]) (d := 6) (List.replicate l.length [i.elem]).flatten (l.map Value.string) (by simp)
  rw [ho]
  have ha : Il ([] ++ [(⟨(l.map Value.string).map AV.sc, true, true⟩ : Gw)]) 0 = true := rfl
  rw [if_pos ha]
  simp [List.map_map]
theorem Aav (s : ByteArray) (w : World) (hs : s.size < 4294967281) : Calls Tryz.prog 267 #[.string s, .string phB] w fun e w' => e = .returned (.bool (vPH s)) ∧ Below w.heap.size w w' :=
 Ti Tryz.laysAny (zero_of_info AbQ).1 (zero_of_info AbQ).2 s w hs
theorem V7 (s : ByteArray) (w : World) (hs : s.size < 4294967281) (hm : ∃ m, w.cell? ⟨Tryz.laysSplit_ren.g 1, 0, none⟩ = some (.int .i64 m)) : Calls Tryz.prog 300 #[.string s, .string Qk] w fun e w' =>
  e = .returned (.slice (some ⟨w.heap.size, 0, none⟩) (A4 s).length (A4 s).length) ∧ w' = w.alloc (.cells ((A4 s).map Value.string).toArray (Tryz.laysSplit_ren.t 9)) := by
 obtain ⟨m, hm⟩ := hm
 have h := Any.strings_Split Tryz.laysSplit hi9 s Qk m w hs hm (Nat.le_refl _)
 rw [M2, ← Vv] at h
 exact h
theorem AdW {w : World} {x : Value} {us : List Value} (hl : us.length = 1) (hv : VRs w Ej [.sc x] (fun j => us[j]?)) : us = [x] := by
 match us, hl with
 | [y], _ =>
  rw [VRs] at hv
  obtain ⟨⟨u, hu, hv⟩, _⟩ := hv
  rw [VR] at hv
  simp at hu
  rw [hu, hv]
theorem Uf {w : World} {x y : Value} {us : List Value} (hl : us.length = 2) (hv : VRs w Ej [.sc x, .sc y] (fun j => us[j]?)) : us = [x, y] := by
 match us, hl with
 | [a, b], _ =>
  rw [VRs, VRs] at hv
  obtain ⟨⟨u, hu, hv⟩, ⟨u2, hu2, hv2⟩, _⟩ := hv
  rw [VR] at hv hv2
  simp at hu hu2
  rw [hu, hv, hu2, hv2]
theorem Ah6 : Aer Tryz.prog E0 J0 := by
 intro f g hg w hj ty vs us t hl hv ht
 have hf : E0.ext f = if Nat.beq f 147 then some Sa else if Nat.beq f 267 then some Pb else if Nat.beq f 300 then some Nd else none := rfl
 rw [hf] at hg
 split at hg
 ·rename_i hfe
  obtain rfl := Nat.eq_of_beq_eq_true hfe
  cases hg
  unfold Sa at ht
  split at ht
  case h_2 => cases ht
  rename_i s
  split at ht
  case isFalse => cases ht
  rename_i hs
  cases ht
  have hm : maxLen = 9223372036854775807 := by decide
  rw [hm] at hs
  obtain rfl := AdW hl hv
  refine .inr ⟨enters_of Tryz.func147 (by kernel_rfl) rfl _ _, (Aam s w hs hj.1).mono fun e w' ⟨he, hb⟩ => ⟨_, he, ?_⟩⟩
  rw [Aax]
  exact Wo hb _ _
 split at hg
 ·rename_i hfe
  obtain rfl := Nat.eq_of_beq_eq_true hfe
  cases hg
  unfold Pb at ht
  split at ht
  case h_2 => cases ht
  rename_i s c
  split at ht
  case isFalse => cases ht
  rename_i hs
  cases ht
  obtain rfl := Uf hl hv
  obtain ⟨hc, hs⟩ := hs
  obtain rfl := AgD hc
  exact .inr ⟨enters_of Tryz.func267 (by kernel_rfl) rfl _ _, (Aav s w hs).mono fun e w' ⟨he, hb⟩ => ⟨_, he, Wo hb _ _⟩⟩
 split at hg
 ·rename_i hfe
  obtain rfl := Nat.eq_of_beq_eq_true hfe
  cases hg
  unfold Nd at ht
  split at ht
  case h_2 => cases ht
  rename_i s c
  split at ht
  case isFalse => cases ht
  rename_i hs
  cases ht
  obtain rfl := Uf hl hv
  obtain ⟨rfl, hc, hs⟩ := hs
  obtain rfl := Agf hc
  exact .inr ⟨enters_of Tryz.func300 (by kernel_rfl) rfl _ _, (V7 s w hs hj.2).mono fun e w' ⟨he, hw⟩ => ⟨_, he, by subst hw; exact Aa4 w (A4 s) _⟩⟩
 ·cases hg
end YtjiahcekpohehaaGreatDoor.Abs
end Go.Proofs
set_option maxRecDepth 100000
namespace Go.Proofs.YtjiahcekpohehaaGreatDoor.Abs
section
open Go
theorem AgG : Acb Tryz.prog 0 tis = true := by kernel_rfl
theorem Agp : Abv E0 fss = true := by kernel_rfl
theorem Acc : Gx Tryz.prog As := by
 intro t i h
 unfold As at h
 cases hl : tis[t]? with
 | none => rw [hl] at h; cases h
 | some o =>
  rw [hl] at h
  simp only [Option.getD_some] at h
  subst h
  simpa using (S1 tis 0 t i AgG hl).1
theorem Ago : ∀ t i, As t = some i → i.ik = some .u8 → i.size = 1 := by
 intro t i h
 unfold As at h
 cases hl : tis[t]? with
 | none => rw [hl] at h; cases h
 | some o =>
  rw [hl] at h
  simp only [Option.getD_some] at h
  subst h
  exact (S1 tis 0 t i AgG hl).2
def FnQ (n : Nat) (c : Code) (t : Nat) (f : Func) : Prop := ∃ fn, Tryz.prog.funcs[n]? = some fn ∧ (fn.name == "runtime.NumGoroutine") = false ∧ fn.body = some c ∧ fn.ntmps = t ∧ fn.results.toList = f.results.toList
theorem Ew {c : Code} {t : Nat} {f : Func} {o : List (Nat × PI)} {i : Eb} {n : Nat} (e : some (some (⟨c, t, f.results.toList, o⟩ : Eb)) = some (some i)) (h : FnQ n c t f) : ∃ fn, Tryz.prog.funcs[n]? = some fn ∧ (fn.name == "runtime.NumGoroutine") = false ∧ fn.body = some i.body ∧ fn.ntmps = i.ntmps ∧ fn.results.toList = i.results := by cases e; exact h
theorem Ag1 : ∀ (f : Nat) (i : Eb), f < 302 → fss[f]? = some (some i) → ∃ fn, Tryz.prog.funcs[f]? = some fn ∧ (fn.name == "runtime.NumGoroutine") = false ∧ fn.body = some i.body ∧ fn.ntmps = i.ntmps ∧ fn.results.toList = i.results
 | 0, i, _, h => nomatch Option.some.inj h
 | 1, i, _, h => nomatch Option.some.inj h
 | 2, i, _, h => nomatch Option.some.inj h
 | 3, i, _, h => nomatch Option.some.inj h
 | 4, i, _, h => nomatch Option.some.inj h
 | 5, i, _, h => nomatch Option.some.inj h
 | 6, i, _, h => Ew (f := Tryz.f6) h ⟨_, Tryz.func6, by kernel_rfl, by kernel_rfl, rfl, rfl⟩
 | 7, i, _, h => nomatch Option.some.inj h
 | 8, i, _, h => nomatch Option.some.inj h
 | 9, i, _, h => nomatch Option.some.inj h
 | 10, i, _, h => nomatch Option.some.inj h
 | 11, i, _, h => nomatch Option.some.inj h
 | 12, i, _, h => nomatch Option.some.inj h
 | 13, i, _, h => nomatch Option.some.inj h
 | 14, i, _, h => nomatch Option.some.inj h
 | 15, i, _, h => nomatch Option.some.inj h
 | 16, i, _, h => nomatch Option.some.inj h
 | 17, i, _, h => Ew (f := Tryz.f17) h ⟨_, Tryz.func17, by kernel_rfl, by kernel_rfl, rfl, rfl⟩
 | 18, i, _, h => nomatch Option.some.inj h
 | 19, i, _, h => nomatch Option.some.inj h
 | 20, i, _, h => nomatch Option.some.inj h
 | 21, i, _, h => nomatch Option.some.inj h
 | 22, i, _, h => nomatch Option.some.inj h
 | 23, i, _, h => nomatch Option.some.inj h
 | 24, i, _, h => nomatch Option.some.inj h
 | 25, i, _, h => nomatch Option.some.inj h
 | 26, i, _, h => nomatch Option.some.inj h
 | 27, i, _, h => nomatch Option.some.inj h
 | 28, i, _, h => nomatch Option.some.inj h
 | 29, i, _, h => nomatch Option.some.inj h
 | 30, i, _, h => nomatch Option.some.inj h
 | 31, i, _, h => nomatch Option.some.inj h
 | 32, i, _, h => nomatch Option.some.inj h
 | 33, i, _, h => Ew (f := Tryz.f33) h ⟨_, Tryz.func33, by kernel_rfl, by kernel_rfl, rfl, rfl⟩
 | 34, i, _, h => nomatch Option.some.inj h
 | 35, i, _, h => Ew (f := Tryz.f35) h ⟨_, Tryz.func35, by kernel_rfl, by kernel_rfl, rfl, rfl⟩
 | 36, i, _, h => Ew (f := Tryz.f36) h ⟨_, Tryz.func36, by kernel_rfl, by kernel_rfl, rfl, rfl⟩
 | 37, i, _, h => nomatch Option.some.inj h
 | 38, i, _, h => Ew (f := Tryz.f38) h ⟨_, Tryz.func38, by kernel_rfl, by kernel_rfl, rfl, rfl⟩
 | 39, i, _, h => nomatch Option.some.inj h
 | 40, i, _, h => nomatch Option.some.inj h
 | 41, i, _, h => Ew (f := Tryz.f41) h ⟨_, Tryz.func41, by kernel_rfl, by kernel_rfl, rfl, rfl⟩
 | 42, i, _, h => Ew (f := Tryz.f42) h ⟨_, Tryz.func42, by kernel_rfl, by kernel_rfl, rfl, rfl⟩
 | 43, i, _, h => Ew (f := Tryz.f43) h ⟨_, Tryz.func43, by kernel_rfl, by kernel_rfl, rfl, rfl⟩
 | 44, i, _, h => Ew (f := Tryz.f44) h ⟨_, Tryz.func44, by kernel_rfl, by kernel_rfl, rfl, rfl⟩
 | 45, i, _, h => Ew (f := Tryz.f45) h ⟨_, Tryz.func45, by kernel_rfl, by kernel_rfl, rfl, rfl⟩
 | 46, i, _, h => nomatch Option.some.inj h
 | 47, i, _, h => nomatch Option.some.inj h
 | 48, i, _, h => nomatch Option.some.inj h
 | 49, i, _, h => nomatch Option.some.inj h
 | 50, i, _, h => nomatch Option.some.inj h
 | 51, i, _, h => nomatch Option.some.inj h
 | 52, i, _, h => nomatch Option.some.inj h
 | 53, i, _, h => nomatch Option.some.inj h
 | 54, i, _, h => nomatch Option.some.inj h
 | 55, i, _, h => nomatch Option.some.inj h
 | 56, i, _, h => nomatch Option.some.inj h
 | 57, i, _, h => nomatch Option.some.inj h
 | 58, i, _, h => nomatch Option.some.inj h
 | 59, i, _, h => nomatch Option.some.inj h
 | 60, i, _, h => nomatch Option.some.inj h
 | 61, i, _, h => nomatch Option.some.inj h
 | 62, i, _, h => Ew (f := Tryz.f62) h ⟨_, Tryz.func62, by kernel_rfl, by kernel_rfl, rfl, rfl⟩
 | 63, i, _, h => nomatch Option.some.inj h
 | 64, i, _, h => nomatch Option.some.inj h
 | 65, i, _, h => nomatch Option.some.inj h
 | 66, i, _, h => nomatch Option.some.inj h
 | 67, i, _, h => nomatch Option.some.inj h
 | 68, i, _, h => nomatch Option.some.inj h
 | 69, i, _, h => nomatch Option.some.inj h
 | 70, i, _, h => nomatch Option.some.inj h
 | 71, i, _, h => nomatch Option.some.inj h
 | 72, i, _, h => nomatch Option.some.inj h
 | 73, i, _, h => nomatch Option.some.inj h
 | 74, i, _, h => nomatch Option.some.inj h
 | 75, i, _, h => nomatch Option.some.inj h
 | 76, i, _, h => Ew (f := Tryz.f76) h ⟨_, Tryz.func76, by kernel_rfl, by kernel_rfl, rfl, rfl⟩
 | 77, i, _, h => nomatch Option.some.inj h
 | 78, i, _, h => nomatch Option.some.inj h
 | 79, i, _, h => nomatch Option.some.inj h
 | 80, i, _, h => nomatch Option.some.inj h
 | 81, i, _, h => nomatch Option.some.inj h
 | 82, i, _, h => Ew (f := Tryz.f82) h ⟨_, Tryz.func82, by kernel_rfl, by kernel_rfl, rfl, rfl⟩
 | 83, i, _, h => nomatch Option.some.inj h
 | 84, i, _, h => Ew (f := Tryz.f84) h ⟨_, Tryz.func84, by kernel_rfl, by kernel_rfl, rfl, rfl⟩
 | 85, i, _, h => nomatch Option.some.inj h
 | 86, i, _, h => nomatch Option.some.inj h
 | 87, i, _, h => nomatch Option.some.inj h
 | 88, i, _, h => Ew (f := Tryz.f88) h ⟨_, Tryz.func88, by kernel_rfl, by kernel_rfl, rfl, rfl⟩
 | 89, i, _, h => nomatch Option.some.inj h
 | 90, i, _, h => nomatch Option.some.inj h
 | 91, i, _, h => nomatch Option.some.inj h
 | 92, i, _, h => nomatch Option.some.inj h
 | 93, i, _, h => nomatch Option.some.inj h
 | 94, i, _, h => Ew (f := Tryz.f94) h ⟨_, Tryz.func94, by kernel_rfl, by kernel_rfl, rfl, rfl⟩
 | 95, i, _, h => Ew (f := Tryz.f95) h ⟨_, Tryz.func95, by kernel_rfl, by kernel_rfl, rfl, rfl⟩
 | 96, i, _, h => Ew (f := Tryz.f96) h ⟨_, Tryz.func96, by kernel_rfl, by kernel_rfl, rfl, rfl⟩
 | 97, i, _, h => Ew (f := Tryz.f97) h ⟨_, Tryz.func97, by kernel_rfl, by kernel_rfl, rfl, rfl⟩
 | 98, i, _, h => nomatch Option.some.inj h
 | 99, i, _, h => nomatch Option.some.inj h
 | 100, i, _, h => nomatch Option.some.inj h
 | 101, i, _, h => nomatch Option.some.inj h
 | 102, i, _, h => nomatch Option.some.inj h
 | 103, i, _, h => nomatch Option.some.inj h
 | 104, i, _, h => nomatch Option.some.inj h
 | 105, i, _, h => nomatch Option.some.inj h
 | 106, i, _, h => nomatch Option.some.inj h
 | 107, i, _, h => nomatch Option.some.inj h
 | 108, i, _, h => nomatch Option.some.inj h
 | 109, i, _, h => Ew (f := Tryz.f109) h ⟨_, Tryz.func109, by kernel_rfl, by kernel_rfl, rfl, rfl⟩
 | 110, i, _, h => nomatch Option.some.inj h
 | 111, i, _, h => nomatch Option.some.inj h
 | 112, i, _, h => nomatch Option.some.inj h
 | 113, i, _, h => nomatch Option.some.inj h
 | 114, i, _, h => nomatch Option.some.inj h
 | 115, i, _, h => nomatch Option.some.inj h
 | 116, i, _, h => nomatch Option.some.inj h
 | 117, i, _, h => nomatch Option.some.inj h
 | 118, i, _, h => nomatch Option.some.inj h
 | 119, i, _, h => nomatch Option.some.inj h
 | 120, i, _, h => Ew (f := Tryz.f120) h ⟨_, Tryz.func120, by kernel_rfl, by kernel_rfl, rfl, rfl⟩
 | 121, i, _, h => Ew (f := Tryz.f121) h ⟨_, Tryz.func121, by kernel_rfl, by kernel_rfl, rfl, rfl⟩
 | 122, i, _, h => Ew (f := Tryz.f122) h ⟨_, Tryz.func122, by kernel_rfl, by kernel_rfl, rfl, rfl⟩
 | 123, i, _, h => nomatch Option.some.inj h
 | 124, i, _, h => Ew (f := Tryz.f124) h ⟨_, Tryz.func124, by kernel_rfl, by kernel_rfl, rfl, rfl⟩
 | 125, i, _, h => nomatch Option.some.inj h
 | 126, i, _, h => Ew (f := Tryz.f126) h ⟨_, Tryz.func126, by kernel_rfl, by kernel_rfl, rfl, rfl⟩
 | 127, i, _, h => Ew (f := Tryz.f127) h ⟨_, Tryz.func127, by kernel_rfl, by kernel_rfl, rfl, rfl⟩
 | 128, i, _, h => Ew (f := Tryz.f128) h ⟨_, Tryz.func128, by kernel_rfl, by kernel_rfl, rfl, rfl⟩
 | 129, i, _, h => nomatch Option.some.inj h
 | 130, i, _, h => nomatch Option.some.inj h
 | 131, i, _, h => nomatch Option.some.inj h
 | 132, i, _, h => nomatch Option.some.inj h
 | 133, i, _, h => Ew (f := Tryz.f133) h ⟨_, Tryz.func133, by kernel_rfl, by kernel_rfl, rfl, rfl⟩
 | 134, i, _, h => Ew (f := Tryz.f134) h ⟨_, Tryz.func134, by kernel_rfl, by kernel_rfl, rfl, rfl⟩
 | 135, i, _, h => Ew (f := Tryz.f135) h ⟨_, Tryz.func135, by kernel_rfl, by kernel_rfl, rfl, rfl⟩
 | 136, i, _, h => Ew (f := Tryz.f136) h ⟨_, Tryz.func136, by kernel_rfl, by kernel_rfl, rfl, rfl⟩
 | 137, i, _, h => Ew (f := Tryz.f137) h ⟨_, Tryz.func137, by kernel_rfl, by kernel_rfl, rfl, rfl⟩
 | 138, i, _, h => Ew (f := Tryz.f138) h ⟨_, Tryz.func138, by kernel_rfl, by kernel_rfl, rfl, rfl⟩
 | 139, i, _, h => Ew (f := Tryz.f139) h ⟨_, Tryz.func139, by kernel_rfl, by kernel_rfl, rfl, rfl⟩
 | 140, i, _, h => Ew (f := Tryz.f140) h ⟨_, Tryz.func140, by kernel_rfl, by kernel_rfl, rfl, rfl⟩
 | 141, i, _, h => Ew (f := Tryz.f141) h ⟨_, Tryz.func141, by kernel_rfl, by kernel_rfl, rfl, rfl⟩
 | 142, i, _, h => Ew (f := Tryz.f142) h ⟨_, Tryz.func142, by kernel_rfl, by kernel_rfl, rfl, rfl⟩
 | 143, i, _, h => Ew (f := Tryz.f143) h ⟨_, Tryz.func143, by kernel_rfl, by kernel_rfl, rfl, rfl⟩
 | 144, i, _, h => Ew (f := Tryz.f144) h ⟨_, Tryz.func144, by kernel_rfl, by kernel_rfl, rfl, rfl⟩
 | 145, i, _, h => Ew (f := Tryz.f145) h ⟨_, Tryz.func145, by kernel_rfl, by kernel_rfl, rfl, rfl⟩
 | 146, i, _, h => Ew (f := Tryz.f146) h ⟨_, Tryz.func146, by kernel_rfl, by kernel_rfl, rfl, rfl⟩
 | 147, i, _, h => nomatch Option.some.inj h
 | 148, i, _, h => Ew (f := Tryz.f148) h ⟨_, Tryz.func148, by kernel_rfl, by kernel_rfl, rfl, rfl⟩
 | 149, i, _, h => Ew (f := Tryz.f149) h ⟨_, Tryz.func149, by kernel_rfl, by kernel_rfl, rfl, rfl⟩
 | 150, i, _, h => Ew (f := Tryz.f150) h ⟨_, Tryz.func150, by kernel_rfl, by kernel_rfl, rfl, rfl⟩
 | 151, i, _, h => Ew (f := Tryz.f151) h ⟨_, Tryz.func151, by kernel_rfl, by kernel_rfl, rfl, rfl⟩
 | 152, i, _, h => Ew (f := Tryz.f152) h ⟨_, Tryz.func152, by kernel_rfl, by kernel_rfl, rfl, rfl⟩
 | 153, i, _, h => Ew (f := Tryz.f153) h ⟨_, Tryz.func153, by kernel_rfl, by kernel_rfl, rfl, rfl⟩
 | 154, i, _, h => Ew (f := Tryz.f154) h ⟨_, Tryz.func154, by kernel_rfl, by kernel_rfl, rfl, rfl⟩
 | 155, i, _, h => nomatch Option.some.inj h
 | 156, i, _, h => nomatch Option.some.inj h
 | 157, i, _, h => nomatch Option.some.inj h
 | 158, i, _, h => nomatch Option.some.inj h
 | 159, i, _, h => nomatch Option.some.inj h
 | 160, i, _, h => nomatch Option.some.inj h
 | 161, i, _, h => nomatch Option.some.inj h
 | 162, i, _, h => nomatch Option.some.inj h
 | 163, i, _, h => nomatch Option.some.inj h
 | 164, i, _, h => nomatch Option.some.inj h
 | 165, i, _, h => nomatch Option.some.inj h
 | 166, i, _, h => nomatch Option.some.inj h
 | 167, i, _, h => nomatch Option.some.inj h
 | 168, i, _, h => nomatch Option.some.inj h
 | 169, i, _, h => nomatch Option.some.inj h
 | 170, i, _, h => nomatch Option.some.inj h
 | 171, i, _, h => nomatch Option.some.inj h
 | 172, i, _, h => Ew (f := Tryz.f172) h ⟨_, Tryz.func172, by kernel_rfl, by kernel_rfl, rfl, rfl⟩
 | 173, i, _, h => nomatch Option.some.inj h
 | 174, i, _, h => nomatch Option.some.inj h
 | 175, i, _, h => nomatch Option.some.inj h
 | 176, i, _, h => nomatch Option.some.inj h
 | 177, i, _, h => nomatch Option.some.inj h
 | 178, i, _, h => nomatch Option.some.inj h
 | 179, i, _, h => nomatch Option.some.inj h
 | 180, i, _, h => nomatch Option.some.inj h
 | 181, i, _, h => nomatch Option.some.inj h
 | 182, i, _, h => nomatch Option.some.inj h
 | 183, i, _, h => Ew (f := Tryz.f183) h ⟨_, Tryz.func183, by kernel_rfl, by kernel_rfl, rfl, rfl⟩
 | 184, i, _, h => nomatch Option.some.inj h
 | 185, i, _, h => nomatch Option.some.inj h
 | 186, i, _, h => nomatch Option.some.inj h
 | 187, i, _, h => Ew (f := Tryz.f187) h ⟨_, Tryz.func187, by kernel_rfl, by kernel_rfl, rfl, rfl⟩
 | 188, i, _, h => nomatch Option.some.inj h
 | 189, i, _, h => nomatch Option.some.inj h
 | 190, i, _, h => Ew (f := Tryz.f190) h ⟨_, Tryz.func190, by kernel_rfl, by kernel_rfl, rfl, rfl⟩
 | 191, i, _, h => Ew (f := Tryz.f191) h ⟨_, Tryz.func191, by kernel_rfl, by kernel_rfl, rfl, rfl⟩
 | 192, i, _, h => nomatch Option.some.inj h
 | 193, i, _, h => nomatch Option.some.inj h
 | 194, i, _, h => nomatch Option.some.inj h
 | 195, i, _, h => Ew (f := Tryz.f195) h ⟨_, Tryz.func195, by kernel_rfl, by kernel_rfl, rfl, rfl⟩
 | 196, i, _, h => Ew (f := Tryz.f196) h ⟨_, Tryz.func196, by kernel_rfl, by kernel_rfl, rfl, rfl⟩
 | 197, i, _, h => Ew (f := Tryz.f197) h ⟨_, Tryz.func197, by kernel_rfl, by kernel_rfl, rfl, rfl⟩
 | 198, i, _, h => Ew (f := Tryz.f198) h ⟨_, Tryz.func198, by kernel_rfl, by kernel_rfl, rfl, rfl⟩
 | 199, i, _, h => Ew (f := Tryz.f199) h ⟨_, Tryz.func199, by kernel_rfl, by kernel_rfl, rfl, rfl⟩
 | 200, i, _, h => nomatch Option.some.inj h
 | 201, i, _, h => nomatch Option.some.inj h
 | 202, i, _, h => nomatch Option.some.inj h
 | 203, i, _, h => Ew (f := Tryz.f203) h ⟨_, Tryz.func203, by kernel_rfl, by kernel_rfl, rfl, rfl⟩
 | 204, i, _, h => Ew (f := Tryz.f204) h ⟨_, Tryz.func204, by kernel_rfl, by kernel_rfl, rfl, rfl⟩
 | 205, i, _, h => Ew (f := Tryz.f205) h ⟨_, Tryz.func205, by kernel_rfl, by kernel_rfl, rfl, rfl⟩
 | 206, i, _, h => nomatch Option.some.inj h
 | 207, i, _, h => nomatch Option.some.inj h
 | 208, i, _, h => nomatch Option.some.inj h
 | 209, i, _, h => nomatch Option.some.inj h
 | 210, i, _, h => nomatch Option.some.inj h
 | 211, i, _, h => nomatch Option.some.inj h
 | 212, i, _, h => nomatch Option.some.inj h
 | 213, i, _, h => nomatch Option.some.inj h
 | 214, i, _, h => nomatch Option.some.inj h
 | 215, i, _, h => Ew (f := Tryz.f215) h ⟨_, Tryz.func215, by kernel_rfl, by kernel_rfl, rfl, rfl⟩
 | 216, i, _, h => nomatch Option.some.inj h
 | 217, i, _, h => nomatch Option.some.inj h
 | 218, i, _, h => nomatch Option.some.inj h
 | 219, i, _, h => nomatch Option.some.inj h
 | 220, i, _, h => nomatch Option.some.inj h
 | 221, i, _, h => Ew (f := Tryz.f221) h ⟨_, Tryz.func221, by kernel_rfl, by kernel_rfl, rfl, rfl⟩
 | 222, i, _, h => Ew (f := Tryz.f222) h ⟨_, Tryz.func222, by kernel_rfl, by kernel_rfl, rfl, rfl⟩
 | 223, i, _, h => Ew (f := Tryz.f223) h ⟨_, Tryz.func223, by kernel_rfl, by kernel_rfl, rfl, rfl⟩
 | 224, i, _, h => Ew (f := Tryz.f224) h ⟨_, Tryz.func224, by kernel_rfl, by kernel_rfl, rfl, rfl⟩
 | 225, i, _, h => Ew (f := Tryz.f225) h ⟨_, Tryz.func225, by kernel_rfl, by kernel_rfl, rfl, rfl⟩
 | 226, i, _, h => nomatch Option.some.inj h
 | 227, i, _, h => nomatch Option.some.inj h
 | 228, i, _, h => nomatch Option.some.inj h
 | 229, i, _, h => nomatch Option.some.inj h
 | 230, i, _, h => Ew (f := Tryz.f230) h ⟨_, Tryz.func230, by kernel_rfl, by kernel_rfl, rfl, rfl⟩
 | 231, i, _, h => Ew (f := Tryz.f231) h ⟨_, Tryz.func231, by kernel_rfl, by kernel_rfl, rfl, rfl⟩
 | 232, i, _, h => Ew (f := Tryz.f232) h ⟨_, Tryz.func232, by kernel_rfl, by kernel_rfl, rfl, rfl⟩
 | 233, i, _, h => Ew (f := Tryz.f233) h ⟨_, Tryz.func233, by kernel_rfl, by kernel_rfl, rfl, rfl⟩
 | 234, i, _, h => nomatch Option.some.inj h
 | 235, i, _, h => Ew (f := Tryz.f235) h ⟨_, Tryz.func235, by kernel_rfl, by kernel_rfl, rfl, rfl⟩
 | 236, i, _, h => nomatch Option.some.inj h
 | 237, i, _, h => nomatch Option.some.inj h
 | 238, i, _, h => nomatch Option.some.inj h
 | 239, i, _, h => nomatch Option.some.inj h
 | 240, i, _, h => nomatch Option.some.inj h
 | 241, i, _, h => nomatch Option.some.inj h
 | 242, i, _, h => nomatch Option.some.inj h
 | 243, i, _, h => nomatch Option.some.inj h
 | 244, i, _, h => nomatch Option.some.inj h
 | 245, i, _, h => nomatch Option.some.inj h
 | 246, i, _, h => nomatch Option.some.inj h
 | 247, i, _, h => nomatch Option.some.inj h
 | 248, i, _, h => nomatch Option.some.inj h
 | 249, i, _, h => nomatch Option.some.inj h
 | 250, i, _, h => nomatch Option.some.inj h
 | 251, i, _, h => nomatch Option.some.inj h
 | 252, i, _, h => nomatch Option.some.inj h
 | 253, i, _, h => nomatch Option.some.inj h
 | 254, i, _, h => nomatch Option.some.inj h
 | 255, i, _, h => nomatch Option.some.inj h
 | 256, i, _, h => nomatch Option.some.inj h
 | 257, i, _, h => nomatch Option.some.inj h
 | 258, i, _, h => nomatch Option.some.inj h
 | 259, i, _, h => nomatch Option.some.inj h
 | 260, i, _, h => nomatch Option.some.inj h
 | 261, i, _, h => nomatch Option.some.inj h
 | 262, i, _, h => nomatch Option.some.inj h
 | 263, i, _, h => nomatch Option.some.inj h
 | 264, i, _, h => nomatch Option.some.inj h
 | 265, i, _, h => nomatch Option.some.inj h
 | 266, i, _, h => nomatch Option.some.inj h
 | 267, i, _, h => nomatch Option.some.inj h
 | 268, i, _, h => Ew (f := Tryz.f268) h ⟨_, Tryz.func268, by kernel_rfl, by kernel_rfl, rfl, rfl⟩
 | 269, i, _, h => Ew (f := Tryz.f269) h ⟨_, Tryz.func269, by kernel_rfl, by kernel_rfl, rfl, rfl⟩
 | 270, i, _, h => nomatch Option.some.inj h
 | 271, i, _, h => nomatch Option.some.inj h
 | 272, i, _, h => nomatch Option.some.inj h
 | 273, i, _, h => Ew (f := Tryz.f273) h ⟨_, Tryz.func273, by kernel_rfl, by kernel_rfl, rfl, rfl⟩
 | 274, i, _, h => Ew (f := Tryz.f274) h ⟨_, Tryz.func274, by kernel_rfl, by kernel_rfl, rfl, rfl⟩
 | 275, i, _, h => nomatch Option.some.inj h
 | 276, i, _, h => nomatch Option.some.inj h
 | 277, i, _, h => Ew (f := Tryz.f277) h ⟨_, Tryz.func277, by kernel_rfl, by kernel_rfl, rfl, rfl⟩
 | 278, i, _, h => nomatch Option.some.inj h
 | 279, i, _, h => nomatch Option.some.inj h
 | 280, i, _, h => nomatch Option.some.inj h
 | 281, i, _, h => nomatch Option.some.inj h
 | 282, i, _, h => nomatch Option.some.inj h
 | 283, i, _, h => nomatch Option.some.inj h
 | 284, i, _, h => nomatch Option.some.inj h
 | 285, i, _, h => nomatch Option.some.inj h
 | 286, i, _, h => nomatch Option.some.inj h
 | 287, i, _, h => nomatch Option.some.inj h
 | 288, i, _, h => nomatch Option.some.inj h
 | 289, i, _, h => nomatch Option.some.inj h
 | 290, i, _, h => nomatch Option.some.inj h
 | 291, i, _, h => nomatch Option.some.inj h
 | 292, i, _, h => nomatch Option.some.inj h
 | 293, i, _, h => nomatch Option.some.inj h
 | 294, i, _, h => nomatch Option.some.inj h
 | 295, i, _, h => nomatch Option.some.inj h
 | 296, i, _, h => nomatch Option.some.inj h
 | 297, i, _, h => nomatch Option.some.inj h
 | 298, i, _, h => nomatch Option.some.inj h
 | 299, i, _, h => nomatch Option.some.inj h
 | 300, i, _, h => nomatch Option.some.inj h
 | 301, i, _, h => Ew (f := Tryz.f301) h ⟨_, Tryz.func301, by kernel_rfl, by kernel_rfl, rfl, rfl⟩
 | n + 302, i, hlt, h => by omega
theorem Ah7 : ∀ f i, E0.fs f = some i → Afd Tryz.prog E0 f i := by
 intro f i h
 have hl : fss[f]? = some (some i) := by
  have h : (fss[f]?).getD none = some i := h
  cases hl : fss[f]? with
  | none => rw [hl] at h; cases h
  | some o => rw [hl] at h; simp only [Option.getD_some] at h; rw [h]
 refine ⟨?_, Xe Agp hl⟩
 have hlt : f < 302 := (List.getElem?_eq_some_iff.1 hl).1
 exact Ag1 f i hlt hl
theorem Ah4 : S6 Tryz.prog E0 J0 := ⟨Acc, Ago, by kernel_rfl, Ah7, Ah6, (fun f q h => by cases h), Ab4⟩
end
section
open Go
variable {β : Type} {n : Nat}
section
variable {k : KO β} {k1 : AV → Option β} {H : Af}
@[simp] theorem Az : (PR n β).load = Bz := rfl
@[simp] theorem Cw : (PR n β).store = D0 := rfl
@[simp] theorem Dm : (PR n β).new = Nl := rfl
@[simp] theorem Cl : (PR n β).box = T2 := rfl
@[simp] theorem Em : (PR n β).newSl = F6 := rfl
@[simp] theorem A8 : (PR n β).fadr = Db := rfl
@[simp] theorem AgP : (PR n β).fld = Aeb := rfl
@[simp] theorem Bw : (PR n β).iadr = C4 := rfl
@[simp] theorem Gi : (PR n β).idx = AbJ := rfl
@[simp] theorem C7 : (PR n β).lenS = Ob := rfl
@[simp] theorem Bu : (PR n β).len = Gg := rfl
@[simp] theorem D5 : (PR n β).sliceS = Mx := rfl
@[simp] theorem E7 : (PR n β).slice = Sw := rfl
@[simp] theorem Gz : (PR n β).app = T0 := rfl
@[simp] theorem AgM : (PR n β).appS = Xn := rfl
@[simp] theorem A2 : (PR n β).bin = Cg := rfl
@[simp] theorem Do : (PR n β).binB = Kg := rfl
@[simp] theorem E5 : (PR n β).binA = Mw := rfl
@[simp] theorem Cr : (PR n β).un = pUn := rfl
@[simp] theorem Be : (PR n β).pick = K3 := rfl
@[simp] theorem Gh : (PR n β).cvI = AbH := rfl
@[simp] theorem AgO : (PR n β).cvSS = AbI := rfl
@[simp] theorem Fe : (PR n β).cvBS = Rw := rfl
@[simp] theorem Acy : (PR n β).cvSB = T3 := rfl
@[simp] theorem Acz : (PR n β).extr = T4 := rfl
@[simp] theorem AgQ : (PR n β).nil = Agc := rfl
@[simp] theorem Dp : (PR n β).fill = fun a l k => (Kd a l).bind k := rfl
@[simp] theorem Gj : (PR n β).make = Oc := rfl
@[simp] theorem A1 : (PR n β).guard = G2 := rfl
@[simp] theorem Ay : (PR n β).cond = Cy := rfl
@[simp] theorem Agk : (PR n β).clear = Qf := rfl
@[simp] theorem AgN : (PR n β).both = Ln := rfl
@[simp] theorem Aar : (PR n β).apart = Nk := rfl
@[simp] theorem Ac0 : (PR n β).same = Od := rfl
noncomputable def Di (f : Nat) : Bool := E0.hm f || (E0.ext f).isSome
theorem T6 {f : Nat} (h : Di f = false) : E0.hm f = false := by
 unfold Di at h
 simp only [Bool.or_eq_false_iff] at h
 exact h.1
theorem Rx {f : Nat} (h : Di f = false) : E0.ext f = none := by
 unfold Di at h
 simp only [Bool.or_eq_false_iff] at h
 simpa using h.2
theorem Et {ty : Nat} {f : FuncId} {args vs : List AV} {t : AV} (hh : Di f = false) (hv : args.mapM (Ci H 8) = some vs) (ht : Bv E0 n ty f vs = some t) :
  (PR n β).call ty (.fn f [] []) args H k = k (B6 As E0.tp H.length ty t).1 (H ++ (B6 As E0.tp H.length ty t).2) := by
 show Kc E0 (Ds E0 n) ty f ([] ++ args ++ []) H k = _
 simp only [Kc, Rx hh, T6 hh, List.nil_append, List.append_nil, Bool.false_eq_true, if_false, Tf, hv, Option.bind_some]
 have ht : Nt E0 (Ds E0 n) ty f vs = some t := ht
 rw [ht]
 rfl
theorem Um {ty : Nat} {f : FuncId} {g : Nat → List AV → Option AV} {args vs : List AV} {t : AV} (hg : E0.ext f = some g) (hv : args.mapM (Ci H 8) = some vs) (ht : g ty vs = some t) :
  (PR n β).call ty (.fn f [] []) args H k = k (B6 As E0.tp H.length ty t).1 (H ++ (B6 As E0.tp H.length ty t).2) := by
 show Kc E0 (Ds E0 n) ty f ([] ++ args ++ []) H k = _
 simp only [Kc, hg, List.nil_append, List.append_nil, Wj, hv, Option.bind_some, ht]
 rfl
end
theorem Av (n ty : Nat) (f : FuncId) (args : List AV) : Bv E0 n ty f args = Ds E0 n AV f args [] fun x H => A7 As E0.tp ty H x := rfl
@[simp] theorem Agb {ti : Nat → Option TI} {tp : Nat → Option (List Nat)} (ty : Nat) (H : Af) (v : Value) : A7 ti tp ty H (.sc v) = some (.sc v) := rfl
theorem Hp {ti : Nat → Option TI} {tp : Nat → Option (List Nat)} {H : Af} {d ty id off n z : Nat} : Co ti tp H (d + 1) ty (.sl id off n z) = (ti ty).bind fun i => (ti i.elem).bind fun j => if z = j.size then (if Il H id then (Aw H id off (n * z)).bind fun cs => (Dg (Co ti tp H d) (List.replicate n j.cty).flatten cs).bind fun q => some (.ro n q.1, id :: q.2) else none) else none := rfl
theorem Hb {ti : Nat → Option TI} {tp : Nat → Option (List Nat)} {H : Af} {d ty : Nat} {cs : List AV} : Co ti tp H (d + 1) ty (.agg cs) = (ti ty).bind fun i => (Dg (Co ti tp H d) i.cty cs).bind fun q => some (.agg q.1, q.2) := rfl
theorem H7 {ti : Nat → Option TI} {tp : Nat → Option (List Nat)} {H : Af} {d ty : Nat} {cs : List AV} : Co ti tp H (d + 1) ty (.tup cs) = (tp ty).bind fun ts => (Dg (Co ti tp H d) ts cs).bind fun q => some (.tup q.1, q.2) := rfl
theorem AdX {ti : Nat → Option TI} {tp : Nat → Option (List Nat)} {H : Af} {d ty : Nat} {v : Value} : Co ti tp H (d + 1) ty (.sc v) = some (.sc v, []) := rfl
theorem Ey {ti : Nat → Option TI} {tp : Nat → Option (List Nat)} {n ty : Nat} {v : Value} : B6 ti tp n ty (.sc v) = (.sc v, []) := rfl
theorem Hs {ti : Nat → Option TI} {tp : Nat → Option (List Nat)} {n ty : Nat} {cs : List AV} : B6 ti tp n ty (.agg cs) = (.agg (Bh ti tp n ((ti ty).getD default).cty cs).1, (Bh ti tp n ((ti ty).getD default).cty cs).2) := rfl
theorem Aaa {ti : Nat → Option TI} {tp : Nat → Option (List Nat)} {n ty : Nat} {cs : List AV} : B6 ti tp n ty (.tup cs) = (.tup (Bh ti tp n ((tp ty).getD []) cs).1, (Bh ti tp n ((tp ty).getD []) cs).2) := rfl
theorem M6 {H : Af} {d id off n z : Nat} : Ci H (d + 1) (.sl id off n z) = (Aw H id off (n * z)).bind fun cs => (cs.mapM (Ci H d)).bind fun vs => some (.ro n vs) := rfl
theorem Ll {H : Af} {d : Nat} {cs : List AV} : Ci H (d + 1) (.agg cs) = (cs.mapM (Ci H d)).bind fun vs => some (.agg vs) := rfl
theorem Uh {H : Af} {d : Nat} {v : Value} : Ci H (d + 1) (.sc v) = some (.sc v) := rfl
theorem Qz {H : Af} {d n : Nat} {cs : List AV} : Ci H (d + 1) (.ro n cs) = some (.ro n cs) := rfl
theorem Xj {H : Af} {d : Nat} : ∀ (l : List Value), (l.map AV.sc).mapM (Ci H (d + 1)) = some (l.map AV.sc)
 | [] => rfl
 | x :: l => by
  have e : Ci H (d + 1) (.sc x) = some (.sc x) := rfl
  simp only [List.map_cons, List.mapM_cons, e, Option.pure_def, Option.bind_eq_bind, Option.bind_some, Xj l]
theorem Xm {ti : Nat → Option TI} {tp : Nat → Option (List Nat)} {H : Af} {d : Nat} : ∀ (ts : List Nat) (l : List Value), ts.length = l.length → Dg (Co ti tp H (d + 1)) ts (l.map AV.sc) = some (l.map AV.sc, [])
 | [], [], _ => rfl
 | t :: ts, x :: l, h => by
  have e : Co ti tp H (d + 1) t (.sc x) = some (.sc x, []) := rfl
  simp only [List.map_cons, Dg, e, Option.bind_some, Xm ts l (by simpa using h), List.append_nil]
 | [], _ :: _, h => by simp at h
 | _ :: _, [], h => by simp at h
def bv (s : ByteArray) : List Value := s.data.toList.map fun b => .int .u8 b.toNat
theorem Ut (s : ByteArray) : Cd s = (bv s).map AV.sc := by simp [Cd, bv]
theorem Ha (s : ByteArray) : (Cd s).length = s.size := by simp [Cd]
theorem Jo : ∀ (l : List UInt8), (l.map fun b => AV.sc (.int .u8 (b.toNat : Int))).mapM Kp = some l
 | [] => rfl
 | b :: l => by
  have e : Kp (.sc (.int .u8 (b.toNat : Int))) = some b := by simp [Kp]
  simp only [List.map_cons, List.mapM_cons, e, Jo l, Option.pure_def, Option.bind_eq_bind, Option.bind_some]
end
section
open Go
section gen
variable {ti : Nat → Option TI} {tp : Nat → Option (List Nat)}
def Gf (f : Nat → AV → Prop) : List Nat → List AV → Prop
 | [], [] => True
 | t :: ts, x :: xs => f t x ∧ Gf f ts xs
 | _, _ => False
def Ht (ti : Nat → Option TI) (tp : Nat → Option (List Nat)) : Nat → Nat → AV → Prop
 | 0, _, _ => False
 | d + 1, ty, x =>
  match x with
  | .sc _ => True
  | .ro n cells => ∃ i j, ti ty = some i ∧ ti i.elem = some j ∧ cells.length = n * j.size ∧ Gf (Ht ti tp d) (List.replicate n j.cty).flatten cells
  | .agg cs => ∃ i, ti ty = some i ∧ Gf (Ht ti tp d) i.cty cs
  | .tup cs => ∃ ts, tp ty = some ts ∧ Gf (Ht ti tp d) ts cs
  | _ => False
theorem Im {f : Nat → AV → Prop} : ∀ {ts : List Nat} {cs : List AV} {ts' : List Nat} {cs' : List AV}, Gf f ts cs → Gf f ts' cs' → Gf f (ts ++ ts') (cs ++ cs')
 | [], [], _, _, _, h => h
 | _ :: ts, _ :: cs, _, _, h, h' => ⟨h.1, Im h.2 h'⟩
theorem Lf {α : Type} {f : Nat → AV → Prop} {cty : List Nat} {enc : α → List AV} : ∀ (l : List α), (∀ x ∈ l, Gf f cty (enc x)) → Gf f (List.replicate l.length cty).flatten (l.map enc).flatten
 | [], _ => by simp [Gf]
 | x :: l, h => by
  rw [List.length_cons, List.replicate_succ, List.flatten_cons, List.map_cons, List.flatten_cons]
  exact Im (h x List.mem_cons_self) (Lf l fun y hy => h y (List.mem_cons_of_mem _ hy))
theorem Mq {f g : Nat → AV → Prop} (hfg : ∀ t x, f t x → g t x) : ∀ {ts : List Nat} {cs : List AV}, Gf f ts cs → okL g ts cs
 | [], [], _ => trivial
 | _ :: ts, _ :: cs, h => ⟨hfg _ _ h.1, Mq hfg h.2⟩
theorem Mt : ∀ (d : Nat) (ty : Nat) (x : AV), Ht ti tp d ty x → Tw ti tp d ty x
 | 0, _, _, h => h
 | d + 1, ty, x, h => by
  cases x with
  | sc v => trivial
  | ro n cells =>
   obtain ⟨i, j, h1, h2, h3, h4⟩ := h
   show cells.length = n * (((ti ty).bind fun i => ti i.elem).getD default).size ∧ _
   simp only [h1, Option.bind_some, h2, Option.getD_some]
   exact ⟨h3, Mq (Mt d) h4⟩
  | agg cs =>
   obtain ⟨i, h1, h2⟩ := h
   show okL _ ((ti ty).getD default).cty cs
   rw [h1]
   exact Mq (Mt d) h2
  | tup cs =>
   obtain ⟨ts, h1, h2⟩ := h
   show okL _ ((tp ty).getD []) cs
   rw [h1]
   exact Mq (Mt d) h2
  | _ => cases h
theorem Rv {H : Af} {d : Nat} (hd : ∀ ty t N, Ht ti tp d ty t → Lies H N (B6 ti tp N ty t).2 → (∀ b ∈ (B6 ti tp N ty t).2, b.live = true ∧ b.app = true) → Co ti tp H d ty (B6 ti tp N ty t).1 = some (t, List.range' N (B6 ti tp N ty t).2.length)) :
  ∀ (ts : List Nat) (cs : List AV) (N : Nat), Gf (Ht ti tp d) ts cs → Lies H N (Bh ti tp N ts cs).2 → (∀ b ∈ (Bh ti tp N ts cs).2, b.live = true ∧ b.app = true) → Dg (Co ti tp H d) ts (Bh ti tp N ts cs).1 = some (cs, List.range' N (Bh ti tp N ts cs).2.length)
 | [], [], N, _, _, _ => rfl
 | t :: ts, x :: cs, N, h, hl, hb => by
  simp only [Bh, List.headD_cons, List.tail_cons] at hl hb ⊢
  have h1 := hd t x N h.1 hl.left fun b hb' => hb b (List.mem_append_left _ hb')
  have h2 := Rv hd ts cs _ h.2 hl.right fun b hb' => hb b (List.mem_append_right _ hb')
  have e := List.range'_append (s := N) (m := (B6 ti tp N t x).2.length) (n := (Bh ti tp (N + (B6 ti tp N t x).2.length) ts cs).2.length) (step := 1)
  rw [Nat.one_mul] at e
  simp only [Dg, h1, h2, Option.bind_some, List.length_append, e]
mutual
theorem Aab : ∀ (x : AV) (N ty : Nat), ∀ b ∈ (B6 ti tp N ty x).2, b.live = true ∧ b.app = true
 | .sc v, N, ty => by intro b h; cases h
 | .ro n cells, N, ty => by
  intro b h
  simp only [B6, List.mem_cons] at h
  rcases h with rfl | h
  ·exact ⟨rfl, rfl⟩
  ·exact F3 cells _ _ b h
 | .agg cs, N, ty => fun b h => F3 cs _ _ b h
 | .tup cs, N, ty => fun b h => F3 cs _ _ b h
 | .any, N, ty => by intro b h; cases h
 | .nl, N, ty => by intro b h; cases h
 | .sl .., N, ty => by intro b h; cases h
 | .ptr .., N, ty => by intro b h; cases h
 | .rp .., N, ty => by intro b h; cases h
 | .fn .., N, ty => by intro b h; cases h
theorem F3 : ∀ (cs : List AV) (N : Nat) (ts : List Nat), ∀ b ∈ (Bh ti tp N ts cs).2, b.live = true ∧ b.app = true
 | [], N, ts => by intro b h; cases h
 | x :: cs, N, ts => by
  intro b h
  simp only [Bh, List.mem_append] at h
  rcases h with h | h
  ·exact Aab x _ _ b h
  ·exact F3 cs _ _ b h
end
theorem Qd {H : Af} : ∀ (d ty : Nat) (t : AV) (N : Nat), Ht ti tp d ty t → Lies H N (B6 ti tp N ty t).2 → Co ti tp H d ty (B6 ti tp N ty t).1 = some (t, List.range' N (B6 ti tp N ty t).2.length)
 | 0, _, _, _, h, _ => by cases h
 | d + 1, ty, t, N, h, hl => by
  have ih := Rv (H := H) (d := d) (ti := ti) (tp := tp) (fun ty t N h h' _ => Qd d ty t N h h')
  cases t with
  | sc v => rfl
  | ro n cells =>
   obtain ⟨i, j, h1, h2, h3, h4⟩ := h
   have e : B6 ti tp N ty (.ro n cells) = (.sl N 0 n j.size, ⟨(Bh ti tp (N + 1) (List.replicate n j.cty).flatten cells).1, true, true⟩ :: (Bh ti tp (N + 1) (List.replicate n j.cty).flatten cells).2) := by
    simp only [B6, h1, Option.bind_some, h2, Option.getD_some]
   rw [e] at hl ⊢
   have hb := hl 0 _ rfl
   rw [Nat.add_zero] at hb
   have hv := ih (List.replicate n j.cty).flatten cells (N + 1) h4 hl.tail (F3 _ _ _)
   have hlen := Gb (ti := ti) (tp := tp) (N + 1) (List.replicate n j.cty).flatten cells
   have e2 : Aw H N 0 (n * j.size) = some (Bh ti tp (N + 1) (List.replicate n j.cty).flatten cells).1 := by
    simp only [Aw, hb, if_true, List.drop_zero, Nat.zero_add]
    rw [if_pos (by rw [hlen, h3]; exact Nat.le_refl _), ← h3, ← hlen, List.take_length]
   have e3 : Il H N = true := by simp only [Il, hb]
   rw [Hp]
   simp only [h1, h2, Option.bind_some, if_true, e2, e3, hv, List.length_cons]
   rw [List.range'_succ]
  | agg cs =>
   obtain ⟨i, h1, h2⟩ := h
   have e : B6 ti tp N ty (.agg cs) = (.agg (Bh ti tp N i.cty cs).1, (Bh ti tp N i.cty cs).2) := by rw [Hs, h1]; rfl
   rw [e] at hl ⊢
   rw [Hb]
   simp only [h1, Option.bind_some, ih i.cty cs N h2 hl (F3 _ _ _)]
  | tup cs =>
   obtain ⟨ts, h1, h2⟩ := h
   have e : B6 ti tp N ty (.tup cs) = (.tup (Bh ti tp N ts cs).1, (Bh ti tp N ts cs).2) := by rw [Aaa, h1]; rfl
   rw [e] at hl ⊢
   rw [H7]
   simp only [h1, Option.bind_some, ih ts cs N h2 hl (F3 _ _ _)]
  | _ => cases h
theorem Wd (A B X : List Gw) : Lies (A ++ B ++ X) A.length B := fun j b hj => by
 have hlt := (List.getElem?_eq_some_iff.1 hj).1
 rw [List.append_assoc, List.getElem?_append_right (by omega), Nat.add_sub_cancel_left, List.getElem?_append_left hlt]
 exact hj
theorem S8 (A B : List Gw) : Lies (A ++ B) A.length B := by
 have := Wd A B []
 rwa [List.append_nil] at this
theorem Sv (A : List Gw) (ty : Nat) (t : AV) (h : Ht ti tp 8 ty t) : A7 ti tp ty (A ++ (B6 ti tp A.length ty t).2) (B6 ti tp A.length ty t).1 = some t := by
 rw [A7, Qd 8 ty t A.length h (S8 _ _)]
 simp only [Option.bind_some]
 rw [if_pos (List.nodup_range')]
def Vw (H : Af) (x v : AV) : Prop := ∀ X : List Gw, Ci (H ++ X) 8 x = some v
theorem Vw.grow {H : Af} {x v : AV} (h : Vw H x v) (X : List Gw) : Vw (H ++ X) x v := fun Y => by
 rw [List.append_assoc]
 exact h _
theorem Vw.now {H : Af} {x v : AV} (h : Vw H x v) : Ci H 8 x = some v := by
 have := h []
 rwa [List.append_nil] at this
theorem Ac2 (H : Af) (ty : Nat) (t : AV) (h : Ht ti tp 8 ty t) : Vw (H ++ (B6 ti tp H.length ty t).2) (B6 ti tp H.length ty t).1 t := fun X => R0 8 ty t H.length (Mt 8 ty t h) (Wd _ _ _)
theorem En (H : Af) (v : Value) : Vw H (.sc v) (.sc v) := fun _ => rfl
theorem Gy (H : Af) (n : Nat) (cs : List AV) : Vw H (.ro n cs) (.ro n cs) := fun _ => rfl
def F4 : AV → Bool
 | .sc v => Kx v
 | .ro _ _ => true
 | _ => false
theorem Xd {cs : List AV} (h : cs.all F4 = true) : cs.all Cp = true := by
 rw [List.all_eq_true] at h ⊢
 intro x hx
 have := h x hx
 cases x <;> simp_all [F4, Cp]
theorem Tp {cs : List AV} (h : cs.all F4 = true) : Dq (.agg cs) = some cs := by
 show (if cs.all Cp then some cs else none) = _
 rw [if_pos (Xd h)]
theorem Si {H : Af} {d : Nat} : ∀ {cs : List AV}, cs.all F4 = true → cs.mapM (Ci H (d + 1)) = some cs
 | [], _ => rfl
 | x :: cs, h => by
  rw [List.all_cons, Bool.and_eq_true] at h
  have e : Ci H (d + 1) x = some x := by
   have := h.1
   cases x <;> first | rfl | (exfalso; simp [F4] at this)
  simp only [List.mapM_cons, e, Si h.2, Option.pure_def, Option.bind_eq_bind, Option.bind_some]
theorem Hv (H : Af) {cs : List AV} (h : cs.all F4 = true) : Vw H (.agg cs) (.agg cs) := fun X => by
 rw [Ll, Si h]
 rfl
theorem H3 : ∀ (cs : List AV) (N : Nat) (ts : List Nat), cs.all F4 = true → (Bh ti tp N ts cs).1.all Cp = true
 | [], _, _, _ => rfl
 | x :: cs, N, ts, h => by
  rw [List.all_cons, Bool.and_eq_true] at h
  simp only [Bh, List.all_cons, Bool.and_eq_true]
  refine ⟨?_, H3 cs _ _ h.2⟩
  have := h.1
  cases x <;> first | exact this | rfl | (exfalso; simp [F4] at this)
theorem J2 : ∀ (ts : List Nat) (cs : List AV) (ts' : List Nat) (cs' : List AV) (N : Nat), ts.length = cs.length →
  Bh ti tp N (ts ++ ts') (cs ++ cs') = ((Bh ti tp N ts cs).1 ++ (Bh ti tp (N + (Bh ti tp N ts cs).2.length) ts' cs').1, (Bh ti tp N ts cs).2 ++ (Bh ti tp (N + (Bh ti tp N ts cs).2.length) ts' cs').2)
 | [], [], ts', cs', N, _ => by simp [Bh]
 | t :: ts, x :: cs, ts', cs', N, h => by
  have ih := J2 ts cs ts' cs' (N + (B6 ti tp N t x).2.length) (by simpa using h)
  simp only [List.cons_append, Bh, List.headD_cons, List.tail_cons, ih, List.length_append, List.append_assoc, Nat.add_assoc]
end gen
section ops
variable {β : Type}
theorem Lc (w len : Nat) (cells : List AV) (i : Nat) (k : AV → Option β) (h : i < len) (h2 : i * w < cells.length) : C4 w (.ro len cells) (.sc (.int .i64 i)) k = k (.rp (cells.drop (i * w))) := by
 simp only [C4, Uj, Option.bind_some, Int.toNat_natCast]
 rw [if_pos ⟨by omega, by omega⟩, if_pos h2]
theorem Sl (w len id off : Nat) (i : Nat) (k : AV → Option β) (h : i < len) : C4 w (.sl id off len w) (.sc (.int .i64 i)) k = k (.ptr id (off + i * w)) := by
 simp only [C4, Uj, Option.bind_some, Int.toNat_natCast, if_true]
 rw [if_pos ⟨by omega, by omega⟩]
theorem P1 (w : Nat) (cs r : List AV) (H : Af) (k : AV → Option β) (h : cs.length = w) : Bz true w (.rp (cs ++ r)) H k = k (.agg cs) := by
 simp only [Bz, List.length_append, h, Nat.le_add_right, if_true, List.take_left' h]
theorem Kw (c : AV) (r : List AV) (H : Af) (k : AV → Option β) : Bz false 1 (.rp (c :: r)) H k = k c := by
 simp only [Bz, List.length_cons, Nat.le_add_left, if_true, Bool.false_eq_true, if_false]
 rfl
theorem Ry (w id off : Nat) (y : AV) (b : Gw) (cs : List AV) (H : Af) (k : Af → Option β) (h : H[id]? = some b) (hc : Dq y = some cs) (hl : cs.length = w) (ho : off + w ≤ b.cells.length) (hb : b.live = true) : D0 w (.ptr id off) y H k = k (H.set id { b with cells := Ee b.cells off cs }) := by
 simp only [D0, h, hc, Option.bind_some, hb, if_true, hl, ho]
theorem L3 (A z C cs : List AV) (h : z.length = cs.length) : Ee (A ++ (z ++ C)) A.length cs = A ++ (cs ++ C) := by
 unfold Ee
 rw [List.take_left' rfl, ← List.append_assoc A z C, List.drop_append_of_le_length (by rw [List.length_append]; omega), ← h, ← List.length_append, List.drop_length, List.nil_append, List.append_assoc]
theorem Eh (a b : Nat) (k : AV → Option β) : Cg .lss (.sc (.int .i64 a)) (.sc (.int .i64 b)) k = k (.sc (.bool (decide (a < b)))) := by
 show k (.sc (.bool (decide ((a : Int) < (b : Int))))) = _
 rw [show decide ((a : Int) < (b : Int)) = decide (a < b) from by simp]
theorem El (a : Nat) (k : AV → Option β) (h : a < 9223372036854775807) : Cg .add (.sc (.int .i64 a)) (.sc (.int .i64 1)) k = k (.sc (.int .i64 (a + 1 : Nat))) := by
 show k (.sc (.int .i64 (IntKind.i64.wrap ((a : Int) + 1)))) = _
 have e : IntKind.i64.wrap ((a : Int) + 1) = ((a + 1 : Nat) : Int) := by
  rw [IntKind.wrap_i64, Int.natCast_add]
  simp only [Int.cast_ofNat_Int]
  omega
 rw [e]
theorem Cf (b : Bool) (x y : Option β) : Cy (.sc (.bool b)) x y = if b then x else y := rfl
theorem C8 (n : Nat) (cs : List AV) (k : AV → Option β) : Gg (.ro n cs) k = k (.sc (.int .i64 n)) := rfl
theorem Ib (n : Int) (h0 : -9223372036854775808 ≤ n) (h1 : n ≤ 9223372036854775807) : IntKind.i64.wrap n = n := by
 rw [IntKind.wrap_i64]; omega
theorem Kh (a b : Int) (k : AV → Option β) (h0 : -9223372036854775808 ≤ a - b) (h1 : a - b ≤ 9223372036854775807) : Cg .sub (.sc (.int .i64 a)) (.sc (.int .i64 b)) k = k (.sc (.int .i64 (a - b))) := by
 show k (.sc (.int .i64 (IntKind.i64.wrap (a - b)))) = _
 rw [Ib _ h0 h1]
theorem Ja (a b : Int) (k : AV → Option β) : Cg .lss (.sc (.int .i64 a)) (.sc (.int .i64 b)) k = k (.sc (.bool (decide (a < b)))) := rfl
theorem X6 {α : Type} {w : Nat} {enc : α → List AV} (hw : ∀ x, (enc x).length = w) (pre r : List α) : ((pre ++ r).map enc).flatten.drop (pre.length * w) = (r.map enc).flatten := by
 have hl : ((pre.map enc).flatten).length = pre.length * w := by
  induction pre with
  | nil => simp
  | cons x pre ih => rw [List.map_cons, List.flatten_cons, List.length_append, ih, hw, List.length_cons, Nat.succ_mul, Nat.add_comm]
 rw [List.map_append, List.flatten_append, List.drop_append_of_le_length (by omega), ← hl, List.drop_length, List.nil_append]
theorem K4 {α : Type} {w : Nat} {enc : α → List AV} (hw : ∀ x, (enc x).length = w) (l : List α) : ((l.map enc).flatten).length = l.length * w := by
 induction l with
 | nil => simp
 | cons x l ih => rw [List.map_cons, List.flatten_cons, List.length_append, ih, hw, List.length_cons, Nat.succ_mul, Nat.add_comm]
theorem O7 {α : Type} {w : Nat} {enc : α → List AV} (hw : ∀ x, (enc x).length = w) (h0 : 0 < w) (pre : List α) (x : α) (r : List α) (k : AV → Option β) :
  C4 w (.ro (pre ++ x :: r).length ((pre ++ x :: r).map enc).flatten) (.sc (.int .i64 pre.length)) k = k (.rp (enc x ++ (r.map enc).flatten)) := by
 have hl := K4 hw (pre ++ x :: r)
 have h1 : pre.length < (pre ++ x :: r).length := by simp
 rw [Lc w _ _ pre.length k h1 (by rw [hl]; exact Nat.mul_lt_mul_of_pos_right h1 h0), X6 hw pre (x :: r), List.map_cons, List.flatten_cons]
theorem Xt {α : Type} {n te g w : Nat} {cty : List Nat} (enc : α → List AV) (k : KO β) (z : List AV) (hz : z.length = w) (hw : ∀ x, (enc x).length = w) (hc : cty.length = w) (h0 : 0 < w)
  (hte : ∃ i, As te = some i ∧ i.cty = cty) (hfl : ∀ x, (enc x).all F4 = true) (hh : Di g = false) (L : Nat → AV → AV → KO β)
  (hL : ∀ m a o i H, L (m + 1) a o i H = Gg a fun t10 => Cg .lss i t10 fun t11 => Cy t11 (C4 w a i fun t18 => Bz true w t18 H fun t19 => (PR n β).call te (.fn g [] []) [t19] H fun t20 H => C4 w o i fun t21 => D0 w t21 t20 H fun H => Cg .add i (.sc (.int .i64 1)) fun t13 => L m a o t13 H) (k o H))
  (l : List α) (hto : ∀ x ∈ l, Bv E0 n te g [.agg (enc x)] = some (.agg (enc x))) (hlen : l.length ≤ 1048576) : ∀ (r pre : List α) (m : Nat), l = pre ++ r → r.length < m →
   L m (.ro l.length (l.map enc).flatten) (.sl 0 0 l.length w) (.sc (.int .i64 pre.length)) (⟨(Bh As E0.tp 1 (List.replicate pre.length cty).flatten (pre.map enc).flatten).1 ++ (List.replicate r.length z).flatten, true, true⟩ :: (Bh As E0.tp 1 (List.replicate pre.length cty).flatten (pre.map enc).flatten).2)
    = k (.sl 0 0 l.length w) (⟨(Bh As E0.tp 1 (List.replicate l.length cty).flatten (l.map enc).flatten).1, true, true⟩ :: (Bh As E0.tp 1 (List.replicate l.length cty).flatten (l.map enc).flatten).2)
 | [], pre, m + 1, hl, hm => by
  rw [List.append_nil] at hl
  subst hl
  rw [hL, C8, Eh, Cf]
  simp
 | x :: r, pre, m + 1, hl, hm => by
  have hlt : pre.length < l.length := by rw [hl]; simp
  rw [hL, C8, Eh, Cf, if_pos (by simpa using hlt)]
  have hel := fun k => O7 (β := β) hw h0 pre x r k
  rw [← hl] at hel
  rw [hel, P1 w _ _ _ _ (hw x)]
  rw [Et (vs := [.agg (enc x)]) hh (by rw [List.mapM_cons, (Hv _ (hfl x)).now]; rfl) (hto x (by rw [hl]; simp))]
  rw [Sl w _ _ _ _ _ hlt]
  obtain ⟨i, hi, rfl⟩ := hte
  have hr : (List.replicate pre.length i.cty).flatten.length = ((pre.map enc).flatten).length := by rw [K4 hw]; simp [hc]
  have hJ := J2 (ti := As) (tp := E0.tp) (List.replicate pre.length i.cty).flatten (pre.map enc).flatten i.cty (enc x) 1 hr
  generalize hP : Bh As E0.tp 1 (List.replicate pre.length i.cty).flatten (pre.map enc).flatten = P at hJ ⊢
  have hPl : P.1.length = pre.length * w := by rw [← hP, Gb, K4 hw]
  have hN : (⟨P.1 ++ (List.replicate (x :: r).length z).flatten, true, true⟩ :: P.2 : Af).length = 1 + P.2.length := by simp [Nat.add_comm]
  rw [hN, Hs, hi, Option.getD_some]
  simp only
  generalize hQ : Bh As E0.tp (1 + P.2.length) i.cty (enc x) = Q at hJ ⊢
  have hQl : Q.1.length = w := by rw [← hQ, Gb, hw]
  have hcl : Dq (.agg Q.1) = some Q.1 := by
   show (if Q.1.all Cp then some Q.1 else none) = _
   rw [if_pos (by rw [← hQ]; exact H3 _ _ _ (hfl x))]
  rw [List.cons_append, Ry w 0 (0 + pre.length * w) (.agg Q.1) ⟨P.1 ++ (List.replicate (x :: r).length z).flatten, true, true⟩ Q.1 _ _ rfl hcl hQl (by simp [hPl, hz, Nat.succ_mul]) rfl]
  rw [List.set_cons_zero, El _ _ (by omega)]
  have ih := Xt enc k z hz hw hc h0 ⟨i, hi, rfl⟩ hfl hh L hL l hto hlen r (pre ++ [x]) m (by rw [hl]; simp) (by simpa using hm)
  have e1 : (List.replicate (pre ++ [x]).length i.cty).flatten = (List.replicate pre.length i.cty).flatten ++ i.cty := by
   rw [List.length_append, List.length_singleton, List.replicate_succ', List.flatten_append]; simp
  have e2 : ((pre ++ [x]).map enc).flatten = (pre.map enc).flatten ++ enc x := by simp
  rw [e1, e2, hJ] at ih
  have e3 : Ee (P.1 ++ (List.replicate (x :: r).length z).flatten) (0 + pre.length * w) Q.1 = P.1 ++ Q.1 ++ (List.replicate r.length z).flatten := by
   rw [List.length_cons, List.replicate_succ, List.flatten_cons, Nat.zero_add, ← hPl, L3 _ _ _ _ (by rw [hz, hQl]), List.append_assoc]
  simp only [e3]
  rw [List.length_append, List.length_singleton] at ih
  exact ih
theorem Qu {α : Type} {n te tyS f g w bytes : Nat} {cty : List Nat} (enc : α → List AV) (z : List AV) (hz : z.length = w) (hw : ∀ x, (enc x).length = w) (hc : cty.length = w) (h0 : 0 < w)
  (hty : ∃ i j, As tyS = some i ∧ As i.elem = some j ∧ j.size = w ∧ j.cty = cty) (hte : ∃ i, As te = some i ∧ i.cty = cty) (hfl : ∀ x, (enc x).all F4 = true) (hh : Di g = false) (L : (AV → Af → Option AV) → Nat → AV → AV → AV → Af → Option AV)
  (hL : ∀ k m a o i H, L k (m + 1) a o i H = Gg a fun t10 => Cg .lss i t10 fun t11 => Cy t11 (C4 w a i fun t18 => Bz true w t18 H fun t19 => (PR n AV).call te (.fn g [] []) [t19] H fun t20 H => C4 w o i fun t21 => D0 w t21 t20 H fun H => Cg .add i (.sc (.int .i64 1)) fun t13 => L k m a o t13 H) (k o H))
  (hF : ∀ a H k, Ds E0 (n + 1) AV f [a] H k = Gg a fun t6 => Oc w bytes z t6 t6 H fun t7 H => L k n a t7 (.sc (.int .i64 0)) H)
  (hby : bytes ≤ 134217728) (l : List α) (hto : ∀ x ∈ l, Bv E0 n te g [.agg (enc x)] = some (.agg (enc x))) (hok : ∀ x ∈ l, Gf (Ht As E0.tp 7) cty (enc x)) (hlen : l.length ≤ 1048576) (hn : 1048576 < n) :
  Bv E0 (n + 1) tyS f [.ro l.length (l.map enc).flatten] = some (.ro l.length (l.map enc).flatten) := by
 rw [Av, hF, C8]
 have hb : l.length * bytes ≤ 140737488355328 := Nat.le_trans (Nat.mul_le_mul hlen hby) (by decide)
 simp only [Oc, Uj, Option.bind_some, if_true, Int.toNat_natCast, hb, Int.natCast_nonneg, F6, List.length_nil, List.nil_append]
 have key := Xt (n := n) (te := te) (g := g) (cty := cty) enc (fun x H => A7 As E0.tp tyS H x) z hz hw hc h0 hte hfl hh _ (hL _) l hto hlen l [] n (by simp) (by omega)
 simp only [List.length_nil, List.replicate_zero, List.flatten_nil, List.map_nil, Bh, List.nil_append, Int.natCast_zero] at key
 refine key.trans ?_
 obtain ⟨i, j, h1, h2, h3, rfl⟩ := hty
 have hok' : Ht As E0.tp 8 tyS (.ro l.length (l.map enc).flatten) := ⟨i, j, h1, h2, by rw [K4 hw, h3], Lf l hok⟩
 have := Sv [] tyS _ hok'
 simp only [B6, h1, h2, Option.bind_some, Option.getD_some, List.length_nil, List.nil_append, Nat.zero_add, h3] at this
 exact this
theorem Rf {α : Type} {n : Nat} (e : α → Value) (k : KO β) (z : AV) (hlf : ∀ x, Kx (e x) = true) (L : Nat → AV → AV → KO β)
  (hL : ∀ m a o i H, L (m + 1) a o i H = Gg a fun t10 => Cg .lss i t10 fun t11 => Cy t11 (C4 1 a i fun t18 => Bz false 1 t18 H fun t19 => C4 1 o i fun t21 => D0 1 t21 t19 H fun H => Cg .add i (.sc (.int .i64 1)) fun t13 => L m a o t13 H) (k o H))
  (l : List α) (hlen : l.length ≤ 1048576) : ∀ (r pre : List α) (m : Nat), l = pre ++ r → r.length < m →
   L m (.ro l.length (l.map fun x => .sc (e x))) (.sl 0 0 l.length 1) (.sc (.int .i64 pre.length)) [⟨(pre.map fun x => .sc (e x)) ++ List.replicate r.length z, true, true⟩]
    = k (.sl 0 0 l.length 1) [⟨l.map fun x => .sc (e x), true, true⟩]
 | [], pre, m + 1, hl, hm => by
  rw [List.append_nil] at hl
  subst hl
  rw [hL, C8, Eh, Cf]
  simp
 | x :: r, pre, m + 1, hl, hm => by
  have hlt : pre.length < l.length := by rw [hl]; simp
  rw [hL, C8, Eh, Cf, if_pos (by simpa using hlt)]
  rw [Lc 1 _ _ pre.length _ hlt (by simpa using hlt)]
  have hd : (l.map fun x => AV.sc (e x)).drop (pre.length * 1) = .sc (e x) :: r.map fun x => .sc (e x) := by
   rw [Nat.mul_one, hl, List.map_append, List.drop_append_of_le_length (by simp)]
   rw [show pre.length = (pre.map fun x => AV.sc (e x)).length by simp, List.drop_length]
   rfl
  rw [hd, Kw, Sl 1 _ _ _ _ _ hlt]
  have hc : Dq (.sc (e x)) = some [.sc (e x)] := by
   show Dq (.sc (e x)) = _
   simp only [Dq, Cp, hlf, if_true]
  rw [Ry 1 0 (0 + pre.length * 1) (.sc (e x)) ⟨(pre.map fun x => .sc (e x)) ++ List.replicate (x :: r).length z, true, true⟩ [.sc (e x)] _ _ rfl hc rfl (by simp) rfl]
  rw [List.set_cons_zero, El _ _ (by omega)]
  have ih := Rf (n := n) e k z hlf L hL l hlen r (pre ++ [x]) m (by rw [hl]; simp) (by simpa using hm)
  have e3 : Ee ((pre.map fun x => AV.sc (e x)) ++ List.replicate (x :: r).length z) (0 + pre.length * 1) [.sc (e x)] = ((pre ++ [x]).map fun x => AV.sc (e x)) ++ List.replicate r.length z := by
   have := L3 (pre.map fun x => AV.sc (e x)) [z] (List.replicate r.length z) [.sc (e x)] rfl
   rw [List.length_map] at this
   rw [List.length_cons, List.replicate_succ, Nat.zero_add, Nat.mul_one]
   refine this.trans ?_
   simp
  simp only [e3]
  rw [List.length_append, List.length_singleton] at ih
  exact ih
theorem S2 {α : Type} {n tyS f bytes : Nat} (e : α → Value) (z : AV) (hlf : ∀ x, Kx (e x) = true) (hty : ∃ i j, As tyS = some i ∧ As i.elem = some j ∧ j.size = 1 ∧ j.cty.length = 1) (L : (AV → Af → Option AV) → Nat → AV → AV → AV → Af → Option AV)
  (hL : ∀ k m a o i H, L k (m + 1) a o i H = Gg a fun t10 => Cg .lss i t10 fun t11 => Cy t11 (C4 1 a i fun t18 => Bz false 1 t18 H fun t19 => C4 1 o i fun t21 => D0 1 t21 t19 H fun H => Cg .add i (.sc (.int .i64 1)) fun t13 => L k m a o t13 H) (k o H))
  (hF : ∀ a H k, Ds E0 (n + 1) AV f [a] H k = Gg a fun t6 => Oc 1 bytes [z] t6 t6 H fun t7 H => L k n a t7 (.sc (.int .i64 0)) H)
  (hby : bytes ≤ 134217728) (l : List α) (hlen : l.length ≤ 1048576) (hn : 1048576 < n) :
  Bv E0 (n + 1) tyS f [.ro l.length (l.map fun x => .sc (e x))] = some (.ro l.length (l.map fun x => .sc (e x))) := by
 rw [Av, hF, C8]
 have hb : l.length * bytes ≤ 140737488355328 := Nat.le_trans (Nat.mul_le_mul hlen hby) (by decide)
 have hz : (List.replicate l.length [z]).flatten = List.replicate l.length z := by
  generalize l.length = m
  induction m with
  | zero => rfl
  | succ m ih => rw [List.replicate_succ, List.flatten_cons, ih, List.replicate_succ]; rfl
 simp only [Oc, Uj, Option.bind_some, if_true, Int.toNat_natCast, hb, Int.natCast_nonneg, F6, List.length_nil, List.nil_append, hz]
 have key := Rf (n := n) e (fun x H => A7 As E0.tp tyS H x) z hlf _ (hL _) l hlen l [] n (by simp) (by omega)
 simp only [List.length_nil, List.map_nil, List.nil_append, Int.natCast_zero] at key
 refine key.trans ?_
 obtain ⟨i, j, h1, h2, h3, h4⟩ := hty
 have em : (l.map fun x => AV.sc (e x)) = (l.map e).map AV.sc := by rw [List.map_map]; rfl
 have hl1 : (List.replicate l.length j.cty).flatten.length = (l.map e).length := by simp [h4]
 have e3 := Xm (ti := As) (tp := E0.tp) (H := [⟨l.map fun x => AV.sc (e x), true, true⟩]) (d := 6) _ _ hl1
 have e2 : Aw [⟨l.map fun x => AV.sc (e x), true, true⟩] 0 0 (l.length * 1) = some (l.map fun x => AV.sc (e x)) := by
  simp [Aw, List.take_of_length_le]
 rw [A7, Hp]
 simp only [h1, h2, h3, Option.bind_some, if_true, e2, Il, List.getElem?_cons_zero]
 rw [em] at e3 ⊢
 rw [e3]
 rfl
theorem Wn {α : Type} {n tb g w : Nat} (enc : α → List AV) (k : KO β) (hw : ∀ x, (enc x).length = w) (h0 : 0 < w) (hfl : ∀ x, (enc x).all F4 = true) (hh : Di g = false) (L : Nat → AV → AV → KO β)
  (hL : ∀ m a b i H, L (m + 1) a b i H = Gg a fun t13 => Cg .lss i t13 fun t14 => Cy t14 (C4 w a i fun t19 => Bz true w t19 H fun t20 => C4 w b i fun t23 => Bz true w t23 H fun t24 => (PR n β).call tb (.fn g [] []) [t20, t24] H fun t25 H => pUn .not t25 fun t26 => Cy t26 (k (.sc (.bool false)) H) (Cg .add i (.sc (.int .i64 1)) fun t16 => L m a b t16 H)) (k (.sc (.bool true)) H))
  (l : List α) (heq : ∀ x ∈ l, Bv E0 n tb g [.agg (enc x), .agg (enc x)] = some (.sc (.bool true))) (hlen : l.length ≤ 1048576) (H : Af) : ∀ (r pre : List α) (m : Nat), l = pre ++ r → r.length < m →
   L m (.ro l.length (l.map enc).flatten) (.ro l.length (l.map enc).flatten) (.sc (.int .i64 pre.length)) H = k (.sc (.bool true)) H
 | [], pre, m + 1, hl, hm => by
  rw [List.append_nil] at hl
  subst hl
  rw [hL, C8, Eh, Cf]
  simp
 | x :: r, pre, m + 1, hl, hm => by
  have hlt : pre.length < l.length := by rw [hl]; simp
  rw [hL, C8, Eh, Cf, if_pos (by simpa using hlt)]
  have hel := fun k => O7 (β := β) hw h0 pre x r k
  rw [← hl] at hel
  rw [hel, P1 w _ _ _ _ (hw x), hel, P1 w _ _ _ _ (hw x)]
  rw [Et (vs := [.agg (enc x), .agg (enc x)]) hh (by simp only [List.mapM_cons, (Hv _ (hfl x)).now]; rfl) (heq x (by rw [hl]; simp))]
  rw [Ey]
  simp only [pUn, Bool.not_true, List.append_nil]
  rw [Cf, if_neg (by simp), El _ _ (by omega)]
  have ih := Wn enc k hw h0 hfl hh L hL l heq hlen H r (pre ++ [x]) m (by rw [hl]; simp) (by simpa using hm)
  rw [List.length_append, List.length_singleton] at ih
  exact ih
theorem Mp (a b : Nat) (k : AV → Option β) : Cg .neq (.sc (.int .i64 a)) (.sc (.int .i64 b)) k = k (.sc (.bool (decide (a ≠ b)))) := by
 show k (.sc (.bool ((a : Int) != (b : Int)))) = _
 congr 3
 by_cases h : a = b
 ·subst h; simp
 ·simp [bne, h]; omega
theorem Pa {α : Type} {n tb f g w : Nat} (enc : α → List AV) (hw : ∀ x, (enc x).length = w) (h0 : 0 < w) (hfl : ∀ x, (enc x).all F4 = true) (hh : Di g = false) (L : (AV → Af → Option AV) → Nat → AV → AV → AV → Af → Option AV)
  (hL : ∀ k m a b i H, L k (m + 1) a b i H = Gg a fun t13 => Cg .lss i t13 fun t14 => Cy t14 (C4 w a i fun t19 => Bz true w t19 H fun t20 => C4 w b i fun t23 => Bz true w t23 H fun t24 => (PR n AV).call tb (.fn g [] []) [t20, t24] H fun t25 H => pUn .not t25 fun t26 => Cy t26 (k (.sc (.bool false)) H) (Cg .add i (.sc (.int .i64 1)) fun t16 => L k m a b t16 H)) (k (.sc (.bool true)) H))
  (hF : ∀ a b H k, Ds E0 (n + 1) AV f [a, b] H k = Gg a fun t7 => Gg b fun t9 => Cg .neq t7 t9 fun t10 => Cy t10 (k (.sc (.bool false)) H) (L k n a b (.sc (.int .i64 0)) H))
  (l : List α) (heq : ∀ x ∈ l, Bv E0 n tb g [.agg (enc x), .agg (enc x)] = some (.sc (.bool true))) (hlen : l.length ≤ 1048576) (hn : 1048576 < n) (tb' : Nat) :
  Bv E0 (n + 1) tb' f [.ro l.length (l.map enc).flatten, .ro l.length (l.map enc).flatten] = some (.sc (.bool true)) := by
 rw [Av, hF, C8, C8, Mp, Cf, if_neg (by simp)]
 have key := Wn (n := n) (tb := tb) (g := g) enc (fun x H => A7 As E0.tp tb' H x) hw h0 hfl hh (L fun x H => A7 As E0.tp tb' H x) (hL fun x H => A7 As E0.tp tb' H x) l heq hlen [] l [] n (by simp) (by omega)
 simp only [List.length_nil, Int.natCast_zero] at key
 rw [key]
 rfl
theorem Tn {α : Type} {n : Nat} (e : α → Value) (k : KO β) (hne : ∀ (x : α) (γ : Type) (k : AV → Option γ), Cg .neq (.sc (e x)) (.sc (e x)) k = k (.sc (.bool false))) (L : Nat → AV → AV → KO β)
  (hL : ∀ m a b i H, L (m + 1) a b i H = Gg a fun t13 => Cg .lss i t13 fun t14 => Cy t14 (C4 1 a i fun t19 => Bz false 1 t19 H fun t20 => C4 1 b i fun t23 => Bz false 1 t23 H fun t24 => Cg .neq t20 t24 fun t25 => Cy t25 (k (.sc (.bool false)) H) (Cg .add i (.sc (.int .i64 1)) fun t16 => L m a b t16 H)) (k (.sc (.bool true)) H))
  (l : List α) (hlen : l.length ≤ 1048576) (H : Af) : ∀ (r pre : List α) (m : Nat), l = pre ++ r → r.length < m →
   L m (.ro l.length (l.map fun x => .sc (e x))) (.ro l.length (l.map fun x => .sc (e x))) (.sc (.int .i64 pre.length)) H = k (.sc (.bool true)) H
 | [], pre, m + 1, hl, hm => by
  rw [List.append_nil] at hl
  subst hl
  rw [hL, C8, Eh, Cf]
  simp
 | x :: r, pre, m + 1, hl, hm => by
  have hlt : pre.length < l.length := by rw [hl]; simp
  rw [hL, C8, Eh, Cf, if_pos (by simpa using hlt)]
  have hd : (l.map fun x => AV.sc (e x)).drop (pre.length * 1) = .sc (e x) :: r.map fun x => .sc (e x) := by
   rw [Nat.mul_one, hl, List.map_append, List.drop_append_of_le_length (by simp)]
   rw [show pre.length = (pre.map fun x => AV.sc (e x)).length by simp, List.drop_length]
   rfl
  rw [Lc 1 _ _ pre.length _ hlt (by simpa using hlt), hd, Kw, Lc 1 _ _ pre.length _ hlt (by simpa using hlt), hd, Kw, hne, Cf, if_neg (by simp), El _ _ (by omega)]
  have ih := Tn (n := n) e k hne L hL l hlen H r (pre ++ [x]) m (by rw [hl]; simp) (by simpa using hm)
  rw [List.length_append, List.length_singleton] at ih
  exact ih
theorem R8 {α : Type} {n f : Nat} (e : α → Value) (hne : ∀ (x : α) (γ : Type) (k : AV → Option γ), Cg .neq (.sc (e x)) (.sc (e x)) k = k (.sc (.bool false))) (L : (AV → Af → Option AV) → Nat → AV → AV → AV → Af → Option AV)
  (hL : ∀ k m a b i H, L k (m + 1) a b i H = Gg a fun t13 => Cg .lss i t13 fun t14 => Cy t14 (C4 1 a i fun t19 => Bz false 1 t19 H fun t20 => C4 1 b i fun t23 => Bz false 1 t23 H fun t24 => Cg .neq t20 t24 fun t25 => Cy t25 (k (.sc (.bool false)) H) (Cg .add i (.sc (.int .i64 1)) fun t16 => L k m a b t16 H)) (k (.sc (.bool true)) H))
  (hF : ∀ a b H k, Ds E0 (n + 1) AV f [a, b] H k = Gg a fun t7 => Gg b fun t9 => Cg .neq t7 t9 fun t10 => Cy t10 (k (.sc (.bool false)) H) (L k n a b (.sc (.int .i64 0)) H))
  (l : List α) (hlen : l.length ≤ 1048576) (hn : 1048576 < n) (tb' : Nat) :
  Bv E0 (n + 1) tb' f [.ro l.length (l.map fun x => .sc (e x)), .ro l.length (l.map fun x => .sc (e x))] = some (.sc (.bool true)) := by
 rw [Av, hF, C8, C8, Mp, Cf, if_neg (by simp)]
 have key := Tn (n := n) e (fun x H => A7 As E0.tp tb' H x) hne (L fun x H => A7 As E0.tp tb' H x) (hL fun x H => A7 As E0.tp tb' H x) l hlen [] l [] n (by simp) (by omega)
 simp only [List.length_nil, Int.natCast_zero] at key
 rw [key]
 rfl
def Fz (w : Nat) (left : Int) : Int := if left < w then -1 else left - w
def Om {α : Type} (wt : α → Nat) : List α → Nat
 | [] => 0
 | x :: l => 1 + wt x + Om wt l
def On {α : Type} (wt : α → Nat) : List α → Nat
 | [] => 0
 | x :: l => wt x + On wt l
theorem Fc {α : Type} (wt : α → Nat) : ∀ l : List α, Om wt l = l.length + On wt l
 | [] => rfl
 | x :: l => by rw [Om, On, Fc wt l, List.length_cons]; omega
theorem Gu {α : Type} {wt : α → Nat} : ∀ {l : List α} {x : α}, x ∈ l → wt x ≤ On wt l
 | y :: l, x, h => by
  rw [On]
  rcases List.mem_cons.1 h with rfl | h
  ·omega
  ·have := Gu (wt := wt) h
   omega
theorem Xr {α : Type} {n ty g w : Nat} (enc : α → List AV) (wt : α → Nat) (k : KO β) (hw : ∀ x, (enc x).length = w) (h0 : 0 < w) (hfl : ∀ x, (enc x).all F4 = true) (hh : Di g = false) (L : Nat → AV → AV → KO β)
  (hL : ∀ m a l i H, L (m + 1) a l i H = Gg a fun t14 => Cg .lss i t14 fun t15 => Cy t15 (C4 w a i fun t20 => Bz true w t20 H fun t21 => (PR n β).call ty (.fn g [] []) [t21, l] H fun t23 H => Cg .lss t23 (.sc (.int .i64 0)) fun t25 => Cy t25 (k (.sc (.int .i64 (-1))) H) (Cg .add i (.sc (.int .i64 1)) fun t17 => L m a t23 t17 H)) (k l H))
  (l : List α) (hsz : ∀ x ∈ l, ∀ left : Int, 0 ≤ left → left ≤ 1048576 → Bv E0 n ty g [.agg (enc x), .sc (.int .i64 left)] = some (.sc (.int .i64 (Fz (wt x) left)))) (hlen : l.length ≤ 1048576) (H : Af) : ∀ (r pre : List α) (m : Nat) (left : Int), 0 ≤ left → left ≤ 1048576 → l = pre ++ r → r.length < m →
   L m (.ro l.length (l.map enc).flatten) (.sc (.int .i64 left)) (.sc (.int .i64 pre.length)) H = k (.sc (.int .i64 (Fz (On wt r) left))) H
 | [], pre, m + 1, left, hl0, hl1, hl, hm => by
  rw [List.append_nil] at hl
  subst hl
  rw [hL, C8, Eh, Cf]
  have : Fz (On wt []) left = left := by simp [Fz, On]; omega
  rw [this]
  simp
 | x :: r, pre, m + 1, left, hl0, hl1, hl, hm => by
  have hlt : pre.length < l.length := by rw [hl]; simp
  rw [hL, C8, Eh, Cf, if_pos (by simpa using hlt)]
  have hel := fun k => O7 (β := β) hw h0 pre x r k
  rw [← hl] at hel
  rw [hel, P1 w _ _ _ _ (hw x)]
  rw [Et (vs := [.agg (enc x), .sc (.int .i64 left)]) hh (by simp only [List.mapM_cons, (Hv _ (hfl x)).now]; rfl) (hsz x (by rw [hl]; simp) left hl0 hl1)]
  rw [Ey]
  simp only [List.append_nil]
  rw [Ja, Cf]
  by_cases hs : left < wt x
  ·have e1 : Fz (wt x) left = -1 := by simp [Fz, hs]
   have e2 : Fz (On wt (x :: r)) left = -1 := by
    rw [On, Fz, if_pos]; omega
   rw [e1, e2]
   simp
  ·have e1 : Fz (wt x) left = left - wt x := by simp [Fz, hs]
   have e2 : Fz (On wt (x :: r)) left = Fz (On wt r) (left - wt x) := by
    unfold Fz
    rw [On]
    by_cases h : left < ((wt x + On wt r : Nat) : Int)
    ·rw [if_pos h, if_pos (by omega)]
    ·rw [if_neg h, if_neg (by omega)]; omega
   rw [e1, e2, if_neg (by simp; omega), El _ _ (by omega)]
   have ih := Xr enc wt k hw h0 hfl hh L hL l hsz hlen H r (pre ++ [x]) m (left - wt x) (by omega) (by omega) (by rw [hl]; simp) (by simpa using hm)
   rw [List.length_append, List.length_singleton] at ih
   exact ih
theorem Qs {α : Type} {n ty f g w : Nat} (enc : α → List AV) (wt : α → Nat) (hw : ∀ x, (enc x).length = w) (h0 : 0 < w) (hfl : ∀ x, (enc x).all F4 = true) (hh : Di g = false) (L : (AV → Af → Option AV) → Nat → AV → AV → AV → Af → Option AV)
  (hL : ∀ k m a l i H, L k (m + 1) a l i H = Gg a fun t14 => Cg .lss i t14 fun t15 => Cy t15 (C4 w a i fun t20 => Bz true w t20 H fun t21 => (PR n AV).call ty (.fn g [] []) [t21, l] H fun t23 H => Cg .lss t23 (.sc (.int .i64 0)) fun t25 => Cy t25 (k (.sc (.int .i64 (-1))) H) (Cg .add i (.sc (.int .i64 1)) fun t17 => L k m a t23 t17 H)) (k l H))
  (hF : ∀ a b H k, Ds E0 (n + 1) AV f [a, b] H k = Gg a fun t8 => Cg .sub b t8 fun t9 => Cg .lss t9 (.sc (.int .i64 0)) fun t11 => Cy t11 (k (.sc (.int .i64 (-1))) H) (L k n a t9 (.sc (.int .i64 0)) H))
  (l : List α) (hsz : ∀ x ∈ l, ∀ left : Int, 0 ≤ left → left ≤ 1048576 → Bv E0 n ty g [.agg (enc x), .sc (.int .i64 left)] = some (.sc (.int .i64 (Fz (wt x) left)))) (hmax : l.length ≤ 9223372036854775807) (hn : 1048576 < n) (left : Int) (hl0 : 0 ≤ left) (hl1 : left ≤ 1048576) (ty' : Nat) :
  Bv E0 (n + 1) ty' f [.ro l.length (l.map enc).flatten, .sc (.int .i64 left)] = some (.sc (.int .i64 (Fz (Om wt l) left))) := by
 rw [Av, hF, C8, Kh _ _ _ (by omega) (by omega), Ja, Cf]
 by_cases h : left - (l.length : Int) < 0
 ·have e : Fz (Om wt l) left = -1 := by rw [Fc, Fz, if_pos]; omega
  rw [if_pos (by simpa using h), e]
  rfl
 ·have e : Fz (Om wt l) left = Fz (On wt l) (left - l.length) := by
   rw [Fc]
   unfold Fz
   by_cases h : left < ((l.length + On wt l : Nat) : Int)
   ·rw [if_pos h, if_pos (by omega)]
   ·rw [if_neg h, if_neg (by omega)]; omega
  rw [if_neg (by simpa using h), e]
  have key := Xr (n := n) (ty := ty) (g := g) enc wt (fun x H => A7 As E0.tp ty' H x) hw h0 hfl hh (L fun x H => A7 As E0.tp ty' H x) (hL fun x H => A7 As E0.tp ty' H x) l hsz (by omega) [] l [] n (left - l.length) (by omega) (by omega) (by simp) (by omega)
  simp only [List.length_nil, Int.natCast_zero] at key
  rw [key]
  rfl
theorem Aca {n f : Nat} (hF : ∀ a b H k, Ds E0 (n + 1) AV f [a, b] H k = Gg a fun t8 => Cg .sub b t8 fun t9 => Cg .lss t9 (.sc (.int .i64 0)) fun t11 => Cy t11 (k (.sc (.int .i64 (-1))) H) (k t9 H))
  (len : Nat) (cells : List AV) (hmax : len ≤ 9223372036854775807) (left : Int) (hl0 : 0 ≤ left) (hl1 : left ≤ 1048576) (ty' : Nat) :
  Bv E0 (n + 1) ty' f [.ro len cells, .sc (.int .i64 left)] = some (.sc (.int .i64 (Fz len left))) := by
 rw [Av, hF, C8, Kh _ _ _ (by omega) (by omega), Ja, Cf]
 by_cases h : left - (len : Int) < 0
 ·have e : Fz len left = -1 := by rw [Fz, if_pos]; omega
  rw [if_pos (by simpa using h), e]
  rfl
 ·have e : Fz len left = left - len := by rw [Fz, if_neg]; omega
  rw [if_neg (by simpa using h), e]
  rfl
end ops
end
section
open Go
variable {β : Type} {n : Nat}
theorem Ec (cs : List AV) (H : Af) (k : KO β) (h : cs.all F4 = true) : T2 (.agg cs) H k = k (.ptr H.length 0) (H ++ [⟨cs, true, true⟩]) := by
 rw [T2, Tp h]
 rfl
theorem ldT {m id off : Nat} {H : Af} {cs : List AV} (h : Aw H id off m = some cs) (k : AV → Option β) : Bz true m (.ptr id off) H k = k (.agg cs) := by
 simp only [Bz, h, Option.bind_some, if_true]
theorem ldF {id off : Nat} {H : Af} {c : AV} (h : Aw H id off 1 = some [c]) (k : AV → Option β) : Bz false 1 (.ptr id off) H k = k c := by
 simp only [Bz, h, Option.bind_some, Bool.false_eq_true, if_false, one]
noncomputable def M8 (b0 b1 : Gw) (ts : List Nat) (cs z : List AV) : Af := b0 :: b1 :: ⟨(Bh As E0.tp 3 ts cs).1 ++ z, true, true⟩ :: (Bh As E0.tp 3 ts cs).2
theorem Vq {b0 b1 : Gw} {ts : List Nat} {cs z0 z : List AV} {w o : Nat} {y : AV} {ys : List AV} {B : List Gw} {ts' : List Nat} {cs' : List AV} (hl : ts.length = cs.length) (ho : o = cs.length) (hw : z0.length = w) (hc : Dq y = some ys) (hy : ys.length = w)
  (hB : Bh As E0.tp (3 + (Bh As E0.tp 3 ts cs).2.length) ts' cs' = (ys, B)) (K : Af → Option β) :
  D0 w (.ptr 2 o) y (M8 b0 b1 ts cs (z0 ++ z) ++ B) K = K (M8 b0 b1 (ts ++ ts') (cs ++ cs') z) := by
 have hP : (Bh As E0.tp 3 ts cs).1.length = cs.length := Gb _ _ _
 rw [Ry w 2 o y ⟨(Bh As E0.tp 3 ts cs).1 ++ (z0 ++ z), true, true⟩ ys _ _ rfl hc hy (by simp [hP, ho, hw]) rfl]
 congr 1
 have hs : Ee ((Bh As E0.tp 3 ts cs).1 ++ (z0 ++ z)) o ys = (Bh As E0.tp 3 ts cs).1 ++ (ys ++ z) := by
  rw [ho, ← hP]
  exact L3 _ _ _ _ (by rw [hw, hy])
 simp only [M8, List.cons_append, List.set_cons_succ, List.set_cons_zero, hs, J2 ts cs ts' cs' 3 hl, hB, List.append_assoc]
theorem AgI {b0 b1 : Gw} {ts : List Nat} {cs z z' : List AV} {o : Nat} {t : Nat} {v : Value} {c : AV} {K : Af → Option β} {r : Option β} (hr : Aw (M8 b0 b1 ts cs z) 0 o 1 = some [.sc v]) (hv : Kx v = true) (hl : ts.length = cs.length) (ho : o = cs.length) (hz : z = c :: z')
  (h : K (M8 b0 b1 (ts ++ [t]) (cs ++ [.sc v]) z') = r) :
  (Db o (.ptr 0 0) fun t4 => Bz false 1 t4 (M8 b0 b1 ts cs z) fun t5 => Db o (.ptr 2 0) fun t6 => D0 1 t6 t5 (M8 b0 b1 ts cs z) fun H => K H) = r := by
 subst hz
 simp only [Db, Nat.zero_add]
 rw [ldF hr]
 have := Vq (β := β) (b0 := b0) (b1 := b1) (ts := ts) (cs := cs) (z0 := [c]) (z := z') (w := 1) (o := o) (y := .sc v) (ys := [.sc v]) (B := []) (ts' := [t]) (cs' := [.sc v]) hl ho rfl (by simp only [Dq, Cp, hv, if_true]) rfl (by simp [Bh, B6]) K
 rw [List.append_nil] at this
 exact this.trans h
theorem AgH {b0 b1 : Gw} {ts : List Nat} {cs z z' : List AV} {o t g len : Nat} {c : AV} {cells : List AV} {K : Af → Option β} {r : Option β} (hr : Aw (M8 b0 b1 ts cs z) 0 o 1 = some [.ro len cells]) (hh : Di g = false) (ht : Bv E0 n t g [.ro len cells] = some (.ro len cells)) (hl : ts.length = cs.length) (ho : o = cs.length) (hz : z = c :: z')
  (h : K (M8 b0 b1 (ts ++ [t]) (cs ++ [.ro len cells]) z') = r) :
  (Db o (.ptr 0 0) fun t4 => Bz false 1 t4 (M8 b0 b1 ts cs z) fun t5 => (PR n β).call t (.fn g [] []) [t5] (M8 b0 b1 ts cs z) fun t9 H => Db o (.ptr 2 0) fun t6 => D0 1 t6 t9 H fun H => K H) = r := by
 subst hz
 simp only [Db, Nat.zero_add]
 rw [ldF hr, Et (vs := [.ro len cells]) hh (by simp only [List.mapM_cons, Qz]; rfl) ht]
 have hH : (M8 b0 b1 ts cs (c :: z')).length = 3 + (Bh As E0.tp 3 ts cs).2.length := by simp [M8]; omega
 rw [hH]
 have hi : ∀ N, ∃ s : AV, Cp s = true ∧ (B6 As E0.tp N t (.ro len cells)).1 = s ∧ Dq s = some [s] := fun N => by
  refine ⟨_, ?_, rfl, ?_⟩ <;> simp [B6, Cp, Dq]
 obtain ⟨s, _, hs, hc⟩ := hi (3 + (Bh As E0.tp 3 ts cs).2.length)
 have := Vq (β := β) (b0 := b0) (b1 := b1) (ts := ts) (cs := cs) (z0 := [c]) (z := z') (w := 1) (o := o) (y := s) (ys := [s]) (ts' := [t]) (cs' := [.ro len cells]) (B := (B6 As E0.tp (3 + (Bh As E0.tp 3 ts cs).2.length) t (.ro len cells)).2) hl ho rfl hc rfl (by simp only [Bh, List.headD_cons, List.append_nil, hs]) K
 rw [hs]
 exact this.trans h
theorem Agg {b0 b1 : Gw} {ts cty : List Nat} {cs z z0 z' : List AV} {o t g w : Nat} {cells : List AV} {K : Af → Option β} {r : Option β} (hr : Aw (M8 b0 b1 ts cs z) 0 o w = some cells) (hh : Di g = false) (hfl : cells.all F4 = true) (ht : Bv E0 n t g [.agg cells] = some (.agg cells)) (hty : ∃ i, As t = some i ∧ i.cty = cty) (hw : cells.length = w) (hl : ts.length = cs.length) (ho : o = cs.length) (hz : z = z0 ++ z') (hz0 : z0.length = w)
  (h : K (M8 b0 b1 (ts ++ cty) (cs ++ cells) z') = r) :
  (Db o (.ptr 0 0) fun t4 => Bz true w t4 (M8 b0 b1 ts cs z) fun t5 => (PR n β).call t (.fn g [] []) [t5] (M8 b0 b1 ts cs z) fun t9 H => Db o (.ptr 2 0) fun t6 => D0 w t6 t9 H fun H => K H) = r := by
 subst hz
 obtain ⟨i, hi, rfl⟩ := hty
 simp only [Db, Nat.zero_add]
 rw [ldT hr, Et (vs := [.agg cells]) hh (by rw [List.mapM_cons, (Hv _ hfl).now]; rfl) ht]
 have hH : (M8 b0 b1 ts cs (z0 ++ z')).length = 3 + (Bh As E0.tp 3 ts cs).2.length := by simp [M8]; omega
 rw [hH, Hs, hi, Option.getD_some]
 have hleaf := H3 (ti := As) (tp := E0.tp) cells (3 + (Bh As E0.tp 3 ts cs).2.length) i.cty hfl
 have hlen := Gb (ti := As) (tp := E0.tp) (3 + (Bh As E0.tp 3 ts cs).2.length) i.cty cells
 have := Vq (β := β) (b0 := b0) (b1 := b1) (ts := ts) (cs := cs) (z0 := z0) (z := z') (w := w) (o := o) (y := .agg (Bh As E0.tp (3 + (Bh As E0.tp 3 ts cs).2.length) i.cty cells).1) (ys := (Bh As E0.tp (3 + (Bh As E0.tp 3 ts cs).2.length) i.cty cells).1) (ts' := i.cty) (cs' := cells) (B := (Bh As E0.tp (3 + (Bh As E0.tp 3 ts cs).2.length) i.cty cells).2) hl ho hz0 (by
  show (if _ then _ else none) = _
  rw [if_pos hleaf]) (by rw [hlen, hw]) rfl K
 exact this.trans h
theorem Agh {b0 : Gw} {z1 cells : List AV} {cty : List Nat} {w ty : Nat} (hw : cells.length = w) (hz : z1.length = w) (hfl : cells.all F4 = true) (hty : ∃ i, As ty = some i ∧ i.cty = cty) (hok : Gf (Ht As E0.tp 7) cty cells) :
  (Bz true w (.ptr 2 0) (M8 b0 ⟨z1, true, true⟩ cty cells []) fun t14 => D0 w (.ptr 1 0) t14 (M8 b0 ⟨z1, true, true⟩ cty cells []) fun H => Bz true w (.ptr 1 0) H fun r0 => A7 As E0.tp ty H r0) = some (.agg cells) := by
 obtain ⟨i, hi, rfl⟩ := hty
 have hlen := Gb (ti := As) (tp := E0.tp) 3 i.cty cells
 have hleaf := H3 (ti := As) (tp := E0.tp) cells 3 i.cty hfl
 have h1 : Aw (M8 b0 ⟨z1, true, true⟩ i.cty cells []) 2 0 w = some (Bh As E0.tp 3 i.cty cells).1 := by
  simp [Aw, M8, hlen, hw, List.take_of_length_le]
 rw [ldT h1]
 have hc : Dq (.agg (Bh As E0.tp 3 i.cty cells).1) = some (Bh As E0.tp 3 i.cty cells).1 := by
  show (if _ then _ else none) = _
  rw [if_pos hleaf]
 rw [Ry w 1 0 _ ⟨z1, true, true⟩ _ _ _ rfl hc (by rw [hlen, hw]) (by simp [hz]) rfl]
 have hs : Ee z1 0 (Bh As E0.tp 3 i.cty cells).1 = (Bh As E0.tp 3 i.cty cells).1 := by
  unfold Ee
  rw [List.take_zero, List.nil_append, List.drop_of_length_le (by rw [hlen, hw, hz]; omega), List.append_nil]
 simp only [hs]
 have h2 : Aw ((M8 b0 ⟨z1, true, true⟩ i.cty cells []).set 1 ⟨(Bh As E0.tp 3 i.cty cells).1, true, true⟩) 1 0 w = some (Bh As E0.tp 3 i.cty cells).1 := by
  simp [Aw, M8, hlen, hw, List.take_of_length_le]
 rw [ldT h2]
 have hok' : Ht As E0.tp 8 ty (.agg cells) := ⟨i, hi, hok⟩
 have := Sv [b0, ⟨(Bh As E0.tp 3 i.cty cells).1, true, true⟩, ⟨(Bh As E0.tp 3 i.cty cells).1 ++ [], true, true⟩] ty _ hok'
 rw [Hs, hi] at this
 exact this
noncomputable def We (T : List Nat) (C Z : List AV) (o : Nat) : Af := M8 ⟨C, true, true⟩ ⟨Z, true, true⟩ (T.take o) (C.take o) (Z.drop o)
theorem Un {T : List Nat} {C Z : List AV} {o p w : Nat} {cs : List AV} (h : (C.drop p).take w = cs) (hl : cs.length = w) (hw : 0 < w) : Aw (We T C Z o) 0 p w = some cs := by
 have hle : p + w ≤ C.length := by
  have := congrArg List.length h
  rw [hl, List.length_take, List.length_drop] at this
  omega
 show (match (some ⟨C, true, true⟩ : Option Gw) with | some b => if b.live then (if p + w ≤ b.cells.length then some ((b.cells.drop p).take w) else none) else none | none => none) = _
 simp only [if_true, hle, h]
theorem Su {C : List AV} {o : Nat} {c : AV} (h : C[o]? = some c) : (C.drop o).take 1 = [c] := by
 obtain ⟨hlt, e⟩ := List.getElem?_eq_some_iff.1 h
 rw [List.drop_eq_getElem_cons hlt, e]
 rfl
theorem Ns {α : Type} {T : List α} {o w o' : Nat} {c : List α} (h : (T.drop o).take w = c) (ho : o' = o + w) : T.take o' = T.take o ++ c := by
 rw [ho, List.take_add, h]
theorem D8 {T : List Nat} {C Z : List AV} {o o' : Nat} {v : Value} {K : Af → Option β} {r : Option β} (hT : T.length = C.length) (hZ : Z.length = C.length) (hC : C[o]? = some (.sc v)) (hv : Kx v = true) (ho : o' = o + 1) (h : K (We T C Z o') = r) :
  (Db o (.ptr 0 0) fun t4 => Bz false 1 t4 (We T C Z o) fun t5 => Db o (.ptr 2 0) fun t6 => D0 1 t6 t5 (We T C Z o) fun H => K H) = r := by
 obtain ⟨hlt, _⟩ := List.getElem?_eq_some_iff.1 hC
 have hz : Z.drop o = Z[o]'(by omega) :: Z.drop o' := by rw [ho]; exact List.drop_eq_getElem_cons _
 refine AgI (t := T[o]'(by omega)) (z' := Z.drop o') (Un (Su hC) rfl (by decide)) hv (by simp [hT]) (by simp; omega) hz ?_
 have e1 : T.take o' = T.take o ++ [T[o]'(by omega)] := Ns (w := 1) (by rw [List.drop_eq_getElem_cons (by omega)]; rfl) ho
 have e2 : C.take o' = C.take o ++ [.sc v] := Ns (Su hC) ho
 rw [← e1, ← e2]
 exact h
theorem M3 {T : List Nat} {C Z : List AV} {o o' t g len : Nat} {cells : List AV} {K : Af → Option β} {r : Option β} (hT : T.length = C.length) (hZ : Z.length = C.length) (hC : C[o]? = some (.ro len cells)) (hTt : T[o]? = some t) (hh : Di g = false) (ht : Bv E0 n t g [.ro len cells] = some (.ro len cells)) (ho : o' = o + 1) (h : K (We T C Z o') = r) :
  (Db o (.ptr 0 0) fun t4 => Bz false 1 t4 (We T C Z o) fun t5 => (PR n β).call t (.fn g [] []) [t5] (We T C Z o) fun t9 H => Db o (.ptr 2 0) fun t6 => D0 1 t6 t9 H fun H => K H) = r := by
 obtain ⟨hlt, _⟩ := List.getElem?_eq_some_iff.1 hC
 obtain ⟨hlt2, hTe⟩ := List.getElem?_eq_some_iff.1 hTt
 have hz : Z.drop o = Z[o]'(by omega) :: Z.drop o' := by rw [ho]; exact List.drop_eq_getElem_cons _
 refine AgH (z' := Z.drop o') (Un (Su hC) rfl (by decide)) hh ht (by simp [hT]) (by simp; omega) hz ?_
 have e1 : T.take o' = T.take o ++ [t] := Ns (w := 1) (by rw [List.drop_eq_getElem_cons hlt2, hTe]; rfl) ho
 have e2 : C.take o' = C.take o ++ [.ro len cells] := Ns (Su hC) ho
 rw [← e1, ← e2]
 exact h
theorem AbT {T cty : List Nat} {C Z : List AV} {o o' t g w : Nat} {cells : List AV} {K : Af → Option β} {r : Option β} (hT : T.length = C.length) (hZ : Z.length = C.length) (hC : (C.drop o).take w = cells) (hTt : (T.drop o).take w = cty) (hh : Di g = false) (hfl : cells.all F4 = true) (ht : Bv E0 n t g [.agg cells] = some (.agg cells)) (hty : ∃ i, As t = some i ∧ i.cty = cty) (hw : cells.length = w) (hw0 : 0 < w) (ho : o' = o + w) (h : K (We T C Z o') = r) :
  (Db o (.ptr 0 0) fun t4 => Bz true w t4 (We T C Z o) fun t5 => (PR n β).call t (.fn g [] []) [t5] (We T C Z o) fun t9 H => Db o (.ptr 2 0) fun t6 => D0 w t6 t9 H fun H => K H) = r := by
 have hle : o + w ≤ C.length := by
  have := congrArg List.length hC
  rw [hw, List.length_take, List.length_drop] at this
  omega
 have hz : Z.drop o = (Z.drop o).take w ++ Z.drop o' := by
  rw [ho]
  conv => lhs; rw [← List.take_append_drop w (Z.drop o)]
  rw [List.drop_drop]
 refine Agg (z0 := (Z.drop o).take w) (z' := Z.drop o') (Un hC hw hw0) hh hfl ht hty hw (by simp [hT]) (by simp; omega) hz (by simp; omega) ?_
 have e1 : T.take o' = T.take o ++ cty := Ns hTt ho
 have e2 : C.take o' = C.take o ++ cells := Ns hC ho
 rw [← e1, ← e2]
 exact h
theorem Qp {T : List Nat} {C Z : List AV} {w ty : Nat} (hT : T.length = C.length) (hZ : Z.length = C.length) (hw : C.length = w) (hfl : C.all F4 = true) (hty : ∃ i, As ty = some i ∧ i.cty = T) (hok : Gf (Ht As E0.tp 7) T C) :
  (Bz true w (.ptr 2 0) (We T C Z w) fun t14 => D0 w (.ptr 1 0) t14 (We T C Z w) fun H => Bz true w (.ptr 1 0) H fun r0 => A7 As E0.tp ty H r0) = some (.agg C) := by
 have e : We T C Z w = M8 ⟨C, true, true⟩ ⟨Z, true, true⟩ T C [] := by
  unfold We
  rw [List.take_of_length_le (by omega), List.take_of_length_le (by omega), List.drop_of_length_le (by omega)]
 rw [e]
 exact Agh hw (by omega) hfl hty hok
theorem Fi {o : Nat} {H : Af} {v : Value} {A K r : Option β} (h0 : Aw H 0 o 1 = some [.sc v]) (h1 : Aw H 1 o 1 = some [.sc v]) (hv : ∀ k : AV → Option β, Cg .neq (.sc v) (.sc v) k = k (.sc (.bool false))) (h : K = r) :
  (Db o (.ptr 0 0) fun t5 => Bz false 1 t5 H fun t6 => Db o (.ptr 1 0) fun t7 => Bz false 1 t7 H fun t8 => Cg .neq t6 t8 fun t9 => Cy t9 A K) = r := by
 simp only [Db, Nat.zero_add]
 rw [ldF h0, ldF h1, hv, Cf]
 exact h
theorem R7 {o : Nat} {H : Af} {b : Bool} {A K r : Option β} (h0 : Aw H 0 o 1 = some [.sc (.bool b)]) (h1 : Aw H 1 o 1 = some [.sc (.bool b)]) (h : K = r) :
  (Db o (.ptr 0 0) fun t5 => Bz false 1 t5 H fun t6 => Db o (.ptr 1 0) fun t7 => Bz false 1 t7 H fun t8 => Kg .neq t6 t8 fun t9 => Cy t9 A K) = r := by
 simp only [Db, Nat.zero_add]
 rw [ldF h0, ldF h1]
 simp only [Kg, asB, Option.bind_some, binB, beq_self_eq_true, Bool.not_true]
 exact h
theorem L8 {o tb g : Nat} {H : Af} {len : Nat} {cells : List AV} {A : Af → Option β} {K : Af → Option β} {r : Option β} (h0 : Aw H 0 o 1 = some [.ro len cells]) (h1 : Aw H 1 o 1 = some [.ro len cells]) (hh : Di g = false) (ht : Bv E0 n tb g [.ro len cells, .ro len cells] = some (.sc (.bool true))) (h : K H = r) :
  (Db o (.ptr 0 0) fun t5 => Bz false 1 t5 H fun t6 => Db o (.ptr 1 0) fun t7 => Bz false 1 t7 H fun t8 => (PR n β).call tb (.fn g [] []) [t6, t8] H fun t H => pUn .not t fun t9 => Cy t9 (A H) (K H)) = r := by
 simp only [Db, Nat.zero_add]
 rw [ldF h0, ldF h1, Et (vs := [.ro len cells, .ro len cells]) hh (by simp only [List.mapM_cons, Qz]; rfl) ht, Ey, List.append_nil]
 exact h
theorem Aa3 {o tb g w : Nat} {H : Af} {cells : List AV} {A : Af → Option β} {K : Af → Option β} {r : Option β} (h0 : Aw H 0 o w = some cells) (h1 : Aw H 1 o w = some cells) (hh : Di g = false) (hfl : cells.all F4 = true) (ht : Bv E0 n tb g [.agg cells, .agg cells] = some (.sc (.bool true))) (h : K H = r) :
  (Db o (.ptr 0 0) fun t5 => Bz true w t5 H fun t6 => Db o (.ptr 1 0) fun t7 => Bz true w t7 H fun t8 => (PR n β).call tb (.fn g [] []) [t6, t8] H fun t H => pUn .not t fun t9 => Cy t9 (A H) (K H)) = r := by
 simp only [Db, Nat.zero_add]
 rw [ldT h0, ldT h1, Et (vs := [.agg cells, .agg cells]) hh (by simp only [List.mapM_cons, (Hv _ hfl).now]; rfl) ht, Ey, List.append_nil]
 exact h
theorem F5 (z : Int) (k : AV → Option β) : Cg .neq (.sc (.int .i64 z)) (.sc (.int .i64 z)) k = k (.sc (.bool false)) := by
 show k (.sc (.bool (z != z))) = _
 rw [bne_self_eq_false]
theorem J5 (s : ByteArray) (k : AV → Option β) : Cg .neq (.sc (.string s)) (.sc (.string s)) k = k (.sc (.bool false)) := by
 show k (.sc (.bool (!(s.toList == s.toList)))) = _
 rw [beq_self_eq_true, Bool.not_true]
theorem AgB (z : Int) (k : AV → Option β) : Cg .neq (.sc (.int .u8 z)) (.sc (.int .u8 z)) k = k (.sc (.bool false)) := by
 show k (.sc (.bool (z != z))) = _
 rw [bne_self_eq_false]
def Q4 (W : Nat) (left : Int) : Option AV := some (.sc (.int .i64 (Fz W left)))
theorem S0 {s W : Nat} {left : Int} (h : left < s) : Fz (s + W) left = -1 := by rw [Fz, if_pos]; omega
theorem Qq {s W : Nat} {left : Int} (h : ¬ left < s) : Fz (s + W) left = Fz W (left - s) := by
 unfold Fz
 by_cases h2 : left < ((s + W : Nat) : Int)
 ·rw [if_pos h2, if_pos (by omega)]
 ·rw [if_neg h2, if_neg (by omega)]; omega
theorem K5 {o : Nat} {H : Af} {s : ByteArray} {W : Nat} {left : Int} {A : Option AV} {K : AV → Option AV} (hr : Aw H 0 o 1 = some [.sc (.string s)]) (h0 : 0 ≤ left) (h1 : left ≤ 1048576) (hs : s.size ≤ 9223372036854775807) (hA : A = some (.sc (.int .i64 (-1)))) (hK : 0 ≤ left - s.size → left - s.size ≤ 1048576 → K (.sc (.int .i64 (left - s.size))) = Q4 W (left - s.size)) :
  (Db o (.ptr 0 0) fun t6 => Bz false 1 t6 H fun t7 => Ob t7 fun t8 => Cg .sub (.sc (.int .i64 left)) t8 fun t9 => Cg .lss t9 (.sc (.int .i64 0)) fun t11 => Cy t11 A (K t9)) = Q4 (s.size + W) left := by
 simp only [Db, Nat.zero_add]
 rw [ldF hr]
 simp only [Ob, Wh, Option.bind_some]
 rw [Kh _ _ _ (by omega) (by omega), Ja, Cf]
 by_cases h : left < s.size
 ·rw [if_pos (by simpa using (show left - (s.size : Int) < 0 by omega)), hA, Q4, S0 h]
 ·rw [if_neg (by simpa using (show ¬ left - (s.size : Int) < 0 by omega)), hK (by omega) (by omega), Q4, Q4, Qq h]
theorem M4 {o ty g : Nat} {H : Af} {len : Nat} {cells : List AV} {w W : Nat} {left : Int} {A : Af → Option AV} {K : AV → Af → Option AV} (hr : Aw H 0 o 1 = some [.ro len cells]) (h0 : 0 ≤ left) (h1 : left ≤ 1048576) (hh : Di g = false) (ht : Bv E0 n ty g [.ro len cells, .sc (.int .i64 left)] = some (.sc (.int .i64 (Fz w left)))) (hA : A H = some (.sc (.int .i64 (-1)))) (hK : 0 ≤ left - w → left - w ≤ 1048576 → K (.sc (.int .i64 (left - w))) H = Q4 W (left - w)) :
  (Db o (.ptr 0 0) fun t6 => Bz false 1 t6 H fun t7 => (PR n AV).call ty (.fn g [] []) [t7, .sc (.int .i64 left)] H fun t15 H => Cg .lss t15 (.sc (.int .i64 0)) fun t11 => Cy t11 (A H) (K t15 H)) = Q4 (w + W) left := by
 simp only [Db, Nat.zero_add]
 rw [ldF hr, Et (vs := [.ro len cells, .sc (.int .i64 left)]) hh (by simp only [List.mapM_cons, Qz, Uh]; rfl) ht, Ey, List.append_nil]
 simp only
 rw [Ja, Cf]
 by_cases h : left < w
 ·have e : Fz w left = -1 := by rw [Fz, if_pos h]
  rw [e, if_pos (by decide), hA, Q4, S0 h]
 ·have e : Fz w left = left - w := by rw [Fz, if_neg h]
  rw [e, if_neg (by simpa using (show ¬ left - (w : Int) < 0 by omega)), hK (by omega) (by omega), Q4, Q4, Qq h]
theorem AbZ {o ty g wd : Nat} {H : Af} {cells : List AV} {w W : Nat} {left : Int} {A : Af → Option AV} {K : AV → Af → Option AV} (hr : Aw H 0 o wd = some cells) (h0 : 0 ≤ left) (h1 : left ≤ 1048576) (hh : Di g = false) (hfl : cells.all F4 = true) (ht : Bv E0 n ty g [.agg cells, .sc (.int .i64 left)] = some (.sc (.int .i64 (Fz w left)))) (hA : A H = some (.sc (.int .i64 (-1)))) (hK : 0 ≤ left - w → left - w ≤ 1048576 → K (.sc (.int .i64 (left - w))) H = Q4 W (left - w)) :
  (Db o (.ptr 0 0) fun t6 => Bz true wd t6 H fun t7 => (PR n AV).call ty (.fn g [] []) [t7, .sc (.int .i64 left)] H fun t15 H => Cg .lss t15 (.sc (.int .i64 0)) fun t11 => Cy t11 (A H) (K t15 H)) = Q4 (w + W) left := by
 simp only [Db, Nat.zero_add]
 rw [ldT hr, Et (vs := [.agg cells, .sc (.int .i64 left)]) hh (by simp only [List.mapM_cons, (Hv _ hfl).now, Uh]; rfl) ht, Ey, List.append_nil]
 simp only
 rw [Ja, Cf]
 by_cases h : left < w
 ·have e : Fz w left = -1 := by rw [Fz, if_pos h]
  rw [e, if_pos (by decide), hA, Q4, S0 h]
 ·have e : Fz w left = left - w := by rw [Fz, if_neg h]
  rw [e, if_neg (by simpa using (show ¬ left - (w : Int) < 0 by omega)), hK (by omega) (by omega), Q4, Q4, Qq h]
theorem Qr {left : Int} (h0 : 0 ≤ left) : some (AV.sc (.int .i64 left)) = Q4 0 left := by
 rw [Q4, Fz, if_neg (by omega)]
 simp
abbrev Ax (s : ByteArray) : AV := .ro s.size (Cd s)
abbrev Dl (l : List Int) : AV := .ro l.length (l.map fun z => .sc (.int .i64 z))
abbrev Dc (l : List ByteArray) : AV := .ro l.length (l.map fun s => .sc (.string s))
abbrev Bq {α : Type} (enc : α → List AV) (l : List α) : AV := .ro l.length (l.map enc).flatten
def S4 (z : Int) : Prop := -9223372036854775808 ≤ z ∧ z ≤ 9223372036854775807
def M7 (s : ByteArray) : Prop := s.size ≤ 9223372036854775807
theorem Rq {f : Nat → AV → Prop} {α : Type} (e : α → Value) (hf : ∀ t v, f t (.sc v)) : ∀ (ts : List Nat) (l : List α), ts.length = l.length → Gf f ts (l.map fun x => .sc (e x))
 | [], [], _ => trivial
 | t :: ts, x :: l, h => ⟨hf _ _, Rq e hf ts l (by simpa using h)⟩
 | [], _ :: _, h => by simp at h
 | _ :: _, [], h => by simp at h
theorem Mr {α : Type} {ty d : Nat} (e : α → Value) (hty : ∃ i j, As ty = some i ∧ As i.elem = some j ∧ j.size = 1 ∧ j.cty.length = 1) (l : List α) : Ht As E0.tp (d + 2) ty (.ro l.length (l.map fun x => .sc (e x))) := by
 obtain ⟨i, j, h1, h2, h3, h4⟩ := hty
 exact ⟨i, j, h1, h2, by simp [h3], Rq e (fun _ _ => trivial) _ l (by simp [h4])⟩
theorem Lg {d ty : Nat} (hty : ∃ i j, As ty = some i ∧ As i.elem = some j ∧ j.size = 1 ∧ j.cty.length = 1) (s : ByteArray) : Ht As E0.tp (d + 2) ty (Ax s) := by
 have := Mr (d := d) (fun b : UInt8 => .int .u8 b.toNat) hty s.data.toList
 have e : s.data.toList.length = s.size := by simp
 rw [e] at this
 exact this
theorem Qa {α : Type} {ty d w : Nat} {cty : List Nat} {enc : α → List AV} (hw : ∀ x, (enc x).length = w) (hty : ∃ i j, As ty = some i ∧ As i.elem = some j ∧ j.size = w ∧ j.cty = cty) (he : ∀ x, Gf (Ht As E0.tp d) cty (enc x)) (l : List α) : Ht As E0.tp (d + 1) ty (Bq enc l) := by
 obtain ⟨i, j, h1, h2, h3, rfl⟩ := hty
 exact ⟨i, j, h1, h2, by rw [K4 hw, h3], Lf l fun x _ => he x⟩
theorem Jc {α : Type} {enc : α → List AV} {ok : α → Prop} {n t e : Nat} {cs : List AV} (hi : ∃ i, As t = some i ∧ i.isB = false ∧ i.ik = none ∧ i.isStr = false ∧ i.sl = true ∧ i.elem = e) (hel : ∀ n cs, Or As n e cs → ∃ x, cs = enc x ∧ ok x) (h : Or As n t cs) :
  ∃ l : List α, cs = [Bq enc l] ∧ l.length ≤ 9223372036854775807 ∧ ∀ x ∈ l, ok x := by
 cases n with
 | zero => cases h
 | succ n =>
  obtain ⟨i, h1, h2, h3, h4, h5, rfl⟩ := hi
  obtain ⟨i', hi', h⟩ := h
  rw [h1] at hi'
  obtain rfl := Option.some.inj hi'
  simp only [h2, h3, h4, h5] at h
  obtain ⟨rows, rfl, hl, hr⟩ := h
  have hm : maxLen = 9223372036854775807 := by decide
  rw [hm] at hl
  have key : ∀ rows : List (List AV), (∀ r ∈ rows, Or As n i.elem r) → ∃ l : List α, rows = l.map enc ∧ ∀ x ∈ l, ok x := by
   intro rows
   induction rows with
   | nil => intro _; exact ⟨[], rfl, fun x h => by cases h⟩
   | cons r rows ih =>
    intro h
    obtain ⟨l, h1, h2⟩ := ih fun r hr => h r (List.mem_cons_of_mem _ hr)
    obtain ⟨x, hx, hox⟩ := hel n r (h r List.mem_cons_self)
    exact ⟨x :: l, by rw [h1, hx]; rfl, fun y hy => by rcases List.mem_cons.1 hy with rfl | hy; exact hox; exact h2 y hy⟩
  obtain ⟨l, rfl, h2⟩ := key rows hr
  exact ⟨l, by simp, by simpa using hl, h2⟩
theorem Gs {n : Nat} {cs : List AV} (h : Or As n 9 cs) : ∃ s : ByteArray, cs = [.sc (.string s)] ∧ M7 s := by
 cases n with
 | zero => cases h
 | succ n =>
  obtain ⟨i, hi, h⟩ := h
  obtain rfl := Option.some.inj (show some _ = some i from hi)
  have hm : maxLen = 9223372036854775807 := by decide
  obtain ⟨s, h1, h2⟩ := (show ∃ s : ByteArray, cs = [.sc (.string s)] ∧ s.size ≤ maxLen from h)
  exact ⟨s, h1, by rw [hm] at h2; exact h2⟩
theorem D7 {n : Nat} {cs : List AV} (h : Or As n 3 cs) : ∃ z : Int, cs = [.sc (.int .i64 z)] ∧ S4 z := by
 cases n with
 | zero => cases h
 | succ n =>
  obtain ⟨i, hi, h⟩ := h
  obtain rfl := Option.some.inj (show some _ = some i from hi)
  obtain ⟨z, h1, h2⟩ := (show ∃ z, cs = [.sc (.int .i64 z)] ∧ (Lit.int .i64 z).wf = true from h)
  refine ⟨z, h1, ?_⟩
  have hw' : IntKind.i64.min ≤ z ∧ z ≤ IntKind.i64.max := by simpa [Lit.wf] using h2
  have e1 : IntKind.i64.min = -9223372036854775808 := by decide
  have e2 : IntKind.i64.max = 9223372036854775807 := by decide
  rw [e1, e2] at hw'
  exact hw'
theorem Ff {n : Nat} {cs : List AV} (h : Or As n 4 cs) : ∃ b : Bool, cs = [.sc (.bool b)] := by
 cases n with
 | zero => cases h
 | succ n =>
  obtain ⟨i, hi, h⟩ := h
  obtain rfl := Option.some.inj (show some _ = some i from hi)
  exact h
theorem Aae {n : Nat} {cs : List AV} (h : Or As n 5 cs) : ∃ b : UInt8, cs = [.sc (.int .u8 b.toNat)] := by
 cases n with
 | zero => cases h
 | succ n =>
  obtain ⟨i, hi, h⟩ := h
  obtain rfl := Option.some.inj (show some _ = some i from hi)
  obtain ⟨z, rfl, hw⟩ := (show ∃ z, cs = [.sc (.int .u8 z)] ∧ (Lit.int .u8 z).wf = true from h)
  have hz : 0 ≤ z ∧ z < 256 := by
   have hw' : IntKind.u8.min ≤ z ∧ z ≤ IntKind.u8.max := by simpa [Lit.wf] using hw
   have e1 : IntKind.u8.min = 0 := by decide
   have e2 : IntKind.u8.max = 255 := by decide
   rw [e1, e2] at hw'
   omega
  refine ⟨UInt8.ofNat z.toNat, ?_⟩
  have : (UInt8.ofNat z.toNat).toNat = z.toNat := by simp [UInt8.toNat_ofNat']; omega
  rw [this, Int.toNat_of_nonneg hz.1]
theorem I5 {α : Type} (e : α → AV) (l : List α) : (l.map fun x => [e x]).flatten = l.map e := by
 induction l with
 | nil => rfl
 | cons x l ih => rw [List.map_cons, List.flatten_cons, ih]; rfl
theorem J6 {n t : Nat} {cs : List AV} (hi : ∃ i, As t = some i ∧ i.isB = false ∧ i.ik = none ∧ i.isStr = false ∧ i.sl = true ∧ i.elem = 5) (h : Or As n t cs) : ∃ s : ByteArray, cs = [Ax s] ∧ M7 s := by
 obtain ⟨l, rfl, h1, _⟩ := Jc (α := UInt8) (enc := fun b => [.sc (.int .u8 b.toNat)]) (ok := fun _ => True) hi (fun n cs h => by obtain ⟨b, h⟩ := Aae h; exact ⟨b, h, trivial⟩) h
 refine ⟨⟨l.toArray⟩, ?_, ?_⟩
 ·rw [Bq, I5]
  simp [Ax, Cd]
  rfl
 ·exact h1
theorem Aaf {n t : Nat} {cs : List AV} (hi : ∃ i, As t = some i ∧ i.isB = false ∧ i.ik = none ∧ i.isStr = false ∧ i.sl = true ∧ i.elem = 3) (h : Or As n t cs) : ∃ l : List Int, cs = [Dl l] ∧ l.length ≤ 9223372036854775807 ∧ ∀ z ∈ l, S4 z := by
 obtain ⟨l, rfl, h1, h2⟩ := Jc (α := Int) (enc := fun z => [.sc (.int .i64 z)]) (ok := S4) hi (fun n cs h => D7 h) h
 exact ⟨l, by rw [Bq, I5], h1, h2⟩
theorem Aag {n t : Nat} {cs : List AV} (hi : ∃ i, As t = some i ∧ i.isB = false ∧ i.ik = none ∧ i.isStr = false ∧ i.sl = true ∧ i.elem = 9) (h : Or As n t cs) : ∃ l : List ByteArray, cs = [Dc l] ∧ l.length ≤ 9223372036854775807 ∧ ∀ s ∈ l, M7 s := by
 obtain ⟨l, rfl, h1, h2⟩ := Jc (α := ByteArray) (enc := fun s => [.sc (.string s)]) (ok := M7) hi (fun n cs h => Gs h) h
 exact ⟨l, by rw [Bq, I5], h1, h2⟩
theorem H4 {n t : Nat} {cs : List AV} {fs : List (Nat × Nat)} (hi : ∃ i, As t = some i ∧ i.isB = false ∧ i.ik = none ∧ i.isStr = false ∧ i.sl = false ∧ i.isAgg = true ∧ i.fields = fs) (h : Or As n t cs) : ∃ m, AbD (Or As m) fs cs := by
 cases n with
 | zero => cases h
 | succ n =>
  obtain ⟨i, h1, h2, h3, h4, h5, h6, rfl⟩ := hi
  obtain ⟨i', hi', h⟩ := h
  rw [h1] at hi'
  obtain rfl := Option.some.inj hi'
  simp only [h2, h3, h4, h5, h6] at h
  exact ⟨n, h⟩
end
section
open Go
theorem M5 : ∃ i j, As 31 = some i ∧ As i.elem = some j ∧ j.size = 1 ∧ j.cty.length = 1 := ⟨_, _, rfl, rfl, rfl, rfl⟩
theorem Lk (n : Nat) (hn : 1048576 < n) (s : ByteArray) (h : s.size ≤ 1048576) : Bv E0 (n + 1) 31 126 [Ax s] = some (Ax s) := by
 have e : s.data.toList.length = s.size := by simp
 have h0 := S2 (n := n) (bytes := 1) (fun b : UInt8 => .int .u8 b.toNat) (.sc (.int .u8 0)) (fun _ => rfl) M5 (fun k => Ma (PR n AV) n k) (fun k m a o i H => rfl) (fun a H k => AcD n a H k) (by decide) s.data.toList (by rw [e]; exact h) hn
 rw [e] at h0
 exact h0
theorem K9 (n : Nat) (hn : 1048576 < n) (tb : Nat) (s : ByteArray) (h : s.size ≤ 1048576) : Bv E0 (n + 1) tb 95 [Ax s, Ax s] = some (.sc (.bool true)) := by
 have e : s.data.toList.length = s.size := by simp
 have h0 := R8 (n := n) (fun b : UInt8 => .int .u8 b.toNat) (fun x γ k => AgB _ k) (fun k => Pn (PR n AV) n k) (fun k m a b i H => rfl) (fun a b H k => AfI n a b H k) s.data.toList (by rw [e]; exact h) hn tb
 rw [e] at h0
 exact h0
theorem Lj (n : Nat) (ty : Nat) (s : ByteArray) (hmax : s.size ≤ 9223372036854775807) (left : Int) (h0 : 0 ≤ left) (h1 : left ≤ 1048576) : Bv E0 (n + 1) ty 120 [Ax s, .sc (.int .i64 left)] = some (.sc (.int .i64 (Fz s.size left))) :=
 Aca (n := n) (fun a b H k => Ac9 n a b H k) s.size _ hmax left h0 h1 ty
theorem Aci : ∃ i j, As 34 = some i ∧ As i.elem = some j ∧ j.size = 1 ∧ j.cty.length = 1 := ⟨_, _, rfl, rfl, rfl, rfl⟩
theorem Ace (n : Nat) (hn : 1048576 < n) (s : List Int) (h : s.length ≤ 1048576) : Bv E0 (n + 1) 34 35 [Dl s] = some (Dl s) :=
 S2 (n := n) (bytes := 8) (fun z : Int => .int .i64 z) (.sc (.int .i64 0)) (fun _ => rfl) Aci (fun k => Pg (PR n AV) n k) (fun k m a o i H => rfl) (fun a H k => Af4 n a H k) (by decide) s h hn
theorem Aay (n : Nat) (hn : 1048576 < n) (tb : Nat) (s : List Int) (h : s.length ≤ 1048576) : Bv E0 (n + 1) tb 38 [Dl s, Dl s] = some (.sc (.bool true)) :=
 R8 (n := n) (fun z : Int => .int .i64 z) (fun x γ k => F5 _ k) (fun k => Ph (PR n AV) n k) (fun k m a b i H => rfl) (fun a b H k => Af6 n a b H k) s h hn tb
theorem AbU (n : Nat) (ty : Nat) (s : List Int) (hmax : s.length ≤ 9223372036854775807) (left : Int) (h0 : 0 ≤ left) (h1 : left ≤ 1048576) : Bv E0 (n + 1) ty 109 [Dl s, .sc (.int .i64 left)] = some (.sc (.int .i64 (Fz s.length left))) :=
 Aca (n := n) (fun a b H k => Ac8 n a b H k) s.length _ hmax left h0 h1 ty
theorem Nu : ∃ i j, As 33 = some i ∧ As i.elem = some j ∧ j.size = 1 ∧ j.cty.length = 1 := ⟨_, _, rfl, rfl, rfl, rfl⟩
theorem Ue (n : Nat) (hn : 1048576 < n) (s : List ByteArray) (h : s.length ≤ 1048576) : Bv E0 (n + 1) 33 128 [Dc s] = some (Dc s) :=
 S2 (n := n) (bytes := 16) (fun s : ByteArray => .string s) (.sc (.string ⟨#[]⟩)) (fun _ => rfl) Nu (fun k => Mc (PR n AV) n k) (fun k m a o i H => rfl) (fun a H k => AcF n a H k) (by decide) s h hn
theorem Tl (n : Nat) (hn : 1048576 < n) (tb : Nat) (s : List ByteArray) (h : s.length ≤ 1048576) : Bv E0 (n + 1) tb 97 [Dc s, Dc s] = some (.sc (.bool true)) :=
 R8 (n := n) (fun s : ByteArray => .string s) (fun x γ k => J5 _ k) (fun k => Pp (PR n AV) n k) (fun k m a b i H => rfl) (fun a b H k => AfK n a b H k) s h hn tb
theorem Ji (n : Nat) (k : AV → Af → Option AV) (H : Af) (l : List ByteArray) (hok : ∀ s ∈ l, M7 s) (hlen : l.length ≤ 1048576) : ∀ (r pre : List ByteArray) (m : Nat) (left : Int), 0 ≤ left → left ≤ 1048576 → l = pre ++ r → r.length < m → Jq (PR n AV) n k m (Dc l) (.sc (.int .i64 left)) (.sc (.int .i64 pre.length)) H = k (.sc (.int .i64 (Fz (On ByteArray.size r) left))) H
 | [], pre, m + 1, left, hl0, hl1, hl, hm => by
  rw [List.append_nil] at hl
  subst hl
  have e : Fz (On ByteArray.size []) left = left := by simp [Fz, On]; omega
  rw [e]
  rw [Jq]
  simp only [Bu, A2, Ay]
  rw [C8, Eh, Cf]
  simp
 | x :: r, pre, m + 1, left, hl0, hl1, hl, hm => by
  have hlt : pre.length < l.length := by rw [hl]; simp
  have hx : M7 x := hok x (by rw [hl]; simp)
  have hx2 : x.size ≤ 9223372036854775807 := hx
  have hd : (l.map fun x => AV.sc (.string x)).drop (pre.length * 1) = .sc (.string x) :: r.map fun x => .sc (.string x) := by
   rw [Nat.mul_one, hl, List.map_append, List.drop_append_of_le_length (by simp)]
   rw [show pre.length = (pre.map fun x => AV.sc (.string x)).length by simp, List.drop_length]
   rfl
  rw [Jq]
  simp only [Bu, A2, Ay, Bw, Az, C7]
  rw [C8, Eh, Cf, if_pos (by simpa using hlt), Lc 1 _ _ pre.length _ hlt (by simpa using hlt), hd, Kw]
  simp only [Ob, Wh, Option.bind_some]
  rw [Kh _ _ _ (by omega) (by omega), Ja, Cf]
  by_cases hs : left < x.size
  ·have e2 : Fz (On ByteArray.size (x :: r)) left = -1 := by rw [On, Fz, if_pos]; omega
   rw [if_pos (by simpa using (show left - (x.size : Int) < 0 by omega)), e2]
  ·have e2 : Fz (On ByteArray.size (x :: r)) left = Fz (On ByteArray.size r) (left - x.size) := by
    rw [On]
    exact Qq hs
   rw [if_neg (by simpa using (show ¬ left - (x.size : Int) < 0 by omega)), e2, El _ _ (by omega)]
   have ih := Ji n k H l hok hlen r (pre ++ [x]) m (left - x.size) (by omega) (by omega) (by rw [hl]; simp) (by simpa using hm)
   rw [List.length_append, List.length_singleton] at ih
   exact ih
theorem Uc (n : Nat) (hn : 1048576 < n) (ty : Nat) (s : List ByteArray) (hmax : s.length ≤ 9223372036854775807) (hok : ∀ x ∈ s, M7 x) (left : Int) (h0 : 0 ≤ left) (h1 : left ≤ 1048576) : Bv E0 (n + 1) ty 122 [Dc s, .sc (.int .i64 left)] = some (.sc (.int .i64 (Fz (Om ByteArray.size s) left))) := by
 rw [Av, AcB, f122]
 simp only [Bu, A2, Ay]
 rw [C8, Kh _ _ _ (by omega) (by omega), Ja, Cf]
 by_cases h : left - (s.length : Int) < 0
 ·have e : Fz (Om ByteArray.size s) left = -1 := by rw [Fc, Fz, if_pos]; omega
  rw [if_pos (by simpa using h), e]
  rfl
 ·have e : Fz (Om ByteArray.size s) left = Fz (On ByteArray.size s) (left - s.length) := by
   rw [Fc]
   exact Qq (by omega)
  rw [if_neg (by simpa using h), e]
  have key := Ji n (fun x H => A7 As E0.tp ty H x) [] s hok (by omega) s [] n (left - s.length) (by omega) (by omega) (by simp) (by omega)
  simp only [List.length_nil, Int.natCast_zero] at key
  rw [key]
  rfl
structure Fl where
 fTopic : ByteArray
 fBody : ByteArray
 fQos : Int
 fRetain : Bool
def B8 (x : Fl) : List AV := .sc (.string x.fTopic) :: Ax x.fBody :: .sc (.int .i64 x.fQos) :: .sc (.bool x.fRetain) :: []
def Fd (x : Fl) : Nat := x.fTopic.size + (x.fBody.size + 0)
def Rr (x : Fl) : Prop := M7 x.fTopic ∧ M7 x.fBody ∧ S4 x.fQos ∧ True
theorem Ky (x : Fl) : (B8 x).length = 4 := rfl
theorem Eo (x : Fl) : (B8 x).all F4 = true := rfl
def Lt : List Nat := [9, 31, 3, 4]
theorem Acj : ∃ i, As 85 = some i ∧ i.cty = Lt := ⟨_, rfl, rfl⟩
theorem Sq (d : Nat) (x : Fl) : Gf (Ht As E0.tp (d + 2)) Lt (B8 x) := ⟨trivial, ⟨Lg (d := d + 0) M5 x.fBody, ⟨trivial, ⟨trivial, trivial⟩⟩⟩⟩
theorem Xk {n : Nat} {cs : List AV} (h : Or As n 79 cs) : ∃ x : Fl, cs = B8 x ∧ Rr x := by
 obtain ⟨m, hf⟩ := H4 (fs := [(0, 9), (1, 31), (2, 3), (3, 4)]) ⟨_, rfl, rfl, rfl, rfl, rfl, rfl, rfl⟩ h
 obtain ⟨a0, b0, rfl, h0, hf⟩ := hf
 obtain ⟨v0, rfl, k0⟩ := Gs h0
 obtain ⟨a1, b1, rfl, h1, hf⟩ := hf
 obtain ⟨v1, rfl, k1⟩ := J6 ⟨_, rfl, rfl, rfl, rfl, rfl, rfl⟩ h1
 obtain ⟨a2, b2, rfl, h2, hf⟩ := hf
 obtain ⟨v2, rfl, k2⟩ := D7 h2
 obtain ⟨a3, b3, rfl, h3, hf⟩ := hf
 obtain ⟨v3, rfl⟩ := Ff h3
 subst hf
 exact ⟨⟨v0, v1, v2, v3⟩, rfl, k0, k1, k2, trivial⟩
theorem Ack : ∃ i j, As 28 = some i ∧ As i.elem = some j ∧ j.size = 4 ∧ j.cty = Lt := ⟨_, _, rfl, rfl, rfl, rfl⟩
def AgK : List AV := [(.sc (.string ⟨#[]⟩)), .nl, (.sc (.int .i64 0)), (.sc (.bool false))]
theorem Xs (n : Nat) (hn : 1048576 < n) (x : Fl) (h : Fd x ≤ 1048576) : Bv E0 (n + 2) 85 144 [.agg (B8 x)] = some (.agg (B8 x)) := by
 rw [Av, AcR, f144]
 simp only [Cl, Dm, A8, Az, Cw, Nl]
 rw [Ec _ _ _ (Eo x)]
 simp only [List.length_nil, List.nil_append, List.length_cons, List.cons_append, Nat.zero_add, Nat.reduceAdd]
 refine D8 (T := Lt) (C := B8 x) (Z := AgK) (v := .string x.fTopic) (o' := 1) rfl rfl rfl rfl rfl ?_
 refine M3 (o' := 2) rfl rfl rfl rfl rfl (Lk (n + 0) (by omega) x.fBody (by unfold Fd at h; omega)) rfl ?_
 refine D8 (v := .int .i64 x.fQos) (o' := 3) rfl rfl rfl rfl rfl ?_
 refine D8 (v := .bool x.fRetain) (o' := 4) rfl rfl rfl rfl rfl ?_
 exact Qp rfl rfl rfl (Eo x) Acj (Sq 5 x)
theorem Wl (n : Nat) (hn : 1048576 < n) (tb : Nat) (x : Fl) (h : Fd x ≤ 1048576) : Bv E0 (n + 2) tb 154 [.agg (B8 x), .agg (B8 x)] = some (.sc (.bool true)) := by
 rw [Av, Ada, f154]
 simp only [Cl, A8, Az, A2, Do, Cr, Ay]
 rw [Ec _ _ _ (Eo x), Ec _ _ _ (Eo x)]
 simp only [List.length_nil, List.nil_append, List.length_cons, List.cons_append, Nat.zero_add, Nat.reduceAdd]
 refine Fi (v := .string x.fTopic) rfl rfl (fun k => J5 _ k) ?_
 refine L8 rfl rfl rfl (K9 (n + 0) (by omega) _ x.fBody (by unfold Fd at h; omega)) ?_
 refine Fi (v := .int .i64 x.fQos) rfl rfl (fun k => F5 _ k) ?_
 refine R7 (b := x.fRetain) rfl rfl ?_
 rfl
theorem Xq (n : Nat) (hn : 1048576 < n) (ty : Nat) (x : Fl) (hx : Rr x) (left : Int) (h0 : 0 ≤ left) (h1 : left ≤ 1048576) : Bv E0 (n + 2) ty 134 [.agg (B8 x), .sc (.int .i64 left)] = Q4 (Fd x) left := by
 obtain ⟨k0, k1, _, _⟩ := hx
 unfold Fd
 rw [Av, AcH, f134]
 simp only [Cl, A8, Az, C7, A2, Ay]
 rw [Ec _ _ _ (Eo x)]
 simp only [List.length_nil, List.nil_append, List.length_cons, List.cons_append, Nat.zero_add, Nat.reduceAdd]
 refine K5 (s := x.fTopic) rfl h0 h1 k0 rfl fun h0 h1 => ?_
 refine M4 rfl h0 h1 rfl (Lj (n + 0) _ x.fBody k1 _ h0 h1) rfl fun h0 h1 => ?_
 exact Qr h0
theorem Acf (n : Nat) (hn : 1048576 < n) (l : List Fl) (h : Om Fd l ≤ 1048576) : Bv E0 (n + 3) 28 88 [Bq B8 l] = some (Bq B8 l) := by
 have e := Fc Fd l
 exact Qu (n := n + 2) (w := 4) (bytes := 56) (cty := Lt) B8 [(.sc (.string ⟨#[]⟩)), .nl, (.sc (.int .i64 0)), (.sc (.bool false))] rfl Ky rfl (by decide) Ack Acj Eo rfl (fun k => Pj (PR (n + 2) AV) (n + 2) k) (fun k m a o i H => rfl) (fun a H k => AfG (n + 2) a H k) (by decide) l (fun x hx => Xs n hn x (by have := Gu (wt := Fd) hx; omega)) (fun x _ => Sq 5 x) (by omega) (by omega)
theorem Aaz (n : Nat) (hn : 1048576 < n) (tb : Nat) (l : List Fl) (h : Om Fd l ≤ 1048576) : Bv E0 (n + 3) tb 94 [Bq B8 l, Bq B8 l] = some (.sc (.bool true)) := by
 have e := Fc Fd l
 exact Pa (n := n + 2) B8 Ky (by decide) Eo rfl (fun k => Pm (PR (n + 2) AV) (n + 2) k) (fun k m a b i H => rfl) (fun a b H k => AfH (n + 2) a b H k) l (fun x hx => Wl n hn _ x (by have := Gu (wt := Fd) hx; omega)) (by omega) (by omega) tb
theorem AbV (n : Nat) (hn : 1048576 < n) (ty : Nat) (l : List Fl) (hmax : l.length ≤ 9223372036854775807) (hok : ∀ x ∈ l, Rr x) (left : Int) (h0 : 0 ≤ left) (h1 : left ≤ 1048576) : Bv E0 (n + 3) ty 84 [Bq B8 l, .sc (.int .i64 left)] = some (.sc (.int .i64 (Fz (Om Fd l) left))) :=
 Qs (n := n + 2) B8 Fd Ky (by decide) Eo rfl (fun k => Pi (PR (n + 2) AV) (n + 2) k) (fun k m a l i H => rfl) (fun a b H k => AfF (n + 2) a b H k) l (fun x hx left h0 h1 => Xq n hn _ x (hok x hx) left h0 h1) hmax (by omega) left h0 h1 ty
structure Fu where
 fFilter : ByteArray
 fQos : Int
def Bg (x : Fu) : List AV := .sc (.string x.fFilter) :: .sc (.int .i64 x.fQos) :: []
def Ft (x : Fu) : Nat := x.fFilter.size + 0
def Qb (x : Fu) : Prop := M7 x.fFilter ∧ S4 x.fQos
theorem E6 (x : Fu) : (Bg x).length = 2 := rfl
theorem Jw (x : Fu) : (Bg x).all F4 = true := rfl
def L7 : List Nat := [9, 3]
theorem Acm : ∃ i, As 231 = some i ∧ i.cty = L7 := ⟨_, rfl, rfl⟩
theorem Sr (d : Nat) (x : Fu) : Gf (Ht As E0.tp (d + 1)) L7 (Bg x) := ⟨trivial, ⟨trivial, trivial⟩⟩
theorem AbF {n : Nat} {cs : List AV} (h : Or As n 245 cs) : ∃ x : Fu, cs = Bg x ∧ Qb x := by
 obtain ⟨m, hf⟩ := H4 (fs := [(0, 9), (1, 3)]) ⟨_, rfl, rfl, rfl, rfl, rfl, rfl, rfl⟩ h
 obtain ⟨a0, b0, rfl, h0, hf⟩ := hf
 obtain ⟨v0, rfl, k0⟩ := Gs h0
 obtain ⟨a1, b1, rfl, h1, hf⟩ := hf
 obtain ⟨v1, rfl, k1⟩ := D7 h1
 subst hf
 exact ⟨⟨v0, v1⟩, rfl, k0, k1⟩
theorem Xu : ∃ i j, As 32 = some i ∧ As i.elem = some j ∧ j.size = 2 ∧ j.cty = L7 := ⟨_, _, rfl, rfl, rfl, rfl⟩
def Agj : List AV := [(.sc (.string ⟨#[]⟩)), (.sc (.int .i64 0))]
theorem Ach (n : Nat) (hn : 1048576 < n) (x : Fu) (h : Ft x ≤ 1048576) : Bv E0 (n + 1) 231 225 [.agg (Bg x)] = some (.agg (Bg x)) := by
 rw [Av, Ads, f225]
 simp only [Cl, Dm, A8, Az, Cw, Nl]
 rw [Ec _ _ _ (Jw x)]
 simp only [List.length_nil, List.nil_append, List.length_cons, List.cons_append, Nat.zero_add, Nat.reduceAdd]
 refine D8 (T := L7) (C := Bg x) (Z := Agj) (v := .string x.fFilter) (o' := 1) rfl rfl rfl rfl rfl ?_
 refine D8 (v := .int .i64 x.fQos) (o' := 2) rfl rfl rfl rfl rfl ?_
 exact Qp rfl rfl rfl (Jw x) Acm (Sr 6 x)
theorem Aa2 (n : Nat) (hn : 1048576 < n) (tb : Nat) (x : Fu) (h : Ft x ≤ 1048576) : Bv E0 (n + 1) tb 215 [.agg (Bg x), .agg (Bg x)] = some (.sc (.bool true)) := by
 rw [Av, Adn, f215]
 simp only [Cl, A8, Az, A2, Do, Cr, Ay]
 rw [Ec _ _ _ (Jw x), Ec _ _ _ (Jw x)]
 simp only [List.length_nil, List.nil_append, List.length_cons, List.cons_append, Nat.zero_add, Nat.reduceAdd]
 refine Fi (v := .string x.fFilter) rfl rfl (fun k => J5 _ k) ?_
 refine Fi (v := .int .i64 x.fQos) rfl rfl (fun k => F5 _ k) ?_
 rfl
theorem AbY (n : Nat) (hn : 1048576 < n) (ty : Nat) (x : Fu) (hx : Qb x) (left : Int) (h0 : 0 ≤ left) (h1 : left ≤ 1048576) : Bv E0 (n + 1) ty 221 [.agg (Bg x), .sc (.int .i64 left)] = Q4 (Ft x) left := by
 obtain ⟨k0, _⟩ := hx
 unfold Ft
 rw [Av, Ado, f221]
 simp only [Cl, A8, Az, C7, A2, Ay]
 rw [Ec _ _ _ (Jw x)]
 simp only [List.length_nil, List.nil_append, List.length_cons, List.cons_append, Nat.zero_add, Nat.reduceAdd]
 refine K5 (s := x.fFilter) rfl h0 h1 k0 rfl fun h0 h1 => ?_
 exact Qr h0
theorem Aan (n : Nat) (hn : 1048576 < n) (l : List Fu) (h : Om Ft l ≤ 1048576) : Bv E0 (n + 2) 32 127 [Bq Bg l] = some (Bq Bg l) := by
 have e := Fc Ft l
 exact Qu (n := n + 1) (w := 2) (bytes := 24) (cty := L7) Bg [(.sc (.string ⟨#[]⟩)), (.sc (.int .i64 0))] rfl E6 rfl (by decide) Xu Acm Jw rfl (fun k => Mb (PR (n + 1) AV) (n + 1) k) (fun k m a o i H => rfl) (fun a H k => AcE (n + 1) a H k) (by decide) l (fun x hx => Ach n hn x (by have := Gu (wt := Ft) hx; omega)) (fun x _ => Sr 6 x) (by omega) (by omega)
theorem X7 (n : Nat) (hn : 1048576 < n) (tb : Nat) (l : List Fu) (h : Om Ft l ≤ 1048576) : Bv E0 (n + 2) tb 96 [Bq Bg l, Bq Bg l] = some (.sc (.bool true)) := by
 have e := Fc Ft l
 exact Pa (n := n + 1) Bg E6 (by decide) Jw rfl (fun k => Po (PR (n + 1) AV) (n + 1) k) (fun k m a b i H => rfl) (fun a b H k => AfJ (n + 1) a b H k) l (fun x hx => Aa2 n hn _ x (by have := Gu (wt := Ft) hx; omega)) (by omega) (by omega) tb
theorem Aal (n : Nat) (hn : 1048576 < n) (ty : Nat) (l : List Fu) (hmax : l.length ≤ 9223372036854775807) (hok : ∀ x ∈ l, Qb x) (left : Int) (h0 : 0 ≤ left) (h1 : left ≤ 1048576) : Bv E0 (n + 2) ty 121 [Bq Bg l, .sc (.int .i64 left)] = some (.sc (.int .i64 (Fz (Om Ft l) left))) :=
 Qs (n := n + 1) Bg Ft E6 (by decide) Jw rfl (fun k => L9 (PR (n + 1) AV) (n + 1) k) (fun k m a l i H => rfl) (fun a b H k => AcA (n + 1) a b H k) l (fun x hx left h0 h1 => AbY n hn _ x (hok x hx) left h0 h1) hmax (by omega) left h0 h1 ty
structure Ar where
 fType : Int
 fDup : Bool
 fQos : Int
 fRetain : Bool
 fId : Int
 fTopic : ByteArray
 fBody : ByteArray
 fClient : ByteArray
 fLevel : Int
 fClean : Bool
 fKeep : Int
 fHasWill : Bool
 fWTopic : ByteArray
 fWBody : ByteArray
 fWQos : Int
 fWRetain : Bool
 fHasUser : Bool
 fUser : ByteArray
 fHasPass : Bool
 fPass : ByteArray
 fCode : Int
 fPresent : Bool
 fWants : List Fu
 fNames : List ByteArray
 fCodes : List Int
def A6 (x : Ar) : List AV := .sc (.int .i64 x.fType) :: .sc (.bool x.fDup) :: .sc (.int .i64 x.fQos) :: .sc (.bool x.fRetain) :: .sc (.int .i64 x.fId) :: .sc (.string x.fTopic) :: Ax x.fBody :: .sc (.string x.fClient) :: .sc (.int .i64 x.fLevel) :: .sc (.bool x.fClean) :: .sc (.int .i64 x.fKeep) :: .sc (.bool x.fHasWill) :: .sc (.string x.fWTopic) :: Ax x.fWBody :: .sc (.int .i64 x.fWQos) :: .sc (.bool x.fWRetain) :: .sc (.bool x.fHasUser) :: .sc (.string x.fUser) :: .sc (.bool x.fHasPass) :: Ax x.fPass :: .sc (.int .i64 x.fCode) :: .sc (.bool x.fPresent) :: Bq Bg x.fWants :: Dc x.fNames :: Dl x.fCodes :: []
def C6 (x : Ar) : Nat := x.fTopic.size + (x.fBody.size + (x.fClient.size + (x.fWTopic.size + (x.fWBody.size + (x.fUser.size + (x.fPass.size + (Om Ft x.fWants + (Om ByteArray.size x.fNames + (x.fCodes.length + 0)))))))))
def P7 (x : Ar) : Prop := S4 x.fType ∧ True ∧ S4 x.fQos ∧ True ∧ S4 x.fId ∧ M7 x.fTopic ∧ M7 x.fBody ∧ M7 x.fClient ∧ S4 x.fLevel ∧ True ∧ S4 x.fKeep ∧ True ∧ M7 x.fWTopic ∧ M7 x.fWBody ∧ S4 x.fWQos ∧ True ∧ True ∧ M7 x.fUser ∧ True ∧ M7 x.fPass ∧ S4 x.fCode ∧ True ∧ (x.fWants.length ≤ 9223372036854775807 ∧ ∀ z ∈ x.fWants, Qb z) ∧ (x.fNames.length ≤ 9223372036854775807 ∧ ∀ z ∈ x.fNames, M7 z) ∧ (x.fCodes.length ≤ 9223372036854775807 ∧ ∀ z ∈ x.fCodes, S4 z)
theorem B4 (x : Ar) : (A6 x).all F4 = true := rfl
def I3 : List Nat := [3, 4, 3, 4, 3, 9, 31, 9, 3, 4, 3, 4, 9, 31, 3, 4, 4, 9, 4, 31, 3, 4, 32, 33, 34]
theorem Ug : ∃ i, As 36 = some i ∧ i.cty = I3 := ⟨_, rfl, rfl⟩
theorem Rs (d : Nat) (x : Ar) : Gf (Ht As E0.tp (d + 2)) I3 (A6 x) := ⟨trivial, ⟨trivial, ⟨trivial, ⟨trivial, ⟨trivial, ⟨trivial, ⟨Lg (d := d + 0) M5 x.fBody, ⟨trivial, ⟨trivial, ⟨trivial, ⟨trivial, ⟨trivial, ⟨trivial, ⟨Lg (d := d + 0) M5 x.fWBody, ⟨trivial, ⟨trivial, ⟨trivial, ⟨trivial, ⟨trivial, ⟨Lg (d := d + 0) M5 x.fPass, ⟨trivial, ⟨trivial, ⟨Qa (d := d + 1) E6 Xu (Sr (d + 0)) x.fWants, ⟨Mr (d := d + 0) (fun s : ByteArray => .string s) Nu x.fNames, ⟨Mr (d := d + 0) (fun z : Int => .int .i64 z) Aci x.fCodes, trivial⟩⟩⟩⟩⟩⟩⟩⟩⟩⟩⟩⟩⟩⟩⟩⟩⟩⟩⟩⟩⟩⟩⟩⟩⟩
theorem V3 {n : Nat} {cs : List AV} (h : Or As n 68 cs) : ∃ x : Ar, cs = A6 x ∧ P7 x := by
 obtain ⟨m, hf⟩ := H4 (fs := [(0, 3), (1, 4), (2, 3), (3, 4), (4, 3), (5, 9), (6, 31), (7, 9), (8, 3), (9, 4), (10, 3), (11, 4), (12, 9), (13, 31), (14, 3), (15, 4), (16, 4), (17, 9), (18, 4), (19, 31), (20, 3), (21, 4), (22, 66), (23, 33), (24, 34)]) ⟨_, rfl, rfl, rfl, rfl, rfl, rfl, rfl⟩ h
 obtain ⟨a0, b0, rfl, h0, hf⟩ := hf
 obtain ⟨v0, rfl, k0⟩ := D7 h0
 obtain ⟨a1, b1, rfl, h1, hf⟩ := hf
 obtain ⟨v1, rfl⟩ := Ff h1
 obtain ⟨a2, b2, rfl, h2, hf⟩ := hf
 obtain ⟨v2, rfl, k2⟩ := D7 h2
 obtain ⟨a3, b3, rfl, h3, hf⟩ := hf
 obtain ⟨v3, rfl⟩ := Ff h3
 obtain ⟨a4, b4, rfl, h4, hf⟩ := hf
 obtain ⟨v4, rfl, k4⟩ := D7 h4
 obtain ⟨a5, b5, rfl, h5, hf⟩ := hf
 obtain ⟨v5, rfl, k5⟩ := Gs h5
 obtain ⟨a6, b6, rfl, h6, hf⟩ := hf
 obtain ⟨v6, rfl, k6⟩ := J6 ⟨_, rfl, rfl, rfl, rfl, rfl, rfl⟩ h6
 obtain ⟨a7, b7, rfl, h7, hf⟩ := hf
 obtain ⟨v7, rfl, k7⟩ := Gs h7
 obtain ⟨a8, b8, rfl, h8, hf⟩ := hf
 obtain ⟨v8, rfl, k8⟩ := D7 h8
 obtain ⟨a9, b9, rfl, h9, hf⟩ := hf
 obtain ⟨v9, rfl⟩ := Ff h9
 obtain ⟨a10, b10, rfl, h10, hf⟩ := hf
 obtain ⟨v10, rfl, k10⟩ := D7 h10
 obtain ⟨a11, b11, rfl, h11, hf⟩ := hf
 obtain ⟨v11, rfl⟩ := Ff h11
 obtain ⟨a12, b12, rfl, h12, hf⟩ := hf
 obtain ⟨v12, rfl, k12⟩ := Gs h12
 obtain ⟨a13, b13, rfl, h13, hf⟩ := hf
 obtain ⟨v13, rfl, k13⟩ := J6 ⟨_, rfl, rfl, rfl, rfl, rfl, rfl⟩ h13
 obtain ⟨a14, b14, rfl, h14, hf⟩ := hf
 obtain ⟨v14, rfl, k14⟩ := D7 h14
 obtain ⟨a15, b15, rfl, h15, hf⟩ := hf
 obtain ⟨v15, rfl⟩ := Ff h15
 obtain ⟨a16, b16, rfl, h16, hf⟩ := hf
 obtain ⟨v16, rfl⟩ := Ff h16
 obtain ⟨a17, b17, rfl, h17, hf⟩ := hf
 obtain ⟨v17, rfl, k17⟩ := Gs h17
 obtain ⟨a18, b18, rfl, h18, hf⟩ := hf
 obtain ⟨v18, rfl⟩ := Ff h18
 obtain ⟨a19, b19, rfl, h19, hf⟩ := hf
 obtain ⟨v19, rfl, k19⟩ := J6 ⟨_, rfl, rfl, rfl, rfl, rfl, rfl⟩ h19
 obtain ⟨a20, b20, rfl, h20, hf⟩ := hf
 obtain ⟨v20, rfl, k20⟩ := D7 h20
 obtain ⟨a21, b21, rfl, h21, hf⟩ := hf
 obtain ⟨v21, rfl⟩ := Ff h21
 obtain ⟨a22, b22, rfl, h22, hf⟩ := hf
 obtain ⟨v22, rfl, k22⟩ := Jc (ok := Qb) ⟨_, rfl, rfl, rfl, rfl, rfl, rfl⟩ (fun n cs h => AbF h) h22
 obtain ⟨a23, b23, rfl, h23, hf⟩ := hf
 obtain ⟨v23, rfl, k23⟩ := Aag ⟨_, rfl, rfl, rfl, rfl, rfl, rfl⟩ h23
 obtain ⟨a24, b24, rfl, h24, hf⟩ := hf
 obtain ⟨v24, rfl, k24⟩ := Aaf ⟨_, rfl, rfl, rfl, rfl, rfl, rfl⟩ h24
 subst hf
 exact ⟨⟨v0, v1, v2, v3, v4, v5, v6, v7, v8, v9, v10, v11, v12, v13, v14, v15, v16, v17, v18, v19, v20, v21, v22, v23, v24⟩, rfl, k0, trivial, k2, trivial, k4, k5, k6, k7, k8, trivial, k10, trivial, k12, k13, k14, trivial, trivial, k17, trivial, k19, k20, trivial, k22, k23, k24⟩
def Acv : List AV := [(.sc (.int .i64 0)), (.sc (.bool false)), (.sc (.int .i64 0)), (.sc (.bool false)), (.sc (.int .i64 0)), (.sc (.string ⟨#[]⟩)), .nl, (.sc (.string ⟨#[]⟩)), (.sc (.int .i64 0)), (.sc (.bool false)), (.sc (.int .i64 0)), (.sc (.bool false)), (.sc (.string ⟨#[]⟩)), .nl, (.sc (.int .i64 0)), (.sc (.bool false)), (.sc (.bool false)), (.sc (.string ⟨#[]⟩)), (.sc (.bool false)), .nl, (.sc (.int .i64 0)), (.sc (.bool false)), .nl, .nl, .nl]
set_option maxHeartbeats 3200000 in
theorem Wa (n : Nat) (hn : 1048576 < n) (x : Ar) (h : C6 x ≤ 1048576) : Bv E0 (n + 3) 36 36 [.agg (A6 x)] = some (.agg (A6 x)) := by
 rw [Av, Af5, f36]
 simp only [Cl, Dm, A8, Az, Cw, Nl]
 rw [Ec _ _ _ (B4 x)]
 simp only [List.length_nil, List.nil_append, List.length_cons, List.cons_append, Nat.zero_add, Nat.reduceAdd]
 refine D8 (T := I3) (C := A6 x) (Z := Acv) (v := .int .i64 x.fType) (o' := 1) rfl rfl rfl rfl rfl ?_
 refine D8 (v := .bool x.fDup) (o' := 2) rfl rfl rfl rfl rfl ?_
 refine D8 (v := .int .i64 x.fQos) (o' := 3) rfl rfl rfl rfl rfl ?_
 refine D8 (v := .bool x.fRetain) (o' := 4) rfl rfl rfl rfl rfl ?_
 refine D8 (v := .int .i64 x.fId) (o' := 5) rfl rfl rfl rfl rfl ?_
 refine D8 (v := .string x.fTopic) (o' := 6) rfl rfl rfl rfl rfl ?_
 refine M3 (o' := 7) rfl rfl rfl rfl rfl (Lk (n + 1) (by omega) x.fBody (by unfold C6 at h; omega)) rfl ?_
 refine D8 (v := .string x.fClient) (o' := 8) rfl rfl rfl rfl rfl ?_
 refine D8 (v := .int .i64 x.fLevel) (o' := 9) rfl rfl rfl rfl rfl ?_
 refine D8 (v := .bool x.fClean) (o' := 10) rfl rfl rfl rfl rfl ?_
 refine D8 (v := .int .i64 x.fKeep) (o' := 11) rfl rfl rfl rfl rfl ?_
 refine D8 (v := .bool x.fHasWill) (o' := 12) rfl rfl rfl rfl rfl ?_
 refine D8 (v := .string x.fWTopic) (o' := 13) rfl rfl rfl rfl rfl ?_
 refine M3 (o' := 14) rfl rfl rfl rfl rfl (Lk (n + 1) (by omega) x.fWBody (by unfold C6 at h; omega)) rfl ?_
 refine D8 (v := .int .i64 x.fWQos) (o' := 15) rfl rfl rfl rfl rfl ?_
 refine D8 (v := .bool x.fWRetain) (o' := 16) rfl rfl rfl rfl rfl ?_
 refine D8 (v := .bool x.fHasUser) (o' := 17) rfl rfl rfl rfl rfl ?_
 refine D8 (v := .string x.fUser) (o' := 18) rfl rfl rfl rfl rfl ?_
 refine D8 (v := .bool x.fHasPass) (o' := 19) rfl rfl rfl rfl rfl ?_
 refine M3 (o' := 20) rfl rfl rfl rfl rfl (Lk (n + 1) (by omega) x.fPass (by unfold C6 at h; omega)) rfl ?_
 refine D8 (v := .int .i64 x.fCode) (o' := 21) rfl rfl rfl rfl rfl ?_
 refine D8 (v := .bool x.fPresent) (o' := 22) rfl rfl rfl rfl rfl ?_
 refine M3 (o' := 23) rfl rfl rfl rfl rfl (Aan (n + 0) (by omega) x.fWants (by unfold C6 at h; omega)) rfl ?_
 refine M3 (o' := 24) rfl rfl rfl rfl rfl (Ue (n + 1) (by omega) x.fNames (by unfold C6 at h; have := Fc ByteArray.size x.fNames; omega)) rfl ?_
 refine M3 (o' := 25) rfl rfl rfl rfl rfl (Ace (n + 1) (by omega) x.fCodes (by unfold C6 at h; omega)) rfl ?_
 exact Qp rfl rfl rfl (B4 x) Ug (Rs 5 x)
theorem Uy (n : Nat) (hn : 1048576 < n) (tb : Nat) (x : Ar) (h : C6 x ≤ 1048576) : Bv E0 (n + 3) tb 17 [.agg (A6 x), .agg (A6 x)] = some (.sc (.bool true)) := by
 rw [Av, Af2, f17]
 simp only [Cl, A8, Az, A2, Do, Cr, Ay]
 rw [Ec _ _ _ (B4 x), Ec _ _ _ (B4 x)]
 simp only [List.length_nil, List.nil_append, List.length_cons, List.cons_append, Nat.zero_add, Nat.reduceAdd]
 refine Fi (v := .int .i64 x.fType) rfl rfl (fun k => F5 _ k) ?_
 refine R7 (b := x.fDup) rfl rfl ?_
 refine Fi (v := .int .i64 x.fQos) rfl rfl (fun k => F5 _ k) ?_
 refine R7 (b := x.fRetain) rfl rfl ?_
 refine Fi (v := .int .i64 x.fId) rfl rfl (fun k => F5 _ k) ?_
 refine Fi (v := .string x.fTopic) rfl rfl (fun k => J5 _ k) ?_
 refine L8 rfl rfl rfl (K9 (n + 1) (by omega) _ x.fBody (by unfold C6 at h; omega)) ?_
 refine Fi (v := .string x.fClient) rfl rfl (fun k => J5 _ k) ?_
 refine Fi (v := .int .i64 x.fLevel) rfl rfl (fun k => F5 _ k) ?_
 refine R7 (b := x.fClean) rfl rfl ?_
 refine Fi (v := .int .i64 x.fKeep) rfl rfl (fun k => F5 _ k) ?_
 refine R7 (b := x.fHasWill) rfl rfl ?_
 refine Fi (v := .string x.fWTopic) rfl rfl (fun k => J5 _ k) ?_
 refine L8 rfl rfl rfl (K9 (n + 1) (by omega) _ x.fWBody (by unfold C6 at h; omega)) ?_
 refine Fi (v := .int .i64 x.fWQos) rfl rfl (fun k => F5 _ k) ?_
 refine R7 (b := x.fWRetain) rfl rfl ?_
 refine R7 (b := x.fHasUser) rfl rfl ?_
 refine Fi (v := .string x.fUser) rfl rfl (fun k => J5 _ k) ?_
 refine R7 (b := x.fHasPass) rfl rfl ?_
 refine L8 rfl rfl rfl (K9 (n + 1) (by omega) _ x.fPass (by unfold C6 at h; omega)) ?_
 refine Fi (v := .int .i64 x.fCode) rfl rfl (fun k => F5 _ k) ?_
 refine R7 (b := x.fPresent) rfl rfl ?_
 refine L8 rfl rfl rfl (X7 (n + 0) (by omega) _ x.fWants (by unfold C6 at h; omega)) ?_
 refine L8 rfl rfl rfl (Tl (n + 1) (by omega) _ x.fNames (by unfold C6 at h; have := Fc ByteArray.size x.fNames; omega)) ?_
 refine L8 rfl rfl rfl (Aay (n + 1) (by omega) _ x.fCodes (by unfold C6 at h; omega)) ?_
 rfl
theorem V9 (n : Nat) (hn : 1048576 < n) (ty : Nat) (x : Ar) (hx : P7 x) (left : Int) (h0 : 0 ≤ left) (h1 : left ≤ 1048576) : Bv E0 (n + 3) ty 33 [.agg (A6 x), .sc (.int .i64 left)] = Q4 (C6 x) left := by
 obtain ⟨_, _, _, _, _, k5, k6, k7, _, _, _, _, k12, k13, _, _, _, k17, _, k19, _, _, k22, k23, k24⟩ := hx
 unfold C6
 rw [Av, Af3, f33]
 simp only [Cl, A8, Az, C7, A2, Ay]
 rw [Ec _ _ _ (B4 x)]
 simp only [List.length_nil, List.nil_append, List.length_cons, List.cons_append, Nat.zero_add, Nat.reduceAdd]
 refine K5 (s := x.fTopic) rfl h0 h1 k5 rfl fun h0 h1 => ?_
 refine M4 rfl h0 h1 rfl (Lj (n + 1) _ x.fBody k6 _ h0 h1) rfl fun h0 h1 => ?_
 refine K5 (s := x.fClient) rfl h0 h1 k7 rfl fun h0 h1 => ?_
 refine K5 (s := x.fWTopic) rfl h0 h1 k12 rfl fun h0 h1 => ?_
 refine M4 rfl h0 h1 rfl (Lj (n + 1) _ x.fWBody k13 _ h0 h1) rfl fun h0 h1 => ?_
 refine K5 (s := x.fUser) rfl h0 h1 k17 rfl fun h0 h1 => ?_
 refine M4 rfl h0 h1 rfl (Lj (n + 1) _ x.fPass k19 _ h0 h1) rfl fun h0 h1 => ?_
 refine M4 rfl h0 h1 rfl (Aal (n + 0) (by omega) _ x.fWants k22.1 k22.2 _ h0 h1) rfl fun h0 h1 => ?_
 refine M4 rfl h0 h1 rfl (Uc (n + 1) (by omega) _ x.fNames k23.1 k23.2 _ h0 h1) rfl fun h0 h1 => ?_
 refine M4 rfl h0 h1 rfl (AbU (n + 1) _ x.fCodes k24.1 _ h0 h1) rfl fun h0 h1 => ?_
 exact Qr h0
structure Jm where
 fClient : ByteArray
 fQos : Int
 fBorn : Int
def C0 (x : Jm) : List AV := .sc (.string x.fClient) :: .sc (.int .i64 x.fQos) :: .sc (.int .i64 x.fBorn) :: []
def Hd (x : Jm) : Nat := x.fClient.size + 0
def Tv (x : Jm) : Prop := M7 x.fClient ∧ S4 x.fQos ∧ S4 x.fBorn
theorem Kz (x : Jm) : (C0 x).length = 3 := rfl
theorem I4 (x : Jm) : (C0 x).all F4 = true := rfl
def O4 : List Nat := [9, 3, 3]
theorem Afb : ∃ i, As 188 = some i ∧ i.cty = O4 := ⟨_, rfl, rfl⟩
theorem V4 (d : Nat) (x : Jm) : Gf (Ht As E0.tp (d + 1)) O4 (C0 x) := ⟨trivial, ⟨trivial, ⟨trivial, trivial⟩⟩⟩
theorem AdV {n : Nat} {cs : List AV} (h : Or As n 250 cs) : ∃ x : Jm, cs = C0 x ∧ Tv x := by
 obtain ⟨m, hf⟩ := H4 (fs := [(0, 9), (1, 3), (2, 3)]) ⟨_, rfl, rfl, rfl, rfl, rfl, rfl, rfl⟩ h
 obtain ⟨a0, b0, rfl, h0, hf⟩ := hf
 obtain ⟨v0, rfl, k0⟩ := Gs h0
 obtain ⟨a1, b1, rfl, h1, hf⟩ := hf
 obtain ⟨v1, rfl, k1⟩ := D7 h1
 obtain ⟨a2, b2, rfl, h2, hf⟩ := hf
 obtain ⟨v2, rfl, k2⟩ := D7 h2
 subst hf
 exact ⟨⟨v0, v1, v2⟩, rfl, k0, k1, k2⟩
theorem Acl : ∃ i j, As 84 = some i ∧ As i.elem = some j ∧ j.size = 3 ∧ j.cty = O4 := ⟨_, _, rfl, rfl, rfl, rfl⟩
def AgL : List AV := [(.sc (.string ⟨#[]⟩)), (.sc (.int .i64 0)), (.sc (.int .i64 0))]
theorem Aep (n : Nat) (hn : 1048576 < n) (x : Jm) (h : Hd x ≤ 1048576) : Bv E0 (n + 1) 188 233 [.agg (C0 x)] = some (.agg (C0 x)) := by
 rw [Av, Adw, f233]
 simp only [Cl, Dm, A8, Az, Cw, Nl]
 rw [Ec _ _ _ (I4 x)]
 simp only [List.length_nil, List.nil_append, List.length_cons, List.cons_append, Nat.zero_add, Nat.reduceAdd]
 refine D8 (T := O4) (C := C0 x) (Z := AgL) (v := .string x.fClient) (o' := 1) rfl rfl rfl rfl rfl ?_
 refine D8 (v := .int .i64 x.fQos) (o' := 2) rfl rfl rfl rfl rfl ?_
 refine D8 (v := .int .i64 x.fBorn) (o' := 3) rfl rfl rfl rfl rfl ?_
 exact Qp rfl rfl rfl (I4 x) Afb (V4 6 x)
theorem Ac6 (n : Nat) (hn : 1048576 < n) (tb : Nat) (x : Jm) (h : Hd x ≤ 1048576) : Bv E0 (n + 1) tb 235 [.agg (C0 x), .agg (C0 x)] = some (.sc (.bool true)) := by
 rw [Av, Adx, f235]
 simp only [Cl, A8, Az, A2, Do, Cr, Ay]
 rw [Ec _ _ _ (I4 x), Ec _ _ _ (I4 x)]
 simp only [List.length_nil, List.nil_append, List.length_cons, List.cons_append, Nat.zero_add, Nat.reduceAdd]
 refine Fi (v := .string x.fClient) rfl rfl (fun k => J5 _ k) ?_
 refine Fi (v := .int .i64 x.fQos) rfl rfl (fun k => F5 _ k) ?_
 refine Fi (v := .int .i64 x.fBorn) rfl rfl (fun k => F5 _ k) ?_
 rfl
theorem Aen (n : Nat) (hn : 1048576 < n) (ty : Nat) (x : Jm) (hx : Tv x) (left : Int) (h0 : 0 ≤ left) (h1 : left ≤ 1048576) : Bv E0 (n + 1) ty 230 [.agg (C0 x), .sc (.int .i64 left)] = Q4 (Hd x) left := by
 obtain ⟨k0, _, _⟩ := hx
 unfold Hd
 rw [Av, Adt, f230]
 simp only [Cl, A8, Az, C7, A2, Ay]
 rw [Ec _ _ _ (I4 x)]
 simp only [List.length_nil, List.nil_append, List.length_cons, List.cons_append, Nat.zero_add, Nat.reduceAdd]
 refine K5 (s := x.fClient) rfl h0 h1 k0 rfl fun h0 h1 => ?_
 exact Qr h0
theorem Acg (n : Nat) (hn : 1048576 < n) (l : List Jm) (h : Om Hd l ≤ 1048576) : Bv E0 (n + 2) 84 143 [Bq C0 l] = some (Bq C0 l) := by
 have e := Fc Hd l
 exact Qu (n := n + 1) (w := 3) (bytes := 32) (cty := O4) C0 [(.sc (.string ⟨#[]⟩)), (.sc (.int .i64 0)), (.sc (.int .i64 0))] rfl Kz rfl (by decide) Acl Afb I4 rfl (fun k => Me (PR (n + 1) AV) (n + 1) k) (fun k m a o i H => rfl) (fun a H k => AcQ (n + 1) a H k) (by decide) l (fun x hx => Aep n hn x (by have := Gu (wt := Hd) hx; omega)) (fun x _ => V4 6 x) (by omega) (by omega)
theorem Aa0 (n : Nat) (hn : 1048576 < n) (tb : Nat) (l : List Jm) (h : Om Hd l ≤ 1048576) : Bv E0 (n + 2) tb 153 [Bq C0 l, Bq C0 l] = some (.sc (.bool true)) := by
 have e := Fc Hd l
 exact Pa (n := n + 1) C0 Kz (by decide) I4 rfl (fun k => Mg (PR (n + 1) AV) (n + 1) k) (fun k m a b i H => rfl) (fun a b H k => AcZ (n + 1) a b H k) l (fun x hx => Ac6 n hn _ x (by have := Gu (wt := Hd) hx; omega)) (by omega) (by omega) tb
theorem AbW (n : Nat) (hn : 1048576 < n) (ty : Nat) (l : List Jm) (hmax : l.length ≤ 9223372036854775807) (hok : ∀ x ∈ l, Tv x) (left : Int) (h0 : 0 ≤ left) (h1 : left ≤ 1048576) : Bv E0 (n + 2) ty 133 [Bq C0 l, .sc (.int .i64 left)] = some (.sc (.int .i64 (Fz (Om Hd l) left))) :=
 Qs (n := n + 1) C0 Hd Kz (by decide) I4 rfl (fun k => Md (PR (n + 1) AV) (n + 1) k) (fun k m a l i H => rfl) (fun a b H k => AcG (n + 1) a b H k) l (fun x hx left h0 h1 => Aen n hn _ x (hok x hx) left h0 h1) hmax (by omega) left h0 h1 ty
structure D3 where
 fOp : Int
 fPc : Int
 fClient : ByteArray
 fP : Ar
 fTo : List Jm
 fM : Fl
 fKs : List Fl
 fH : Int
def Dw (x : D3) : List AV := .sc (.int .i64 x.fOp) :: .sc (.int .i64 x.fPc) :: .sc (.string x.fClient) :: (A6 x.fP ++ Bq C0 x.fTo :: (B8 x.fM ++ Bq B8 x.fKs :: .sc (.int .i64 x.fH) :: []))
def Fs (x : D3) : Nat := x.fClient.size + (C6 x.fP + (Om Hd x.fTo + (Fd x.fM + (Om Fd x.fKs + 0))))
def P8 (x : D3) : Prop := S4 x.fOp ∧ S4 x.fPc ∧ M7 x.fClient ∧ P7 x.fP ∧ (x.fTo.length ≤ 9223372036854775807 ∧ ∀ z ∈ x.fTo, Tv z) ∧ Rr x.fM ∧ (x.fKs.length ≤ 9223372036854775807 ∧ ∀ z ∈ x.fKs, Rr z) ∧ S4 x.fH
theorem J4 (x : D3) : (Dw x).length = 35 := rfl
theorem Ev (x : D3) : (Dw x).all F4 = true := rfl
def R6 : List Nat := [3, 3, 9, 3, 4, 3, 4, 3, 9, 31, 9, 3, 4, 3, 4, 9, 31, 3, 4, 4, 9, 4, 31, 3, 4, 32, 33, 34, 84, 9, 31, 3, 4, 28, 3]
theorem S3 : ∃ i, As 87 = some i ∧ i.cty = R6 := ⟨_, rfl, rfl⟩
theorem Ot (d : Nat) (x : D3) : Gf (Ht As E0.tp (d + 3)) R6 (Dw x) := ⟨trivial, ⟨trivial, ⟨trivial, Im (ts := I3) (ts' := [84, 9, 31, 3, 4, 28, 3]) (Rs (d + 1) x.fP) ⟨Qa (d := d + 2) Kz Acl (V4 (d + 1)) x.fTo, Im (ts := Lt) (ts' := [28, 3]) (Sq (d + 1) x.fM) ⟨Qa (d := d + 2) Ky Ack (Sq (d + 0)) x.fKs, ⟨trivial, trivial⟩⟩⟩⟩⟩⟩
theorem AbE {n : Nat} {cs : List AV} (h : Or As n 81 cs) : ∃ x : D3, cs = Dw x ∧ P8 x := by
 obtain ⟨m, hf⟩ := H4 (fs := [(0, 3), (1, 3), (2, 9), (3, 68), (28, 77), (29, 79), (33, 23), (34, 3)]) ⟨_, rfl, rfl, rfl, rfl, rfl, rfl, rfl⟩ h
 obtain ⟨a0, b0, rfl, h0, hf⟩ := hf
 obtain ⟨v0, rfl, k0⟩ := D7 h0
 obtain ⟨a1, b1, rfl, h1, hf⟩ := hf
 obtain ⟨v1, rfl, k1⟩ := D7 h1
 obtain ⟨a2, b2, rfl, h2, hf⟩ := hf
 obtain ⟨v2, rfl, k2⟩ := Gs h2
 obtain ⟨a3, b3, rfl, h3, hf⟩ := hf
 obtain ⟨v3, rfl, k3⟩ := V3 h3
 obtain ⟨a4, b4, rfl, h4, hf⟩ := hf
 obtain ⟨v4, rfl, k4⟩ := Jc (ok := Tv) ⟨_, rfl, rfl, rfl, rfl, rfl, rfl⟩ (fun n cs h => AdV h) h4
 obtain ⟨a5, b5, rfl, h5, hf⟩ := hf
 obtain ⟨v5, rfl, k5⟩ := Xk h5
 obtain ⟨a6, b6, rfl, h6, hf⟩ := hf
 obtain ⟨v6, rfl, k6⟩ := Jc (ok := Rr) ⟨_, rfl, rfl, rfl, rfl, rfl, rfl⟩ (fun n cs h => Xk h) h6
 obtain ⟨a7, b7, rfl, h7, hf⟩ := hf
 obtain ⟨v7, rfl, k7⟩ := D7 h7
 subst hf
 exact ⟨⟨v0, v1, v2, v3, v4, v5, v6, v7⟩, rfl, k0, k1, k2, k3, k4, k5, k6, k7⟩
def Agi : List AV := [(.sc (.int .i64 0)), (.sc (.int .i64 0)), (.sc (.string ⟨#[]⟩)), (.sc (.int .i64 0)), (.sc (.bool false)), (.sc (.int .i64 0)), (.sc (.bool false)), (.sc (.int .i64 0)), (.sc (.string ⟨#[]⟩)), .nl, (.sc (.string ⟨#[]⟩)), (.sc (.int .i64 0)), (.sc (.bool false)), (.sc (.int .i64 0)), (.sc (.bool false)), (.sc (.string ⟨#[]⟩)), .nl, (.sc (.int .i64 0)), (.sc (.bool false)), (.sc (.bool false)), (.sc (.string ⟨#[]⟩)), (.sc (.bool false)), .nl, (.sc (.int .i64 0)), (.sc (.bool false)), .nl, .nl, .nl, .nl, (.sc (.string ⟨#[]⟩)), .nl, (.sc (.int .i64 0)), (.sc (.bool false)), .nl, (.sc (.int .i64 0))]
set_option maxHeartbeats 3200000 in
theorem Qt (n : Nat) (hn : 1048576 < n) (x : D3) (h : Fs x ≤ 1048576) : Bv E0 (n + 4) 87 43 [.agg (Dw x)] = some (.agg (Dw x)) := by
 rw [Av, Af9, f43]
 simp only [Cl, Dm, A8, Az, Cw, Nl]
 rw [Ec _ _ _ (Ev x)]
 simp only [List.length_nil, List.nil_append, List.length_cons, List.cons_append, Nat.zero_add, Nat.reduceAdd]
 refine D8 (T := R6) (C := Dw x) (Z := Agi) (v := .int .i64 x.fOp) (o' := 1) rfl rfl rfl rfl rfl ?_
 refine D8 (v := .int .i64 x.fPc) (o' := 2) rfl rfl rfl rfl rfl ?_
 refine D8 (v := .string x.fClient) (o' := 3) rfl rfl rfl rfl rfl ?_
 refine AbT (cty := I3) (cells := A6 x.fP) (o' := 28) rfl rfl rfl rfl rfl (B4 _) (Wa (n + 0) (by omega) x.fP (by unfold Fs at h; omega)) Ug rfl (by decide) rfl ?_
 refine M3 (o' := 29) rfl rfl rfl rfl rfl (Acg (n + 1) (by omega) x.fTo (by unfold Fs at h; omega)) rfl ?_
 refine AbT (cty := Lt) (cells := B8 x.fM) (o' := 33) rfl rfl rfl rfl rfl (Eo _) (Xs (n + 1) (by omega) x.fM (by unfold Fs at h; omega)) Acj rfl (by decide) rfl ?_
 refine M3 (o' := 34) rfl rfl rfl rfl rfl (Acf (n + 0) (by omega) x.fKs (by unfold Fs at h; omega)) rfl ?_
 refine D8 (v := .int .i64 x.fH) (o' := 35) rfl rfl rfl rfl rfl ?_
 exact Qp rfl rfl rfl (Ev x) S3 (Ot 4 x)
theorem Aa1 (n : Nat) (hn : 1048576 < n) (tb : Nat) (x : D3) (h : Fs x ≤ 1048576) : Bv E0 (n + 4) tb 45 [.agg (Dw x), .agg (Dw x)] = some (.sc (.bool true)) := by
 rw [Av, AfB, f45]
 simp only [Cl, A8, Az, A2, Do, Cr, Ay]
 rw [Ec _ _ _ (Ev x), Ec _ _ _ (Ev x)]
 simp only [List.length_nil, List.nil_append, List.length_cons, List.cons_append, Nat.zero_add, Nat.reduceAdd]
 refine Fi (v := .int .i64 x.fOp) rfl rfl (fun k => F5 _ k) ?_
 refine Fi (v := .int .i64 x.fPc) rfl rfl (fun k => F5 _ k) ?_
 refine Fi (v := .string x.fClient) rfl rfl (fun k => J5 _ k) ?_
 refine Aa3 (cells := A6 x.fP) rfl rfl rfl (B4 _) (Uy (n + 0) (by omega) _ x.fP (by unfold Fs at h; omega)) ?_
 refine L8 rfl rfl rfl (Aa0 (n + 1) (by omega) _ x.fTo (by unfold Fs at h; omega)) ?_
 refine Aa3 (cells := B8 x.fM) rfl rfl rfl (Eo _) (Wl (n + 1) (by omega) _ x.fM (by unfold Fs at h; omega)) ?_
 refine L8 rfl rfl rfl (Aaz (n + 0) (by omega) _ x.fKs (by unfold Fs at h; omega)) ?_
 refine Fi (v := .int .i64 x.fH) rfl rfl (fun k => F5 _ k) ?_
 rfl
theorem AbX (n : Nat) (hn : 1048576 < n) (ty : Nat) (x : D3) (hx : P8 x) (left : Int) (h0 : 0 ≤ left) (h1 : left ≤ 1048576) : Bv E0 (n + 4) ty 41 [.agg (Dw x), .sc (.int .i64 left)] = Q4 (Fs x) left := by
 obtain ⟨_, _, k2, k3, k4, k5, k6, _⟩ := hx
 unfold Fs
 rw [Av, Af7, f41]
 simp only [Cl, A8, Az, C7, A2, Ay]
 rw [Ec _ _ _ (Ev x)]
 simp only [List.length_nil, List.nil_append, List.length_cons, List.cons_append, Nat.zero_add, Nat.reduceAdd]
 refine K5 (s := x.fClient) rfl h0 h1 k2 rfl fun h0 h1 => ?_
 refine AbZ (cells := A6 x.fP) rfl h0 h1 rfl (B4 _) (V9 (n + 0) (by omega) _ x.fP k3 _ h0 h1) rfl fun h0 h1 => ?_
 refine M4 rfl h0 h1 rfl (AbW (n + 1) (by omega) _ x.fTo k4.1 k4.2 _ h0 h1) rfl fun h0 h1 => ?_
 refine AbZ (cells := B8 x.fM) rfl h0 h1 rfl (Eo _) (Xq (n + 1) (by omega) _ x.fM k5 _ h0 h1) rfl fun h0 h1 => ?_
 refine M4 rfl h0 h1 rfl (AbV (n + 0) (by omega) _ x.fKs k6.1 k6.2 _ h0 h1) rfl fun h0 h1 => ?_
 exact Qr h0
end
section
open Go
variable {β : Type} {n : Nat} {H : Af} {r : Option β}
theorem Fp : ([] : List AV).mapM (Ci H 8) = some [] := rfl
theorem Cn {x v : AV} {xs vs : List AV} (h : Vw H x v) (hs : xs.mapM (Ci H 8) = some vs) : (x :: xs).mapM (Ci H 8) = some (v :: vs) := by
 simp only [List.mapM_cons, h.now, hs, Option.pure_def, Option.bind_eq_bind, Option.bind_some]
theorem Hw {i : Nat} {b : Gw} (h : H[i]? = some b) (X : List Gw) : (H ++ X)[i]? = some b := by
 rw [List.getElem?_append_left (List.getElem?_eq_some_iff.1 h).1]
 exact h
theorem AfQ {cs : List AV} {K : KO β} (hf : cs.all F4 = true) (h : ∀ i, (H ++ [⟨cs, true, true⟩])[i]? = some ⟨cs, true, true⟩ → K (.ptr i 0) (H ++ [⟨cs, true, true⟩]) = r) : T2 (.agg cs) H (fun x H => K x H) = r := by
 rw [Ec cs H _ hf]
 exact h _ (by rw [List.getElem?_append_right (Nat.le_refl _), Nat.sub_self]; rfl)
theorem Rl {i w : Nat} {cs : List AV} {K : AV → Option β} (hi : H[i]? = some ⟨cs, true, true⟩) (hw : cs.length = w) (h : K (.agg cs) = r) : Bz true w (.ptr i 0) H (fun x => K x) = r := by
 have e : Aw H i 0 w = some cs := by
  simp only [Aw, hi, if_true, List.drop_zero, Nat.zero_add, ← hw, Nat.le_refl, List.take_length]
 rw [ldT e]
 exact h
theorem Fk {ty f : Nat} {args vs : List AV} {v : Value} {K : KO β} (hh : Di f = false) (hv : args.mapM (Ci H 8) = some vs) (ht : Bv E0 n ty f vs = some (.sc v)) (h : K (.sc v) H = r) : (PR n β).call ty (.fn f [] []) args H (fun x H => K x H) = r := by
 rw [Et hh hv ht, Ey, List.append_nil]
 exact h
theorem Vz {ty f : Nat} {args vs cs : List AV} {K : KO β} (hh : Di f = false) (hv : args.mapM (Ci H 8) = some vs) (ht : Bv E0 n ty f vs = some (.agg cs)) (hf : cs.all F4 = true) (hok : Ht As E0.tp 8 ty (.agg cs)) (h : ∀ X (ys : List AV), ys.length = cs.length → ys.all Cp = true → Vw (H ++ X) (.agg ys) (.agg cs) → K (.agg ys) (H ++ X) = r) : (PR n β).call ty (.fn f [] []) args H (fun x H => K x H) = r := by
 rw [Et hh hv ht, Hs]
 refine h _ _ (Gb _ _ _) (H3 _ _ _ hf) ?_
 have := Ac2 H ty (.agg cs) hok
 rwa [Hs] at this
theorem AbA {w : Nat} {z ys : List AV} {K : KO β} (hz : z.length = w) (hy : ys.length = w) (hl : ys.all Cp = true) (h : ∀ i, (H ++ [⟨ys, true, true⟩])[i]? = some ⟨ys, true, true⟩ → K (.ptr i 0) (H ++ [⟨ys, true, true⟩]) = r) :
  Nl z H (fun t H => D0 w t (.agg ys) H fun H => K t H) = r := by
 have hg : (H ++ [(⟨z, true, true⟩ : Gw)])[H.length]? = some ⟨z, true, true⟩ := by rw [List.getElem?_append_right (Nat.le_refl _), Nat.sub_self]; rfl
 have hc : Dq (.agg ys) = some ys := by
  show (if ys.all Cp then some ys else none) = _
  rw [if_pos hl]
 show D0 w (.ptr H.length 0) (.agg ys) (H ++ [⟨z, true, true⟩]) _ = r
 rw [Ry w H.length 0 _ ⟨z, true, true⟩ ys _ _ hg hc hy (by rw [hz]; omega) rfl]
 have hs : Ee z 0 ys = ys := by
  unfold Ee
  rw [List.take_zero, List.nil_append, List.drop_of_length_le (by rw [hz, hy]; omega), List.append_nil]
 have e : (H ++ [(⟨z, true, true⟩ : Gw)]).set H.length ⟨ys, true, true⟩ = H ++ [⟨ys, true, true⟩] := by
  rw [List.set_append_right _ _ (Nat.le_refl _), Nat.sub_self]
  rfl
 simp only [hs, e]
 exact h _ (by rw [List.getElem?_append_right (Nat.le_refl _), Nat.sub_self]; rfl)
theorem Ag9 {ty f W : Nat} {args vs : List AV} {left : Int} {A : Af → Option β} {K : KO β} (hh : Di f = false) (hv : args.mapM (Ci H 8) = some vs) (ht : Bv E0 n ty f vs = some (.sc (.int .i64 (Fz W left)))) (h0 : 0 ≤ left) (hA : A H = r) (h : (W : Int) ≤ left → K (.sc (.int .i64 (left - W))) H = r) :
  (PR n β).call ty (.fn f [] []) args H (fun t H => Cg .lss t (.sc (.int .i64 0)) fun t' => Cy t' (A H) (K t H)) = r := by
 rw [Et hh hv ht, Ey, List.append_nil]
 simp only
 rw [Ja, Cf]
 by_cases hw : left < W
 ·have e : Fz W left = -1 := by rw [Fz, if_pos hw]
  rw [e, if_pos (by decide)]
  exact hA
 ·have e : Fz W left = left - W := by rw [Fz, if_neg hw]
  rw [e, if_neg (by simpa using (show ¬ left - (W : Int) < 0 by omega))]
  exact h (by omega)
theorem AfR {b : Bool} {A K : Option β} (h : K = r) : (Kg .neq (.sc (.bool b)) (.sc (.bool b)) fun t => Cy t A K) = r := by
 simp only [Kg, asB, Option.bind_some, binB, beq_self_eq_true, Bool.not_true]
 exact h
theorem Ag8 {ty f : Nat} {args vs : List AV} {A : Af → Option β} {K : Af → Option β} (hh : Di f = false) (hv : args.mapM (Ci H 8) = some vs) (ht : Bv E0 n ty f vs = some (.sc (.bool true))) (h : K H = r) : (PR n β).call ty (.fn f [] []) args H (fun t H => pUn .not t fun t' => Cy t' (A H) (K H)) = r := by
 rw [Et hh hv ht, Ey, List.append_nil]
 exact h
theorem Aet (a b : Int) (k : AV → Option β) : Cg .eql (.sc (.int .i64 a)) (.sc (.int .i64 b)) k = k (.sc (.bool (a == b))) := rfl
theorem Ts (a b : Int) (k : AV → Option β) : Cg .leq (.sc (.int .i64 a)) (.sc (.int .i64 b)) k = k (.sc (.bool (decide (a ≤ b)))) := rfl
theorem Ag3 (a b : Int) (k : AV → Option β) : Cg .gtr (.sc (.int .i64 a)) (.sc (.int .i64 b)) k = k (.sc (.bool (decide (a > b)))) := rfl
theorem Wg (a b : Int) (k : AV → Option β) : Cg .add (.sc (.int .i64 a)) (.sc (.int .i64 b)) k = k (.sc (.int .i64 (IntKind.i64.wrap (a + b)))) := rfl
theorem AgA (a b : Int) (k : AV → Option β) : Cg .mul (.sc (.int .i64 a)) (.sc (.int .i64 b)) k = k (.sc (.int .i64 (IntKind.i64.wrap (a * b)))) := rfl
theorem P2 (s : ByteArray) (k : AV → Option β) : Ob (.sc (.string s)) k = k (.sc (.int .i64 s.size)) := rfl
theorem Ss {ty : Nat} {cty : List Nat} {cs : List AV} (hty : ∃ i, As ty = some i ∧ i.cty = cty) (h : Gf (Ht As E0.tp 7) cty cs) : Ht As E0.tp 8 ty (.agg cs) := by
 obtain ⟨i, hi, rfl⟩ := hty
 exact ⟨i, hi, h⟩
end
section
open Go
section
variable {β : Type} {n : Nat} {H : Af} {r : Option β} {K : AV → Option β} {KH : KO β}
theorem R2 {cs : List AV} (hf : cs.all F4 = true) (h : ∀ i, i = H.length → (H ++ [⟨cs, true, true⟩])[i]? = some ⟨cs, true, true⟩ → KH (.ptr i 0) (H ++ [⟨cs, true, true⟩]) = r) : T2 (.agg cs) H (fun x H => KH x H) = r := by
 rw [Ec cs H _ hf]
 exact h _ rfl (by rw [List.getElem?_append_right (Nat.le_refl _), Nat.sub_self]; rfl)
theorem At {o id off : Nat} (h : K (.ptr id (off + o)) = r) : Db o (.ptr id off) (fun x => K x) = r := h
theorem Bx {i off : Nat} {cs : List AV} {c : AV} (hi : H[i]? = some ⟨cs, true, true⟩) (hl : off < cs.length) (hc : (cs.drop off).take 1 = [c]) (h : K c = r) : Bz false 1 (.ptr i off) H (fun x => K x) = r := by
 have e : Aw H i off 1 = some [c] := by
  simp only [Aw, hi, if_true]
  rw [if_pos (by omega), hc]
 rw [ldF e]
 exact h
theorem AgJ {i off w : Nat} {cs ds : List AV} (hi : H[i]? = some ⟨cs, true, true⟩) (hl : off + w ≤ cs.length) (hc : (cs.drop off).take w = ds) (h : K (.agg ds) = r) : Bz true w (.ptr i off) H (fun x => K x) = r := by
 have e : Aw H i off w = some ds := by
  simp only [Aw, hi, if_true]
  rw [if_pos hl, hc]
 rw [ldT e]
 exact h
theorem Acr {w : Nat} {cells ds : List AV} (hl : w ≤ cells.length) (hc : cells.take w = ds) (h : K (.agg ds) = r) : Bz true w (.rp cells) H (fun x => K x) = r := by
 simp only [Bz, hl, if_true, hc]
 exact h
theorem B9 {op : BinOp} {x y v : AV} (e : ∀ k : AV → Option β, Cg op x y k = k v) (h : K v = r) : Cg op x y (fun t => K t) = r := (e _).trans h
theorem Fq {op : BinOp} {x y v : AV} (e : ∀ k : AV → Option β, Kg op x y k = k v) (h : K v = r) : Kg op x y (fun t => K t) = r := (e _).trans h
theorem Q2 {b : Bool} (h : K (.sc (.bool (!b))) = r) : pUn .not (.sc (.bool b)) (fun t => K t) = r := h
theorem Acu {s : ByteArray} (h : K (.sc (.int .i64 s.size)) = r) : Ob (.sc (.string s)) (fun t => K t) = r := h
theorem Hl {m : Nat} {cs : List AV} (h : K (.sc (.int .i64 m)) = r) : Gg (.ro m cs) (fun t => K t) = r := h
theorem Ac {g : Prop} (b : Bool) (ht : b = true → g) (hf : b = false → g) : g := by
 cases h : b
 ·exact hf h
 ·exact ht h
theorem Kl {b : Bool} {x y : Option β} (hb : b = true) (h : x = r) : Cy (.sc (.bool b)) x y = r := by subst hb; exact h
theorem L4 {b : Bool} {x y : Option β} (hb : b = false) (h : y = r) : Cy (.sc (.bool b)) x y = r := by subst hb; exact h
theorem Ap {b : Bool} {m : (KO β) → Option β} (hb : b = true) (h : m (fun x H => KH x H) = r) : G2 (.sc (.bool b)) true H m (fun x H => KH x H) = r := by subst hb; exact h
theorem Ao {b : Bool} {m : (KO β) → Option β} (hb : b = false) (h : KH (.sc undef) H = r) : G2 (.sc (.bool b)) true H m (fun x H => KH x H) = r := by subst hb; exact h
theorem Fw {b : Bool} {m : (KO β) → Option β} (hb : b = false) (h : m (fun x H => KH x H) = r) : G2 (.sc (.bool b)) false H m (fun x H => KH x H) = r := by subst hb; exact h
theorem Gv {b : Bool} {m : (KO β) → Option β} (hb : b = true) (h : KH (.sc undef) H = r) : G2 (.sc (.bool b)) false H m (fun x H => KH x H) = r := by subst hb; exact h
theorem Aap {b : Bool} {x y : AV} (hb : b = true) (h : K x = r) : K3 (.sc (.bool b)) x y (fun t => K t) = r := by
 subst hb
 cases x <;> cases y <;> exact h
theorem Wc {b : Bool} {x y : AV} (hb : b = false) (h : K y = r) : K3 (.sc (.bool b)) x y (fun t => K t) = r := by
 subst hb
 cases x <;> cases y <;> exact h
def G9 {α : Type} (p : α → α → Bool) : List α → List α → Bool
 | x :: a, y :: b => if p x y then G9 p a b else false
 | _, _ => true
theorem Hy {α : Type} {w : Nat} (enc : α → List AV) (hw : ∀ x, (enc x).length = w) (h0 : 0 < w) (pk : α → AV) (LOAD : AV → (AV → Option β) → Option β) (hld : ∀ x rest k, LOAD (.rp (enc x ++ rest)) k = k (pk x)) (NE : AV → AV → (AV → Option β) → Option β) (pr : α → α → Bool) (hne : ∀ x y k, NE (pk x) (pk y) k = k (.sc (.bool (!(pr x y)))))
  (l q : List α) (hlq : l.length = q.length) (hlen : l.length ≤ 1048576) (L : Nat → AV → Option β) (KF KT : Option β)
  (hL : ∀ m i, L (m + 1) i = Cg .lss i (.sc (.int .i64 l.length)) fun t14 => Cy t14 (C4 w (Bq enc l) i fun t19 => LOAD t19 fun t20 => C4 w (Bq enc q) i fun t23 => LOAD t23 fun t24 => NE t20 t24 fun t25 => Cy t25 KF (Cg .add i (.sc (.int .i64 1)) fun t16 => L m t16)) KT) :
  ∀ (s t pl pq : List α) (m : Nat), l = pl ++ s → q = pq ++ t → pl.length = pq.length → s.length < m → L m (.sc (.int .i64 pl.length)) = if G9 pr s t then KT else KF
 | [], t, pl, pq, m + 1, hl, hq, hpp, hm => by
  rw [List.append_nil] at hl
  subst hl
  rw [hL, Eh, Cf]
  cases t <;> simp [G9]
 | x :: s, [], pl, pq, m + 1, hl, hq, hpp, hm => by
  have h1 := congrArg List.length hl
  have h2 := congrArg List.length hq
  simp only [List.length_append, List.length_cons, List.length_nil] at h1 h2
  omega
 | x :: s, y :: t, pl, pq, m + 1, hl, hq, hpp, hm => by
  have hlt : pl.length < l.length := by rw [hl]; simp
  rw [hL, Eh, Cf, if_pos (by simpa using hlt)]
  have hel := fun k => O7 (β := β) hw h0 pl x s k
  rw [← hl] at hel
  have heq := fun k => O7 (β := β) hw h0 pq y t k
  rw [← hq, ← hpp] at heq
  rw [hel, hld, heq, hld, hne, Cf, G9]
  cases hpx : pr x y
  ·simp
  ·simp only [Bool.not_true, Bool.false_eq_true, if_false, if_true]
   rw [El _ _ (by omega)]
   have ih := Hy enc hw h0 pk LOAD hld NE pr hne l q hlq hlen L KF KT hL s t (pl ++ [x]) (pq ++ [y]) m (by rw [hl]; simp) (by rw [hq]; simp) (by simp [hpp]) (by simpa using hm)
   rw [List.length_append, List.length_singleton] at ih
   exact ih
def O8 (z : Int) : List AV := [.sc (.int .i64 z)]
def O9 (s : ByteArray) : List AV := [.sc (.string s)]
theorem I8 (l : List Int) : Dl l = Bq O8 l := by
 rw [Bq, show (O8) = fun z => [AV.sc (.int .i64 z)] from rfl, I5]
theorem Jh (l : List ByteArray) : Dc l = Bq O9 l := by
 rw [Bq, show (O9) = fun z => [AV.sc (.string z)] from rfl, I5]
theorem ldI (z : Int) (rest : List AV) (H : Af) (k : AV → Option β) : Bz false 1 (.rp (O8 z ++ rest)) H k = k (.sc (.int .i64 z)) := Kw _ _ _ _
theorem ldS (z : ByteArray) (rest : List AV) (H : Af) (k : AV → Option β) : Bz false 1 (.rp (O9 z ++ rest)) H k = k (.sc (.string z)) := Kw _ _ _ _
def Uk (x y : Int) : Bool := x == y
def Nc (x y : ByteArray) : Bool := x.toList == y.toList
def E8 {α : Type} (p : α → α → Bool) (a b : List α) : Bool := if a.length = b.length then G9 p a b else false
theorem neI (x y : Int) (k : AV → Option β) : Cg .neq (.sc (.int .i64 x)) (.sc (.int .i64 y)) k = k (.sc (.bool (!(Uk x y)))) := rfl
theorem neS (x y : ByteArray) (k : AV → Option β) : Cg .neq (.sc (.string x)) (.sc (.string y)) k = k (.sc (.bool (!(Nc x y)))) := rfl
theorem Wi (qs : List Nat) (cs ds : List AV) (b : Bool) (h : Ii qs cs ds = some b) (k : AV → Option β) : Mw .neq qs (.agg cs) (.agg ds) k = k (.sc (.bool (!b))) := by
 simp only [Mw, h, Option.bind_some]
theorem Bc {X : Option β} (e : Bool) {K : Bool → Option β} (h1 : ∀ b, b = e → X = K b) (h2 : ∀ b, b = e → K b = r) : X = r := (h1 e rfl).trans (h2 e rfl)
theorem Cb {c v b : Bool} {y : AV} (hc : c = true) (hv : v = b) (h : K (.sc (.bool b)) = r) : K3 (.sc (.bool c)) (.sc (.bool v)) y (fun t => K t) = r := by
 subst hc
 subst hv
 cases y <;> exact h
theorem Ca {c v b : Bool} {x : AV} (hc : c = false) (hv : v = b) (h : K (.sc (.bool b)) = r) : K3 (.sc (.bool c)) x (.sc (.bool v)) (fun t => K t) = r := by
 subst hc
 subst hv
 cases x <;> exact h
theorem Er {b c v : Bool} (hb : b = (c && v)) (h : c = true) : v = b := by rw [hb, h]; rfl
theorem Ep {b c v : Bool} (hb : b = (c && v)) (h : c = false) : false = b := by rw [hb, h]; rfl
theorem Rn {b c v : Bool} (hb : b = (c || v)) (h : c = true) : true = b := by rw [hb, h]; rfl
theorem Rm {b c v : Bool} (hb : b = (c || v)) (h : c = false) : v = b := by rw [hb, h]; rfl
theorem Iw {ty : Nat} {b b' : Bool} (h : b = b') : A7 As E0.tp ty H (.sc (.bool b)) = some (.sc (.bool b')) := by subst h; rfl
theorem Aas {ty : Nat} {f : FuncId} {caps args vs : List AV} {t : AV} {k : KO β} (hh : Di f = false) (hv : (args ++ caps).mapM (Ci H 8) = some vs) (ht : Bv E0 n ty f vs = some t) :
  (PR n β).call ty (.fn f [] caps) args H k = k (B6 As E0.tp H.length ty t).1 (H ++ (B6 As E0.tp H.length ty t).2) := by
 show Kc E0 (Ds E0 n) ty f ([] ++ args ++ caps) H k = _
 simp only [Kc, Rx hh, T6 hh, List.nil_append, Bool.false_eq_true, if_false, Tf, hv, Option.bind_some]
 have ht : Nt E0 (Ds E0 n) ty f vs = some t := ht
 rw [ht]
 rfl
theorem AeY (s : ByteArray) (i : Nat) (b : UInt8) (k : AV → Option β) (h : s.data.toList[i]? = some b) : AbJ (.sc (.string s)) (.sc (.int .i64 i)) k = k (.sc (.int .u8 b.toNat)) := by
 have hlt : i < s.size := by
  have := (List.getElem?_eq_some_iff.1 h).1
  simpa using this
 have hb : s[i]'hlt = b := by
  have := (List.getElem?_eq_some_iff.1 h).2
  simp only [Array.getElem_toList] at this
  exact this
 simp only [AbJ, Uj, Wh, Option.bind_some, Int.toNat_natCast]
 rw [dif_pos ⟨by omega, hlt⟩, hb]
theorem nT {b : Bool} (h : b = false) : (!b) = true := by rw [h]; rfl
theorem nF {b : Bool} (h : b = true) : (!b) = false := by rw [h]; rfl
end
end
section
open Go
def A5 (x lo hi : Int) : Bool := decide (lo ≤ x) && decide (x ≤ hi)
theorem Dh (n : Nat) (ty : Nat) (x : Int) (lo : Int) (hi : Int) : Bv E0 (n + 1) ty 187 [.sc (.int .i64 x), .sc (.int .i64 lo), .sc (.int .i64 hi)] = some (.sc (.bool (A5 x lo hi))) := by
 rw [Av, Add, f187]
 try simp only [Cl, Dm, A8, Az, Cw, A2, Do, E5, Cr, Ay, A1, Be, Bu, C7, Bw, Gi, E7, D5, Em, Dp, Gj, Gz, Gh, Fe]
 refine B9 (v := .sc (.bool (decide (x ≥ lo)))) (fun k => rfl) ?_
 apply Bc ((decide (x ≥ lo)) && (decide (x ≤ hi)))
 ·intro b1 q1
  refine Ac ((decide (x ≥ lo))) (fun h1 => ?_) (fun h1 => ?_)
  ·refine Ap h1 ?_
   refine Ap h1 ?_
   refine Ap h1 ?_
   refine B9 (v := .sc (.bool (decide (x ≤ hi)))) (fun k => rfl) ?_
   refine Cb h1 (Er q1 h1) ?_
   exact rfl
  ·refine Ao h1 ?_
   refine Ao h1 ?_
   refine Ao h1 ?_
   refine Ca h1 (Ep q1 h1) ?_
   exact rfl
 intro b1 q1
 exact Iw (by first | (simp_all [A5]; done) | (rw [Bool.eq_iff_iff]; simp [A5] at *; omega))
theorem Dx (n : Nat) (ty : Nat) (x : Int) (lo : Int) (hi : Int) : Bv E0 (n + 1) ty 149 [.sc (.int .i64 x), .sc (.int .i64 lo), .sc (.int .i64 hi)] = some (.sc (.bool (A5 x lo hi))) := by
 rw [Av, AcV, f149]
 try simp only [Cl, Dm, A8, Az, Cw, A2, Do, E5, Cr, Ay, A1, Be, Bu, C7, Bw, Gi, E7, D5, Em, Dp, Gj, Gz, Gh, Fe]
 refine B9 (v := .sc (.bool (decide (x ≥ lo)))) (fun k => rfl) ?_
 apply Bc ((decide (x ≥ lo)) && (decide (x ≤ hi)))
 ·intro b1 q1
  refine Ac ((decide (x ≥ lo))) (fun h1 => ?_) (fun h1 => ?_)
  ·refine Ap h1 ?_
   refine Ap h1 ?_
   refine Ap h1 ?_
   refine B9 (v := .sc (.bool (decide (x ≤ hi)))) (fun k => rfl) ?_
   refine Cb h1 (Er q1 h1) ?_
   exact rfl
  ·refine Ao h1 ?_
   refine Ao h1 ?_
   refine Ao h1 ?_
   refine Ca h1 (Ep q1 h1) ?_
   exact rfl
 intro b1 q1
 exact Iw (by first | (simp_all [A5]; done) | (rw [Bool.eq_iff_iff]; simp [A5] at *; omega))
theorem Sn (n : Nat) (ty : Nat) (s t : ByteArray) : Bv E0 (n + 1) ty 232 [Ax s, Ax t] = some (.sc (.bool (s.toList == t.toList))) := by
 rw [Av, Adv, f232]
 have e : ∀ u : ByteArray, Dk [] 1 (.ro u.size (Cd u)) = some (Cd u) := by
  intro u
  simp [Dk, Ha]
 have eb : ∀ u : ByteArray, (Cd u).mapM Kp = some u.data.toList := fun u => Jo _
 simp only [Fe, A2, Rw, e, eb, Option.bind_some, Cg, Xy]
 simp
theorem Ig (n : Nat) (ty : Nat) (s t : ByteArray) : Bv E0 (n + 1) ty 183 [Ax s, Ax t] = some (.sc (.bool (s.toList == t.toList))) := by
 rw [Av, Adc, f183]
 have e : ∀ u : ByteArray, Dk [] 1 (.ro u.size (Cd u)) = some (Cd u) := by
  intro u
  simp [Dk, Ha]
 have eb : ∀ u : ByteArray, (Cd u).mapM Kp = some u.data.toList := fun u => Jo _
 simp only [Fe, A2, Rw, e, eb, Option.bind_some, Cg, Xy]
 simp
end
section
open Go
theorem Agm : ∀ X : Fin 256, bits .and .i64 ((X.val : Nat) : Int) 31 = ((X.val % 32 : Nat) : Int) := by decide +kernel
theorem Agl : ∀ X : Fin 256, bits .and .i64 ((X.val : Nat) : Int) 15 = ((X.val % 16 : Nat) : Int) := by decide +kernel
theorem Agn : ∀ X : Fin 256, bits .and .i64 ((X.val : Nat) : Int) 7 = ((X.val % 8 : Nat) : Int) := by decide +kernel
def Np (d : Nat × Nat) (i : Nat) : AV := if d.1 = 65533 ∧ d.2 = 1 then .tup [.sc (.int .i64 0), .sc (.int .i64 0), .sc (.bool false)] else .tup [.sc (.int .i64 d.1), .sc (.int .i64 ((i + d.2 : Nat) : Int)), .sc (.bool true)]
def Vp : AV := .tup [.sc (.int .i64 0), .sc (.int .i64 0), .sc (.bool false)]
theorem Aes (s : ByteArray) (i : Nat) (h : i < s.size) (H : Af) (k : AV → Option AV) : (C4 1 (Ax s) (.sc (.int .i64 i)) fun t => Bz false 1 t H k) = k (.sc (.int .u8 (s.data.toList.getD i 0).toNat)) := by
 rw [Lc 1 _ _ i _ h (by rw [Ha]; omega)]
 have hl : i < s.data.toList.length := by simpa using h
 have hd : (Cd s).drop (i * 1) = .sc (.int .u8 (s.data.toList.getD i 0).toNat) :: (Cd s).drop (i + 1) := by
  rw [Nat.mul_one, List.drop_eq_getElem_cons (by rw [Ha]; omega)]
  congr 1
  simp [Cd, List.getD_eq_getElem?_getD, h]
 rw [hd, Kw]
section loop
variable (n : Nat) (k : AV → Af → Option AV) (H : Af) (s : ByteArray)
theorem Hu (m at' N v i : Nat) (least : Int) (hi : i ≤ N) (hb : at' + i < s.size) (hN : N ≤ 3) (hv : v < 100000000) (hs : s.size ≤ 1048576) :
  Gq (PR n AV) n k (m + 1) (Ax s) (.sc (.int .i64 at')) (.sc (.int .i64 N)) (.sc (.int .i64 least)) (.sc (.int .i64 v)) (.sc (.int .i64 i)) H =
   if (s.data.toList.getD (at' + i) 0).toNat / 64 = 2 then Gq (PR n AV) n k m (Ax s) (.sc (.int .i64 at')) (.sc (.int .i64 N)) (.sc (.int .i64 least)) (.sc (.int .i64 ((v * 64 + (s.data.toList.getD (at' + i) 0).toNat % 64 : Nat) : Int))) (.sc (.int .i64 ((i + 1 : Nat) : Int))) H else k Vp H := by
 obtain ⟨y, hy⟩ : ∃ y, (s.data.toList.getD (at' + i) 0).toNat = y := ⟨_, rfl⟩
 have hylt : y < 256 := by rw [← hy]; exact (s.data.toList.getD (at' + i) 0).toNat_lt
 have hba := Aes s (at' + i) hb H
 rw [hy] at hba ⊢
 rw [Gq]
 simp only [A2, Ay, Bw, Az, Gh, A1, Be]
 rw [Ts, Cf, if_pos (by simp; omega), Wg, ← Int.natCast_add, Ib _ (by omega) (by omega), hba]
 simp only [AbH, Uj, Option.bind_some]
 rw [Ib _ (by omega) (by omega), Ja]
 by_cases h1 : y < 128
 ·refine Gv (by simp; omega) ?_
  refine Gv (by simp; omega) ?_
  refine Aap (by simp; omega) ?_
  rw [if_neg (by omega)]
  rfl
 ·refine Fw (by simp; omega) ?_
  refine Fw (by simp; omega) ?_
  rw [Ag3]
  refine Wc (by simp; omega) ?_
  by_cases h2 : y ≤ 191
  ·rw [Cf, if_neg (by simp; omega), if_pos (by omega), AgA, show (v : Int) * 64 = ((v * 64 : Nat) : Int) by omega, Ib _ (by omega) (by omega), Wg, ← Int.natCast_add, Ib _ (by omega) (by omega), Kh _ _ _ (by omega) (by omega), El _ _ (by omega)]
   congr 3
   omega
  ·rw [Cf, if_pos (by simp; omega), if_neg (by omega)]
   rfl
theorem Qj (n' : Nat) (hnn : n = n' + 1) (m at' N v least : Nat) (hN : N ≤ 3) (hv : v < 100000000) (ha : at' ≤ 1048576) :
  Gq (PR n AV) n k (m + 1) (Ax s) (.sc (.int .i64 at')) (.sc (.int .i64 N)) (.sc (.int .i64 least)) (.sc (.int .i64 v)) (.sc (.int .i64 ((N + 1 : Nat) : Int))) H =
   if v ≥ least ∧ (v < 55296 ∨ (57344 ≤ v ∧ v ≤ 1114111)) then k (.tup [.sc (.int .i64 v), .sc (.int .i64 ((at' + (N + 1) : Nat) : Int)), .sc (.bool true)]) H else k Vp H := by
 subst hnn
 rw [Gq]
 simp only [A2, Ay, Bw, Az, Gh, A1, Be]
 rw [Ts, Cf, if_neg (by simp; omega), Ja]
 by_cases h1 : v < least
 ·have e : decide ((v : Int) < (least : Int)) = true := by simp; omega
  refine Gv e ?_
  refine Gv e ?_
  refine Aap e ?_
  refine Gv rfl ?_
  refine Gv rfl ?_
  refine Aap rfl ?_
  refine Kl rfl ?_
  rw [if_neg (by omega)]
  rfl
 ·have e : decide ((v : Int) < (least : Int)) = false := by simp; omega
  refine Fw e ?_
  refine Fw e ?_
  refine B9 (v := .sc (.bool (decide ((v : Int) > 1114111)))) (fun k => rfl) ?_
  refine Wc e ?_
  by_cases h2 : v > 1114111
  ·have e2 : decide ((v : Int) > 1114111) = true := by simp; omega
   refine Gv e2 ?_
   refine Gv e2 ?_
   refine Aap e2 ?_
   refine Kl rfl ?_
   rw [if_neg (by omega)]
   rfl
  ·have e2 : decide ((v : Int) > 1114111) = false := by simp; omega
   refine Fw e2 ?_
   refine Fw e2 ?_
   refine Fk rfl (Cn (En _ _) (Cn (En _ _) (Cn (En _ _) Fp))) (Dh n' _ v 55296 57343) ?_
   refine Wc e2 ?_
   by_cases h3 : 55296 ≤ v ∧ v ≤ 57343
   ·refine Kl (by simp [A5]; omega) ?_
    rw [if_neg (by omega)]
    rfl
   ·refine L4 (by simp [A5]; omega) ?_
    have e5 : ((at' : Int) + 1 + (N : Int)) = ((at' + (N + 1) : Nat) : Int) := by omega
    rw [if_pos (by omega), Wg, Ib _ (by omega) (by omega), Wg, Ib _ (by omega) (by omega), e5]
    rfl
end loop
theorem Dt (H : Af) (a b c : Value) : A7 As E0.tp 282 H (.tup [.sc a, .sc b, .sc c]) = some (.tup [.sc a, .sc b, .sc c]) := rfl
set_option maxHeartbeats 1600000 in
theorem Aeh (n : Nat) (hn : 1048576 < n) (s : ByteArray) (i : Nat) (hs : s.size ≤ 1048576) (hi : i < s.size) : Bv E0 (n + 2) 282 277 [Ax s, .sc (.int .i64 i)] = some (Np (Lib.decodeL (s.data.toList.drop i)) i) := by
 have hg : ∀ j, (s.data.toList.drop i).getD j 0 = s.data.toList.getD (i + j) 0 := fun j => by simp [List.getD_eq_getElem?_getD, List.getElem?_drop]
 have hL : (s.data.toList.drop i).length = s.size - i := by simp
 have hg0 : (s.data.toList.drop i).getD 0 0 = s.data.toList.getD i 0 := hg 0
 rw [Lib.decodeL_N, hL, hg0, hg 1, hg 2, hg 3]
 obtain ⟨x, hx⟩ : ∃ x, (s.data.toList.getD i 0).toNat = x := ⟨_, rfl⟩
 have hxl : x < 256 := by rw [← hx]; exact (s.data.toList.getD i 0).toNat_lt
 obtain ⟨y1, hy1⟩ : ∃ x, (s.data.toList.getD (i + 1) 0).toNat = x := ⟨_, rfl⟩
 obtain ⟨y2, hy2⟩ : ∃ x, (s.data.toList.getD (i + 2) 0).toNat = x := ⟨_, rfl⟩
 obtain ⟨y3, hy3⟩ : ∃ x, (s.data.toList.getD (i + 3) 0).toNat = x := ⟨_, rfl⟩
 have b1 : y1 < 256 := by rw [← hy1]; exact (s.data.toList.getD (i + 1) 0).toNat_lt
 have b2 : y2 < 256 := by rw [← hy2]; exact (s.data.toList.getD (i + 2) 0).toNat_lt
 have b3 : y3 < 256 := by rw [← hy3]; exact (s.data.toList.getD (i + 3) 0).toNat_lt
 have hba := Aes s i hi []
 rw [hx] at hba
 rw [hx, hy1, hy2, hy3]
 have fails : Lib.decodeN (s.size - i) x y1 y2 y3 = (65533, 1) → some Vp = some (Np (Lib.decodeN (s.size - i) x y1 y2 y3) i) := fun h => by rw [h]; rfl
 have goes : ∀ v w, Lib.decodeN (s.size - i) x y1 y2 y3 = (v, w) → (w = 1 → v < 128) → some (.tup [.sc (.int .i64 v), .sc (.int .i64 ((i + w : Nat) : Int)), .sc (.bool true)]) = some (Np (Lib.decodeN (s.size - i) x y1 y2 y3) i) := fun v w h hw => by
  rw [h, Np, if_neg (by intro h; simp only at h; omega)]
 rw [Av, Ad2, f277]
 simp only [A2, Ay, Bw, Az, Gh, A1, Be, Bu]
 have e0 : decide ((i : Int) < 0) = false := by simp
 rw [Ja]
 refine Fw e0 ?_
 refine Fw e0 ?_
 refine Fw e0 ?_
 refine Hl ?_
 refine Fw e0 ?_
 refine B9 (v := .sc (.bool (decide ((i : Int) ≥ (s.size : Int))))) (fun k => rfl) ?_
 refine Wc e0 ?_
 refine L4 (by simp; omega) ?_
 rw [hba]
 simp only [AbH, Uj, Option.bind_some]
 rw [Ib _ (by omega) (by omega), Ja]
 by_cases c1 : x < 128
 ·refine Kl (by simp; omega) ?_
  rw [El _ _ (by omega)]
  exact (Dt _ _ _ _).trans (goes x 1 (by rw [Lib.decodeN, if_pos c1]) (fun _ => c1))
 ·refine L4 (by simp; omega) ?_
  obtain ⟨q, rfl⟩ : ∃ q, n = q + 4 := ⟨n - 4, by omega⟩
  apply Bc (decide ((x : Int) ≥ 192) && decide ((x : Int) < 224))
  ·intro b hb
   refine B9 (v := .sc (.bool (decide ((x : Int) ≥ 192)))) (fun k => rfl) ?_
   refine Ac (decide ((x : Int) ≥ 192)) (fun h => ?_) (fun h => ?_)
   ·refine Ap h ?_
    refine Ap h ?_
    refine B9 (v := .sc (.bool (decide ((x : Int) < 224)))) (fun k => rfl) ?_
    refine Cb h (Er hb h) ?_
    exact rfl
   ·refine Ao h ?_
    refine Ao h ?_
    refine Ca h (Ep hb h) ?_
    exact rfl
  intro b0 hb0
  by_cases d0 : 192 ≤ x ∧ x < 224
  ·refine Kl (by rw [hb0]; simp; omega) ?_
   refine B9 (v := .sc (.int .i64 ((x % 32 : Nat) : Int))) (fun k => by show k (.sc (.int .i64 (bits .and .i64 (x : Int) 31))) = _; rw [Agm ⟨x, hxl⟩]) ?_
   refine Hl ?_
   refine B9 (v := .sc (.int .i64 ((s.size : Int) - 1))) (fun k => Kh _ _ _ (by omega) (by omega)) ?_
   refine B9 (v := .sc (.int .i64 ((s.size : Int) - 1 - 1))) (fun k => Kh _ _ _ (by omega) (by omega)) ?_
   refine B9 (v := .sc (.bool (decide ((i : Int) > (s.size : Int) - 1 - 1)))) (fun k => rfl) ?_
   by_cases c3 : i + 1 < s.size
   ·refine L4 (by simp; omega) ?_
    have r1 := Hu (q + 4 + 1) (fun x H => A7 As E0.tp 282 H x) [] s (q + 4) i 1 (x % 32) 1 128 (by omega) (by omega) (by omega) (by omega) hs
    rw [hy1] at r1
    refine r1.trans ?_
    by_cases k1 : y1 / 64 = 2
    rotate_left
    ·rw [if_neg k1]
     exact (Dt _ _ _ _).trans (fails (by unfold Lib.decodeN; rw [if_neg c1, if_neg (by omega), if_neg (by omega), if_neg (by omega)]))
    rw [if_pos k1]
    refine (Qj (q + 4 + 1) (fun x H => A7 As E0.tp 282 H x) [] s (q + 4) rfl (q + 3) i 1 ((x % 32) * 64 + y1 % 64) 128 (by omega) (by omega) (by omega)).trans ?_
    have hv : (x % 32) * 64 + y1 % 64 = x % 32 * 64 + y1 % 64 := by omega
    rw [hv]
    split
    ·exact (Dt _ _ _ _).trans (goes _ 2 (by unfold Lib.decodeN; rw [if_neg c1, if_pos (by omega), if_pos (by omega)]) (by omega))
    ·exact (Dt _ _ _ _).trans (fails (by unfold Lib.decodeN; rw [if_neg c1, if_pos (by omega), if_neg (by omega)]))
   ·refine Kl (by simp; omega) ?_
    exact (Dt _ _ _ _).trans (fails (by unfold Lib.decodeN; rw [if_neg c1, if_neg (by omega), if_neg (by omega), if_neg (by omega)]))
  ·refine L4 (by rw [hb0]; simp; omega) ?_
   apply Bc (decide ((x : Int) ≥ 224) && decide ((x : Int) < 240))
   ·intro b hb
    refine B9 (v := .sc (.bool (decide ((x : Int) ≥ 224)))) (fun k => rfl) ?_
    refine Ac (decide ((x : Int) ≥ 224)) (fun h => ?_) (fun h => ?_)
    ·refine Ap h ?_
     refine Ap h ?_
     refine B9 (v := .sc (.bool (decide ((x : Int) < 240)))) (fun k => rfl) ?_
     refine Cb h (Er hb h) ?_
     exact rfl
    ·refine Ao h ?_
     refine Ao h ?_
     refine Ca h (Ep hb h) ?_
     exact rfl
   intro b1 hb1
   by_cases d1 : 224 ≤ x ∧ x < 240
   ·refine Kl (by rw [hb1]; simp; omega) ?_
    refine B9 (v := .sc (.int .i64 ((x % 16 : Nat) : Int))) (fun k => by show k (.sc (.int .i64 (bits .and .i64 (x : Int) 15))) = _; rw [Agl ⟨x, hxl⟩]) ?_
    refine Hl ?_
    refine B9 (v := .sc (.int .i64 ((s.size : Int) - 1))) (fun k => Kh _ _ _ (by omega) (by omega)) ?_
    refine B9 (v := .sc (.int .i64 ((s.size : Int) - 1 - 2))) (fun k => Kh _ _ _ (by omega) (by omega)) ?_
    refine B9 (v := .sc (.bool (decide ((i : Int) > (s.size : Int) - 1 - 2)))) (fun k => rfl) ?_
    by_cases c3 : i + 2 < s.size
    ·refine L4 (by simp; omega) ?_
     have r1 := Hu (q + 4 + 1) (fun x H => A7 As E0.tp 282 H x) [] s (q + 4) i 2 (x % 16) 1 2048 (by omega) (by omega) (by omega) (by omega) hs
     rw [hy1] at r1
     refine r1.trans ?_
     by_cases k1 : y1 / 64 = 2
     rotate_left
     ·rw [if_neg k1]
      exact (Dt _ _ _ _).trans (fails (by unfold Lib.decodeN; rw [if_neg c1, if_neg (by omega), if_neg (by omega), if_neg (by omega)]))
     rw [if_pos k1]
     have r2 := Hu (q + 4 + 1) (fun x H => A7 As E0.tp 282 H x) [] s (q + 3) i 2 ((x % 16) * 64 + y1 % 64) 2 2048 (by omega) (by omega) (by omega) (by omega) hs
     rw [hy2] at r2
     refine r2.trans ?_
     by_cases k2 : y2 / 64 = 2
     rotate_left
     ·rw [if_neg k2]
      exact (Dt _ _ _ _).trans (fails (by unfold Lib.decodeN; rw [if_neg c1, if_neg (by omega), if_neg (by omega), if_neg (by omega)]))
     rw [if_pos k2]
     refine (Qj (q + 4 + 1) (fun x H => A7 As E0.tp 282 H x) [] s (q + 4) rfl (q + 2) i 2 (((x % 16) * 64 + y1 % 64) * 64 + y2 % 64) 2048 (by omega) (by omega) (by omega)).trans ?_
     have hv : ((x % 16) * 64 + y1 % 64) * 64 + y2 % 64 = x % 16 * 4096 + y1 % 64 * 64 + y2 % 64 := by omega
     rw [hv]
     split
     ·exact (Dt _ _ _ _).trans (goes _ 3 (by unfold Lib.decodeN; rw [if_neg c1, if_neg (by omega), if_pos (by omega), if_pos (by omega)]) (by omega))
     ·exact (Dt _ _ _ _).trans (fails (by unfold Lib.decodeN; rw [if_neg c1, if_neg (by omega), if_pos (by omega), if_neg (by omega)]))
    ·refine Kl (by simp; omega) ?_
     exact (Dt _ _ _ _).trans (fails (by unfold Lib.decodeN; rw [if_neg c1, if_neg (by omega), if_neg (by omega), if_neg (by omega)]))
   ·refine L4 (by rw [hb1]; simp; omega) ?_
    apply Bc (decide ((x : Int) ≥ 240) && decide ((x : Int) < 248))
    ·intro b hb
     refine B9 (v := .sc (.bool (decide ((x : Int) ≥ 240)))) (fun k => rfl) ?_
     refine Ac (decide ((x : Int) ≥ 240)) (fun h => ?_) (fun h => ?_)
     ·refine Ap h ?_
      refine Ap h ?_
      refine B9 (v := .sc (.bool (decide ((x : Int) < 248)))) (fun k => rfl) ?_
      refine Cb h (Er hb h) ?_
      exact rfl
     ·refine Ao h ?_
      refine Ao h ?_
      refine Ca h (Ep hb h) ?_
      exact rfl
    intro b2 hb2
    by_cases d2 : 240 ≤ x ∧ x < 248
    ·refine Kl (by rw [hb2]; simp; omega) ?_
     refine B9 (v := .sc (.int .i64 ((x % 8 : Nat) : Int))) (fun k => by show k (.sc (.int .i64 (bits .and .i64 (x : Int) 7))) = _; rw [Agn ⟨x, hxl⟩]) ?_
     refine Hl ?_
     refine B9 (v := .sc (.int .i64 ((s.size : Int) - 1))) (fun k => Kh _ _ _ (by omega) (by omega)) ?_
     refine B9 (v := .sc (.int .i64 ((s.size : Int) - 1 - 3))) (fun k => Kh _ _ _ (by omega) (by omega)) ?_
     refine B9 (v := .sc (.bool (decide ((i : Int) > (s.size : Int) - 1 - 3)))) (fun k => rfl) ?_
     by_cases c3 : i + 3 < s.size
     ·refine L4 (by simp; omega) ?_
      have r1 := Hu (q + 4 + 1) (fun x H => A7 As E0.tp 282 H x) [] s (q + 4) i 3 (x % 8) 1 65536 (by omega) (by omega) (by omega) (by omega) hs
      rw [hy1] at r1
      refine r1.trans ?_
      by_cases k1 : y1 / 64 = 2
      rotate_left
      ·rw [if_neg k1]
       exact (Dt _ _ _ _).trans (fails (by unfold Lib.decodeN; rw [if_neg c1, if_neg (by omega), if_neg (by omega), if_neg (by omega)]))
      rw [if_pos k1]
      have r2 := Hu (q + 4 + 1) (fun x H => A7 As E0.tp 282 H x) [] s (q + 3) i 3 ((x % 8) * 64 + y1 % 64) 2 65536 (by omega) (by omega) (by omega) (by omega) hs
      rw [hy2] at r2
      refine r2.trans ?_
      by_cases k2 : y2 / 64 = 2
      rotate_left
      ·rw [if_neg k2]
       exact (Dt _ _ _ _).trans (fails (by unfold Lib.decodeN; rw [if_neg c1, if_neg (by omega), if_neg (by omega), if_neg (by omega)]))
      rw [if_pos k2]
      have r3 := Hu (q + 4 + 1) (fun x H => A7 As E0.tp 282 H x) [] s (q + 2) i 3 (((x % 8) * 64 + y1 % 64) * 64 + y2 % 64) 3 65536 (by omega) (by omega) (by omega) (by omega) hs
      rw [hy3] at r3
      refine r3.trans ?_
      by_cases k3 : y3 / 64 = 2
      rotate_left
      ·rw [if_neg k3]
       exact (Dt _ _ _ _).trans (fails (by unfold Lib.decodeN; rw [if_neg c1, if_neg (by omega), if_neg (by omega), if_neg (by omega)]))
      rw [if_pos k3]
      refine (Qj (q + 4 + 1) (fun x H => A7 As E0.tp 282 H x) [] s (q + 4) rfl (q + 1) i 3 ((((x % 8) * 64 + y1 % 64) * 64 + y2 % 64) * 64 + y3 % 64) 65536 (by omega) (by omega) (by omega)).trans ?_
      have hv : (((x % 8) * 64 + y1 % 64) * 64 + y2 % 64) * 64 + y3 % 64 = x % 8 * 262144 + y1 % 64 * 4096 + y2 % 64 * 64 + y3 % 64 := by omega
      rw [hv]
      split
      ·exact (Dt _ _ _ _).trans (goes _ 4 (by unfold Lib.decodeN; rw [if_neg c1, if_neg (by omega), if_neg (by omega), if_pos (by omega), if_pos (by omega)]) (by omega))
      ·exact (Dt _ _ _ _).trans (fails (by unfold Lib.decodeN; rw [if_neg c1, if_neg (by omega), if_neg (by omega), if_pos (by omega), if_neg (by omega)]))
     ·refine Kl (by simp; omega) ?_
      exact (Dt _ _ _ _).trans (fails (by unfold Lib.decodeN; rw [if_neg c1, if_neg (by omega), if_neg (by omega), if_neg (by omega)]))
    ·refine L4 (by rw [hb2]; simp; omega) ?_
     exact (Dt _ _ _ _).trans (fails (by unfold Lib.decodeN; rw [if_neg c1, if_neg (by omega), if_neg (by omega), if_neg (by omega)]))
theorem Rh (N ty : Nat) (a b c : Value) : B6 As E0.tp N ty (.tup [.sc a, .sc b, .sc c]) = (.tup [.sc a, .sc b, .sc c], []) := rfl
theorem Aat (s : ByteArray) : Vw [⟨Cd s, true, false⟩] (.sl 0 0 s.size 1) (Ax s) := fun X => by
 have e2 : Aw ([⟨Cd s, true, false⟩] ++ X) 0 0 (s.size * 1) = some (Cd s) := by
  have hl := Ha s
  show (if (0 + s.size * 1 ≤ (Cd s).length) then some (((Cd s).drop 0).take (s.size * 1)) else none) = _
  rw [if_pos (by omega), List.drop_zero, Nat.mul_one, ← hl, List.take_length]
 rw [M6, e2, Option.bind_some]
 have e3 : (Cd s).mapM (Ci ([⟨Cd s, true, false⟩] ++ X) 7) = some (Cd s) := by
  rw [Ut]
  exact Xj _
 rw [e3]
 rfl
theorem Kb {vs : List AV} {i : Nat} {x : AV} {K : AV → Option AV} {r : Option AV} (hx : vs[i]? = some x) (h : K x = r) : T4 (.tup vs) i (fun t => K t) = r := by
 show (vs[i]?).bind _ = r
 rw [hx]
 exact h
theorem O3 (n : Nat) (hn : 1048576 < n) (k : AV → Af → Option AV) (s : ByteArray) (hs : s.size ≤ 60) : ∀ (b m pos c : Nat), s.size ≤ pos + b → pos ≤ s.size → c ≤ pos → b < m →
  ∃ r : Int, La (PR (n + 2) AV) (n + 2) k m (.sl 0 0 s.size 1) (.sc (.int .i64 c)) (.sc (.int .i64 pos)) [⟨Cd s, true, false⟩] = k (.sc (.int .i64 r)) [⟨Cd s, true, false⟩] ∧ (K6 b (s.data.toList.drop pos) = true → 0 ≤ r) ∧ (K6 b (s.data.toList.drop pos) = false → r = -1)
 | b, m + 1, pos, c, hb, hp, hc, hm => by
  rw [La]
  simp only [Bu, A2, Ay, Acz, Cr, A1, Be]
  have hlen : ∀ k : AV → Option AV, Gg (.sl 0 0 s.size 1) k = k (.sc (.int .i64 s.size)) := fun _ => rfl
  rw [hlen, Eh, Cf]
  by_cases hlt : pos < s.size
  ·rw [if_pos (by simpa using hlt)]
   obtain ⟨b, rfl⟩ : ∃ b', b = b' + 1 := ⟨b - 1, by omega⟩
   have hne : s.data.toList.drop pos ≠ [] := by
    intro h
    have := congrArg List.length h
    simp at this
    omega
   have hw := Lib.decodeL_width (s.data.toList.drop pos)
   have hle := Lib.decodeL_le (s.data.toList.drop pos) hne
   have hll : (s.data.toList.drop pos).length = s.size - pos := by simp
   rw [hll] at hle
   rw [K6, if_neg hne]
   generalize hd : Lib.decodeL (s.data.toList.drop pos) = d at hw hle ⊢
   have ht := Aeh n hn s pos (by omega) hlt
   rw [hd] at ht
   rw [Et (vs := [Ax s, .sc (.int .i64 pos)]) rfl (Cn (Aat s) (Cn (En _ _) Fp)) ht]
   by_cases hf : d.1 = 65533 ∧ d.2 = 1
   ·rw [Np, if_pos hf, Rh, List.append_nil, if_pos hf]
    refine ⟨-1, ?_, (fun h => by cases h), (fun _ => rfl)⟩
    refine Kb rfl ?_
    refine Kb rfl ?_
    refine Kb rfl ?_
    refine Q2 ?_
    refine Gv rfl ?_
    refine Gv rfl ?_
    refine Aap rfl ?_
    refine Kl rfl ?_
    rfl
   ·rw [Np, if_neg hf, Rh, List.append_nil, if_neg hf]
    by_cases hz : d.1 = 0
    ·rw [if_pos hz]
     refine ⟨-1, ?_, (fun h => by cases h), (fun _ => rfl)⟩
     refine Kb rfl ?_
     refine Kb rfl ?_
     refine Kb rfl ?_
     refine Q2 ?_
     refine Fw rfl ?_
     refine Fw rfl ?_
     refine B9 (v := .sc (.bool ((d.1 : Int) == 0))) (fun k => rfl) ?_
     refine Wc rfl ?_
     refine Kl (by simp [hz]) ?_
     rfl
    ·rw [if_neg hz, List.drop_drop]
     obtain ⟨r, h1, h2, h3⟩ := O3 n hn k s hs b m (pos + d.2) (c + 1) (by omega) (by omega) (by omega) (by omega)
     refine ⟨r, ?_, h2, h3⟩
     refine Kb rfl ?_
     refine Kb rfl ?_
     refine Kb rfl ?_
     refine Q2 ?_
     refine Fw rfl ?_
     refine Fw rfl ?_
     refine B9 (v := .sc (.bool ((d.1 : Int) == 0))) (fun k => rfl) ?_
     refine Wc rfl ?_
     refine L4 (by simp; omega) ?_
     rw [El _ _ (by omega)]
     exact h1
  ·rw [if_neg (by simpa using hlt)]
   have hnil : s.data.toList.drop pos = [] := by
    apply List.drop_of_length_le
    simp
    omega
   refine ⟨c, rfl, fun _ => by omega, fun h => ?_⟩
   rw [hnil] at h
   cases b <;> simp [K6] at h
theorem Afz (n : Nat) (hn : 1048576 < n) (ty : Nat) (s : ByteArray) : ∃ r : Int, Bv E0 (n + 3) ty 231 [.sc (.string s)] = some (.sc (.int .i64 r)) ∧ (Bi s = true → 0 ≤ r) ∧ (Bi s = false → r = -1) := by
 rw [Av, Adu, f231]
 simp only [C7, A2, Ay, Acy]
 unfold Bi
 by_cases h : s.size ≤ 60
 ·obtain ⟨r, h1, h2, h3⟩ := O3 n hn (fun x H => A7 As E0.tp ty H x) s h s.size (n + 2) 0 0 (by omega) (by omega) (by omega) (by omega)
  refine ⟨r, ?_, ?_, ?_⟩
  ·refine Acu ?_
   refine B9 (v := .sc (.bool (decide ((s.size : Int) > 60)))) (fun k => rfl) ?_
   refine L4 (by simp; omega) ?_
   simp only [T3, Wh, Option.bind_some]
   rw [if_pos (by omega)]
   exact h1
  ·intro hv
   refine h2 ?_
   simpa [h] using hv
  ·intro hv
   refine h3 ?_
   simpa [h] using hv
 ·refine ⟨-1, ?_, (fun hv => by simp [h] at hv), (fun _ => rfl)⟩
  refine Acu ?_
  refine B9 (v := .sc (.bool (decide ((s.size : Int) > 60)))) (fun k => rfl) ?_
  refine Kl (by simp; omega) ?_
  rfl
theorem Ef (n : Nat) (hn : 1048576 < n) (ty : Nat) (s : ByteArray) : Bv E0 (n + 4) ty 137 [.sc (.string s)] = some (.sc (.bool (Bi s))) := by
 rw [Av, AcK, f137]
 simp only [A2]
 obtain ⟨r, h1, h2, h3⟩ := Afz n hn 3 s
 refine Fk rfl (Cn (En _ _) Fp) h1 ?_
 refine B9 (v := .sc (.bool (decide (r ≥ 0)))) (fun k => rfl) ?_
 refine Iw ?_
 cases hv : Bi s
 ·rw [h3 hv]
  rfl
 ·simpa using h2 hv
theorem Ab9 {β : Type} {n : Nat} {H : Af} {r : Option β} {ty f : Nat} {g : Nat → List AV → Option AV} {args vs : List AV} {v : Value} {K : KO β} (hg : E0.ext f = some g) (hv : args.mapM (Ci H 8) = some vs) (ht : g ty vs = some (.sc v)) (h : K (.sc v) H = r) : (PR n β).call ty (.fn f [] []) args H (fun x H => K x H) = r := by
 rw [Um hg hv ht, Ey, List.append_nil]
 exact h
theorem E2 (ty : Nat) (s : ByteArray) (hs : M7 s) : Sa ty [.sc (.string s)] = some (.sc (.bool (Bi s))) := by
 have hm : maxLen = 9223372036854775807 := by decide
 show (if s.size ≤ maxLen then _ else _) = _
 rw [hm, if_pos (show s.size ≤ 9223372036854775807 from hs)]
end
section
open Go
section own
variable {ti : Nat → Option TI} {tp : Nat → Option (List Nat)}
theorem G1 {f : Nat → AV → Option (AV × List Nat)} {t : Nat} {ts : List Nat} {x : AV} {xs : List AV} {p : List AV × List Nat} (h : Dg f (t :: ts) (x :: xs) = some p) :
  ∃ a b, f t x = some a ∧ Dg f ts xs = some b ∧ p = (a.1 :: b.1, a.2 ++ b.2) := by
 simp only [Dg, Option.bind_eq_some_iff] at h
 obtain ⟨a, h1, b, h2, h3⟩ := h
 exact ⟨a, b, h1, h2, (Option.some.inj h3).symm⟩
theorem H6 {f : Nat → AV → Option (AV × List Nat)} {ts : List Nat} {p : List AV × List Nat} (h : Dg f ts [] = some p) : ts = [] ∧ p = ([], []) := by
 cases ts with
 | nil => exact ⟨rfl, (Option.some.inj h).symm⟩
 | cons t ts => simp [Dg] at h
theorem Ty {f : Nat → AV → Option (AV × List Nat)} : ∀ {ts : List Nat} {xs : List AV} {p : List AV × List Nat}, Dg f ts xs = some p → ts.length = xs.length ∧ p.1.length = xs.length
 | ts, [], p, h => by
  obtain ⟨rfl, rfl⟩ := H6 h
  exact ⟨rfl, rfl⟩
 | [], _ :: _, p, h => by simp [Dg] at h
 | t :: ts, x :: xs, p, h => by
  obtain ⟨a, b, h1, h2, rfl⟩ := G1 h
  obtain ⟨e1, e2⟩ := Ty h2
  simp [e1, e2]
theorem Oa {f : Nat → AV → Option (AV × List Nat)} : ∀ {ts us : List Nat} {xs ys : List AV} {p q : List AV × List Nat}, Dg f ts xs = some p → Dg f us ys = some q → Dg f (ts ++ us) (xs ++ ys) = some (p.1 ++ q.1, p.2 ++ q.2)
 | ts, us, [], ys, p, q, h, h' => by
  obtain ⟨rfl, rfl⟩ := H6 h
  exact h'
 | [], _, _ :: _, _, _, _, h, _ => by simp [Dg] at h
 | t :: ts, us, x :: xs, ys, p, q, h, h' => by
  obtain ⟨a, b, h1, h2, rfl⟩ := G1 h
  have ih := Oa h2 h'
  rw [List.cons_append, List.cons_append, Dg, h1, Option.bind_some, ih]
  simp
theorem H5 {f f' : Nat → AV → Option (AV × List Nat)} : ∀ {ts : List Nat} {xs : List AV} {p : List AV × List Nat}, (∀ t x a, f t x = some a → (∀ i ∈ a.2, i ∈ p.2) → f' t x = some a) → Dg f ts xs = some p → Dg f' ts xs = some p
 | ts, [], p, _, h => by
  obtain ⟨rfl, rfl⟩ := H6 h
  rfl
 | [], _ :: _, p, _, h => by simp [Dg] at h
 | t :: ts, x :: xs, p, hf, h => by
  obtain ⟨a, b, h1, h2, rfl⟩ := G1 h
  have e1 := hf t x a h1 fun i hi => List.mem_append_left _ hi
  have e2 := H5 (f' := f') (fun t x a' h hi => hf t x a' h fun i hi' => List.mem_append_right _ (hi i hi')) h2
  rw [Dg, e1, Option.bind_some, e2]
  rfl
theorem Fg {H H' : Af} : ∀ (d ty : Nat) (x : AV) (p : AV × List Nat), Co ti tp H d ty x = some p → (∀ i ∈ p.2, H'[i]? = H[i]?) → Co ti tp H' d ty x = some p
 | 0, _, _, _, h, _ => by simp [Co] at h
 | d + 1, ty, x, p, h, hs => by
  cases x with
  | sc v => exact h
  | nl => exact h
  | sl id off n z =>
   rw [Hp] at h ⊢
   simp only [Option.bind_eq_some_iff] at h
   obtain ⟨i, h1, j, h2, h3⟩ := h
   split at h3
   case isFalse => cases h3
   rename_i hz
   split at h3
   case isFalse => cases h3
   rename_i ha
   simp only [Option.bind_eq_some_iff] at h3
   obtain ⟨cs, h4, q, h5, h6⟩ := h3
   obtain rfl := (Option.some.inj h6).symm
   have hid := hs id List.mem_cons_self
   have e1 : Il H' id = true := by simpa only [Il, hid] using ha
   have e2 : Aw H' id off (n * z) = some cs := by simpa only [Aw, hid] using h4
   have e3 := H5 (f' := Co ti tp H' d) (fun t x a h hi => Fg d t x a h fun i' hi' => hs i' (List.mem_cons_of_mem _ (hi i' hi'))) h5
   simp only [h1, h2, Option.bind_some, hz, if_true, e1, e3]
   rw [hz] at e2
   rw [e2]
   simp only [Option.bind_some, e3]
  | agg cs =>
   rw [Hb] at h ⊢
   simp only [Option.bind_eq_some_iff] at h
   obtain ⟨i, h1, q, h2, h3⟩ := h
   obtain rfl := (Option.some.inj h3).symm
   have e3 := H5 (f' := Co ti tp H' d) (fun t x a h hi => Fg d t x a h fun i' hi' => hs i' (hi i' hi')) h2
   rw [h1, Option.bind_some, e3]
   rfl
  | tup cs =>
   rw [H7] at h ⊢
   simp only [Option.bind_eq_some_iff] at h
   obtain ⟨i, h1, q, h2, h3⟩ := h
   obtain rfl := (Option.some.inj h3).symm
   have e3 := H5 (f' := Co ti tp H' d) (fun t x a h hi => Fg d t x a h fun i' hi' => hs i' (hi i' hi')) h2
   rw [h1, Option.bind_some, e3]
   rfl
  | _ => simp [Co] at h
theorem Mu {f : Nat → AV → Option (AV × List Nat)} {N : Nat} : ∀ {ts : List Nat} {xs : List AV} {p : List AV × List Nat}, (∀ t x a, f t x = some a → ∀ i ∈ a.2, i < N) → Dg f ts xs = some p → ∀ i ∈ p.2, i < N
 | ts, [], p, _, h => by
  obtain ⟨rfl, rfl⟩ := H6 h
  intro i hi
  cases hi
 | [], _ :: _, p, _, h => by simp [Dg] at h
 | t :: ts, x :: xs, p, hf, h => by
  obtain ⟨a, b, h1, h2, rfl⟩ := G1 h
  intro i hi
  rcases List.mem_append.1 hi with hi | hi
  ·exact hf t x a h1 i hi
  ·exact Mu hf h2 i hi
theorem L0 {H : Af} : ∀ (d ty : Nat) (x : AV) (p : AV × List Nat), Co ti tp H d ty x = some p → ∀ i ∈ p.2, i < H.length
 | 0, _, _, _, h => by simp [Co] at h
 | d + 1, ty, x, p, h => by
  cases x with
  | sc v =>
   obtain rfl := (Option.some.inj h).symm
   intro i hi
   cases hi
  | nl =>
   obtain rfl := (Option.some.inj h).symm
   intro i hi
   cases hi
  | sl id off n z =>
   rw [Hp] at h
   simp only [Option.bind_eq_some_iff] at h
   obtain ⟨i, h1, j, h2, h3⟩ := h
   split at h3
   case isFalse => cases h3
   split at h3
   case isFalse => cases h3
   rename_i ha
   simp only [Option.bind_eq_some_iff] at h3
   obtain ⟨cs, h4, q, h5, h6⟩ := h3
   obtain rfl := (Option.some.inj h6).symm
   intro i' hi'
   rcases List.mem_cons.1 hi' with rfl | hi'
   ·unfold Il at ha
    cases hg : H[i']? with
    | none => rw [hg] at ha; cases ha
    | some b => exact (List.getElem?_eq_some_iff.1 hg).1
   ·exact Mu (fun t x a h => L0 d t x a h) h5 i' hi'
  | agg cs =>
   rw [Hb] at h
   simp only [Option.bind_eq_some_iff] at h
   obtain ⟨i, h1, q, h2, h3⟩ := h
   obtain rfl := (Option.some.inj h3).symm
   exact Mu (fun t x a h => L0 d t x a h) h2
  | tup cs =>
   rw [H7] at h
   simp only [Option.bind_eq_some_iff] at h
   obtain ⟨i, h1, q, h2, h3⟩ := h
   obtain rfl := (Option.some.inj h3).symm
   exact Mu (fun t x a h => L0 d t x a h) h2
  | _ => simp [Co] at h
end own
def OwnC (d : Nat) (H : Af) (ts : List Nat) (raw cells : List AV) (ids : List Nat) : Prop := Dg (Co As E0.tp H d) ts raw = some (cells, ids)
theorem OwnC.frame {d : Nat} {H H' : Af} {ts : List Nat} {raw cells : List AV} {ids : List Nat} (h : OwnC d H ts raw cells ids) (hs : ∀ i ∈ ids, H'[i]? = H[i]?) : OwnC d H' ts raw cells ids :=
 H5 (fun t x a h hi => Fg d t x a h fun i hi' => hs i (hi i hi')) h
theorem OwnC.lt {d : Nat} {H : Af} {ts : List Nat} {raw cells : List AV} {ids : List Nat} (h : OwnC d H ts raw cells ids) : ∀ i ∈ ids, i < H.length := Mu (fun t x a h => L0 d t x a h) h
theorem OwnC.grow {d : Nat} {H : Af} {ts : List Nat} {raw cells : List AV} {ids : List Nat} (h : OwnC d H ts raw cells ids) (X : List Gw) : OwnC d (H ++ X) ts raw cells ids :=
 h.frame fun i hi => List.getElem?_append_left (h.lt i hi)
theorem OwnC.append {d : Nat} {H : Af} {ts us : List Nat} {raw raw' cells cells' : List AV} {ids ids' : List Nat} (h : OwnC d H ts raw cells ids) (h' : OwnC d H us raw' cells' ids') : OwnC d H (ts ++ us) (raw ++ raw') (cells ++ cells') (ids ++ ids') := Oa h h'
theorem OwnC.len {d : Nat} {H : Af} {ts : List Nat} {raw cells : List AV} {ids : List Nat} (h : OwnC d H ts raw cells ids) : ts.length = raw.length ∧ cells.length = raw.length := Ty h
def OwnS (d : Nat) (H : Af) (w : Nat) (cty : List Nat) (x : AV) (k : Nat) (cells : List AV) : Prop :=
 (x = .nl ∧ k = 0 ∧ cells = []) ∨ ∃ id raw ids, x = .sl id 0 k w ∧ H[id]? = some ⟨raw, true, true⟩ ∧ raw.length = k * w ∧ OwnC d H (List.replicate k cty).flatten raw cells ids ∧ (id :: ids).Nodup
theorem OwnS.nil (d : Nat) (H : Af) (w : Nat) (cty : List Nat) : OwnS d H w cty .nl 0 [] := .inl ⟨rfl, rfl, rfl⟩
theorem OwnS.grow {d : Nat} {H : Af} {w : Nat} {cty : List Nat} {x : AV} {k : Nat} {cells : List AV} (h : OwnS d H w cty x k cells) (X : List Gw) : OwnS d (H ++ X) w cty x k cells := by
 rcases h with h | ⟨id, raw, ids, h1, h2, h3, h4, h5⟩
 ·exact .inl h
 ·exact .inr ⟨id, raw, ids, h1, by rw [List.getElem?_append_left (List.getElem?_eq_some_iff.1 h2).1]; exact h2, h3, h4.grow X, h5⟩
variable {β : Type} {n : Nat} {r : Option β}
theorem AfM (A : Af) (b : Gw) (R : Af) : (A ++ b :: R)[A.length]? = some b := by
 rw [List.getElem?_append_right (Nat.le_refl _), Nat.sub_self]
 rfl
theorem Ac3 {d : Nat} {H X : Af} {w bytes : Nat} {cty : List Nat} {x : AV} {k : Nat} {cells er ec : List AV} {eids : List Nat} {K : KO β} (hx : OwnS d H w cty x k cells) (hw : er.length = w) (hl : er.all Cp = true)
  (he : OwnC d (H ++ X) cty er ec eids) (hn : eids.Nodup) (hge : ∀ i ∈ eids, H.length ≤ i) (hb : (k + 1) * bytes ≤ 140737488355328)
  (h : ∀ x' H', OwnS d H' w cty x' (k + 1) (cells ++ ec) → K x' H' = r) :
  F6 1 w er true (H ++ X) (fun y G => T0 w bytes x y G K) = r := by
 have hy : ∀ G : Af, Dk (G ++ [⟨er, true, true⟩]) w (.sl G.length 0 1 w) = some er := by
  intro G
  simp only [Dk, if_true, Nat.one_mul, Aw, AfM G _ [], Nat.zero_add, hw, Nat.le_refl, List.drop_zero]
  rw [← hw, List.take_length]
 have hell : (H ++ X).length ∉ eids := fun hm => Nat.lt_irrefl _ (he.lt _ hm)
 rcases hx with ⟨rfl, rfl, rfl⟩ | ⟨id, raw, ids, rfl, h2, h3, h4, h5⟩
 ·simp only [F6, T0, Ic, Option.bind_some, hy]
  rw [show Dk (H ++ X ++ [⟨er, true, true⟩]) w .nl = some [] from rfl]
  simp only [Option.bind_some, P0]
  rw [if_pos hb, if_pos hl]
  refine h _ _ (.inr ⟨_, er, eids, rfl, ?_, by simp [hw], ?_, ?_⟩)
  ·rw [List.getElem?_append_right (Nat.le_refl _), Nat.sub_self]
   rfl
  ·simp only [Nat.zero_add, List.replicate_one, List.flatten_cons, List.flatten_nil, List.append_nil, List.nil_append]
   exact (he.grow _).grow _
  ·rw [List.nodup_cons]
   refine ⟨fun hm => ?_, hn⟩
   have := he.lt _ hm
   simp at this
   omega
 ·have hid : id < H.length := (List.getElem?_eq_some_iff.1 h2).1
  have hg : (H ++ X ++ [(⟨er, true, true⟩ : Gw)])[id]? = some ⟨raw, true, true⟩ := by
   rw [List.append_assoc, List.getElem?_append_left hid]
   exact h2
  have hcx : Dk (H ++ X ++ [⟨er, true, true⟩]) w (.sl id 0 k w) = some raw := by
   simp only [Dk, if_true, Aw, hg, Nat.zero_add, h3, Nat.le_refl, List.drop_zero]
   rw [← h3, List.take_length]
  simp only [F6, T0, Ic, Option.bind_some, hy, hcx, P0, hg, if_true]
  rw [if_pos hb, if_pos hl]
  have hn5 := List.nodup_cons.1 h5
  have hne : ∀ i ∈ ids, i ≠ id := fun i hi e => hn5.1 (e ▸ hi)
  have hne2 : ∀ i ∈ eids, i ≠ id := fun i hi e => by
   have := hge i hi
   omega
  refine h _ _ (.inr ⟨_, raw ++ er, ids ++ eids, rfl, ?_, by simp [h3, hw, Nat.succ_mul], ?_, ?_⟩)
  ·rw [List.getElem?_append_right (Nat.le_refl _), Nat.sub_self]
   rfl
  ·have e : (List.replicate (k + 1) cty).flatten = (List.replicate k cty).flatten ++ cty := by
    rw [List.replicate_succ', List.flatten_append]
    simp
   rw [e]
   refine OwnC.append ?_ ?_
   ·refine OwnC.grow (OwnC.frame (H := H ++ X ++ [⟨er, true, true⟩]) ((h4.grow X).grow _) fun i hi => ?_) _
    rw [List.getElem?_set_ne (fun e => hne i hi e.symm)]
   ·refine OwnC.grow (OwnC.frame (H := H ++ X ++ [⟨er, true, true⟩]) (he.grow _) fun i hi => ?_) _
    rw [List.getElem?_set_ne (fun e => hne2 i hi e.symm)]
  ·rw [List.nodup_cons]
   refine ⟨fun hm => ?_, ?_⟩
   ·rcases List.mem_append.1 hm with hm | hm
    ·have := h4.lt _ hm
     simp at this
     omega
    ·have := he.lt _ hm
     simp at this
     omega
   ·rw [List.nodup_append]
    refine ⟨hn5.2, hn, fun a ha b hb e => ?_⟩
    have h1 := h4.lt a ha
    have h2 := hge b hb
    omega
theorem AdZ {d : Nat} {H : Af} {w tyS k : Nat} {cty : List Nat} {x : AV} {cells : List AV} (hty : ∃ i j, As tyS = some i ∧ As i.elem = some j ∧ j.size = w ∧ j.cty = cty) (h : OwnS d H w cty x k cells) : ∃ ids, Co As E0.tp H (d + 1) tyS x = some (.ro k cells, ids) ∧ ids.Nodup := by
 rcases h with ⟨rfl, rfl, rfl⟩ | ⟨id, raw, ids, rfl, h2, h3, h4, h5⟩
 ·exact ⟨[], rfl, List.nodup_nil⟩
 ·obtain ⟨i, j, e1, e2, rfl, rfl⟩ := hty
  refine ⟨id :: ids, ?_, h5⟩
  rw [Hp]
  have ha : Il H id = true := by simp only [Il, h2]
  have hr : Aw H id 0 (k * j.size) = some raw := by
   simp only [Aw, h2, if_true, Nat.zero_add, h3, Nat.le_refl, List.drop_zero]
   rw [← h3, List.take_length]
  have h4' : Dg (Co As E0.tp H d) (List.replicate k j.cty).flatten raw = some (cells, ids) := h4
  simp only [e1, e2, Option.bind_some, if_true, ha, hr, h4']
end
section
open Go
def B5 (s : ByteArray) : Bool := Bi s && !(s.toList == (⟨#[]⟩ : ByteArray).toList) && !(Fv s 43) && !(Fv s 35) && decide (((A4 s).length : Int) ≤ 6)
section
variable {β : Type} {n : Nat} {H : Af} {r : Option β}
theorem Xi {ty f len : Nat} {args vs cells : List AV} {K : KO β} (hh : Di f = false) (hv : args.mapM (Ci H 8) = some vs) (ht : Bv E0 n ty f vs = some (.ro len cells)) (h : ∀ N X sz, K (.sl N 0 len sz) (H ++ X) = r) : (PR n β).call ty (.fn f [] []) args H (fun x H => K x H) = r := by
 rw [Et hh hv ht]
 exact h _ _ _
theorem Acq {b b' : Bool} (h : b = b') : some (AV.sc (.bool b)) = some (AV.sc (.bool b')) := by rw [h]
theorem Aeq {α : Type} {w : Nat} {enc : α → List AV} {l pre t : List α} {x : α} {K : AV → Option β} (hw : ∀ x, (enc x).length = w) (h0 : 0 < w) (hl : l = pre ++ x :: t) (h : K (.rp (enc x ++ (t.map enc).flatten)) = r) : C4 w (Bq enc l) (.sc (.int .i64 (pre.length : Int))) (fun t => K t) = r := by
 subst hl
 exact (O7 (β := β) hw h0 pre x t (fun t => K t)).trans h
theorem Acs {id off m w : Nat} {K : AV → Option β} (h : K (.sc (.int .i64 m)) = r) : Gg (.sl id off m w) (fun t => K t) = r := h
end
section has
variable (n : Nat) (k : AV → Af → Option AV) (H : Af)
theorem Tq (s : ByteArray) (b : UInt8) (hs : s.size ≤ 1048576) : ∀ (r pre : List UInt8) (m : Nat), s.data.toList = pre ++ r → r.length < m →
  Ju (PR n AV) n k m (.sc (.string s)) (.sc (.int .u8 b.toNat)) (.sc (.int .i64 pre.length)) H = k (.sc (.bool (r.any fun c => c == b))) H
 | [], pre, m + 1, hl, hm => by
  have h1 : s.size = pre.length := by
   have := congrArg List.length hl
   simpa using this
  rw [Ju]
  simp only [C7, A2, Ay]
  rw [P2, Eh, h1, Cf, if_neg (by simp)]
  rfl
 | c :: r, pre, m + 1, hl, hm => by
  have h1 : s.size = pre.length + r.length + 1 := by
   have := congrArg List.length hl
   simpa [Nat.add_assoc] using this
  rw [Ju]
  simp only [C7, A2, Ay, Gi]
  rw [P2, Eh, Cf, if_pos (by simp; omega), AeY s pre.length c _ (by rw [hl]; simp)]
  have he : ∀ K : AV → Option AV, Cg .eql (.sc (.int .u8 (c.toNat : Int))) (.sc (.int .u8 (b.toNat : Int))) K = K (.sc (.bool (c == b))) := by
   intro K
   show K (.sc (.bool ((c.toNat : Int) == (b.toNat : Int)))) = _
   congr 3
   rw [Bool.eq_iff_iff, beq_iff_eq, beq_iff_eq, Int.ofNat_inj, UInt8.toNat_inj]
  rw [he, Cf, List.any_cons]
  cases hcb : (c == b)
  ·rw [if_neg (by simp), El _ _ (by omega)]
   have ih := Tq s b hs r (pre ++ [c]) m (by rw [hl]; simp) (by simpa using hm)
   rw [List.length_append, List.length_singleton] at ih
   rw [ih]
   rfl
  ·rw [if_pos rfl]
   rfl
end has
theorem Ag4 (n : Nat) (hn : 1048576 < n) (ty : Nat) (s : ByteArray) (b : UInt8) (hs : s.size ≤ 1048576) : Bv E0 (n + 1) ty 273 [.sc (.string s), .sc (.int .u8 b.toNat)] = some (.sc (.bool (Fv s b))) := by
 rw [Av, Ad0, f273]
 have key := Tq n (fun x H => A7 As E0.tp ty H x) [] s b hs s.data.toList [] n rfl (by simp; omega)
 simp only [List.length_nil, Int.natCast_zero] at key
 rw [key]
 rfl
theorem AeX (n : Nat) (hn : 1048576 < n) (ty : Nat) (s : ByteArray) (hs : s.size ≤ 1048576) : Bv E0 (n + 1) ty 273 [.sc (.string s), .sc (.int .u8 43)] = some (.sc (.bool (Fv s 43))) := Ag4 n hn ty s 43 hs
theorem Aby (n : Nat) (hn : 1048576 < n) (ty : Nat) (s : ByteArray) (hs : s.size ≤ 1048576) : Bv E0 (n + 1) ty 273 [.sc (.string s), .sc (.int .u8 35)] = some (.sc (.bool (Fv s 35))) := Ag4 n hn ty s 35 hs
theorem Aem : ∃ i j, As 33 = some i ∧ As i.elem = some j ∧ j.size = 1 ∧ j.cty = [i.elem] := ⟨_, _, rfl, rfl, rfl, rfl⟩
def Ael (l : List UInt8) : AV := .sc (.string (ofL l))
theorem Tu (s : ByteArray) (P cur r : List UInt8) (h : s.data.toList = P ++ (cur ++ r)) : s.extract P.length (P.length + cur.length) = ofL cur := by
 have : (s.extract P.length (P.length + cur.length)).data.toList = cur := by
  rw [ByteArray.data_extract, Array.toList_extract, List.extract, h]
  rw [List.drop_append_of_le_length (Nat.le_refl _), List.drop_length, List.nil_append, Nat.add_sub_cancel_left, List.take_append_of_le_length (Nat.le_refl _), List.take_length]
 rw [← Tt (s.extract _ _), this]
theorem Rj {H : Af} {x : AV} {cnt : Nat} {cells : List AV} {K : AV → Af → Option AV} {r : Option AV} (s : ByteArray) (P cur rest : List UInt8) (hl : s.data.toList = P ++ (cur ++ rest)) (hs : s.size ≤ 1048576) (hx : OwnS 7 H 1 [9] x cnt cells) (hc : cnt ≤ 1048577)
  (h : ∀ x' H', OwnS 7 H' 1 [9] x' (cnt + 1) (cells ++ [Ael cur]) → K x' H' = r) :
  (Mx (.sc (.string s)) (some (.sc (.int .i64 P.length))) (some (.sc (.int .i64 ((P.length + cur.length : Nat) : Int)))) fun t27 => (Kd [(.sc (.string ⟨#[]⟩))] [(0, 1, t27)]).bind fun ct28 => F6 1 1 ct28 true H fun t28 H => T0 1 16 x t28 H K) = r := by
 have hsz : P.length + cur.length ≤ s.size := by
  have := congrArg List.length hl
  simp at this
  omega
 simp only [Mx, Wh, Lm, Uj, Option.bind_some]
 rw [if_pos (by omega)]
 simp only [Int.toNat_natCast]
 rw [Tu s P cur rest hl]
 have hf : Kd [(.sc (.string ⟨#[]⟩))] [(0, 1, .sc (.string (ofL cur)))] = some [.sc (.string (ofL cur))] := rfl
 rw [hf, Option.bind_some]
 have key := Ac3 (H := H) (X := []) (bytes := 16) (er := [.sc (.string (ofL cur))]) (ec := [Ael cur]) (eids := []) (K := K) (r := r) hx rfl rfl rfl List.nodup_nil (fun i hi => by cases hi) (by omega) h
 rw [List.append_nil] at key
 exact key
theorem P3 (n : Nat) (s : ByteArray) (hs : s.size ≤ 1048576) : ∀ (r P cur : List UInt8) (m : Nat) (x : AV) (H : Af) (cnt : Nat) (cells : List AV), s.data.toList = P ++ (cur ++ r) → r.length + 1 < m → OwnS 7 H 1 [9] x cnt cells → cnt ≤ P.length →
  Ho (PR n AV) n (fun x H => A7 As E0.tp 33 H x) m (.sc (.string s)) x (.sc (.int .i64 P.length)) (.sc (.int .i64 ((P.length + cur.length : Nat) : Int))) H = some (.ro (cnt + (Vy cur r).length) (cells ++ (Vy cur r).map Ael))
 | [], P, cur, m + 2, x, H, cnt, cells, hl, hm, hx, hc => by
  have h1 : s.size = P.length + cur.length := by
   have := congrArg List.length hl
   simpa using this
  rw [Ho]
  simp only [C7, A2, Ay, A1, Be, D5, Dp, Em, Gz, Gi]
  rw [P2, Ts, Cf, if_pos (by simp; omega), P2, Aet]
  have he : (((P.length + cur.length : Nat) : Int) == (s.size : Int)) = true := by simp; omega
  refine Gv he ?_
  refine Gv he ?_
  refine Gv he ?_
  refine Gv he ?_
  refine Aap he ?_
  refine Kl rfl ?_
  refine Rj s P cur [] hl hs hx (by omega) fun x' H' hx' => ?_
  rw [El _ _ (by omega), El _ _ (by omega)]
  rw [Ho]
  simp only [C7, A2, Ay]
  rw [P2, Ts, Cf, if_neg (by simp; omega)]
  obtain ⟨i, j, e1, e2, e3, e4⟩ := Aem
  obtain ⟨ids, ho, hno⟩ := AdZ (d := 7) (tyS := 33) (w := 1) (cty := [9]) ⟨_, _, rfl, rfl, rfl, rfl⟩ hx'
  rw [A7, ho, Option.bind_some, if_pos hno]
  rfl
 | c :: r, P, cur, m + 1, x, H, cnt, cells, hl, hm, hx, hc => by
  have h1 : s.size = P.length + cur.length + r.length + 1 := by
   have := congrArg List.length hl
   simp at this
   omega
  have hidx : s.data.toList[P.length + cur.length]? = some c := by
   rw [hl, ← List.append_assoc, ← List.length_append, List.getElem?_append_right (Nat.le_refl _), Nat.sub_self]
   rfl
  rw [Ho]
  simp only [C7, A2, Ay, A1, Be, D5, Dp, Em, Gz, Gi]
  rw [P2, Ts, Cf, if_pos (by simp; omega), P2, Aet]
  have he : (((P.length + cur.length : Nat) : Int) == (s.size : Int)) = false := by simp; omega
  refine Fw he ?_
  refine Fw he ?_
  refine Fw he ?_
  rw [AeY s (P.length + cur.length) c _ hidx]
  refine Fw he ?_
  refine B9 (v := .sc (.bool (c == 47))) (fun K => ?_) ?_
  ·show K (.sc (.bool ((c.toNat : Int) == (47 : Int)))) = _
   congr 3
   rw [Bool.eq_iff_iff, beq_iff_eq, beq_iff_eq, show (47 : Int) = (((47 : UInt8).toNat : Nat) : Int) from rfl, Int.ofNat_inj, UInt8.toNat_inj]
  refine Wc he ?_
  rw [Vy]
  by_cases h47 : c = 47
  ·refine Kl (by simp [h47]) ?_
   refine Rj s P cur (c :: r) hl hs hx (by omega) fun x' H' hx' => ?_
   rw [El _ _ (by omega), El _ _ (by omega), if_pos h47]
   have ih := P3 n s hs r (P ++ cur ++ [c]) [] m x' H' (cnt + 1) (cells ++ [Ael cur]) (by rw [hl]; simp) (by simpa using hm) hx' (by simp; omega)
   simp only [List.length_append, List.length_nil, List.length_singleton, Nat.add_zero] at ih
   rw [ih]
   simp [Nat.add_assoc, Nat.add_comm]
  ·refine L4 (by simpa using h47) ?_
   rw [El _ _ (by omega), if_neg h47]
   have ih := P3 n s hs r P (cur ++ [c]) m x H cnt cells (by rw [hl]; simp) (by simpa using hm) hx hc
   rw [List.length_append, List.length_singleton, ← Nat.add_assoc] at ih
   exact ih
theorem Oh (n : Nat) (hn : 1048577 < n) (s : ByteArray) (hs : s.size ≤ 1048576) : Bv E0 (n + 1) 33 274 [.sc (.string s)] = some (.ro (A4 s).length ((A4 s).map fun x => .sc (.string x))) := by
 rw [Av, Ad1, f274]
 have key := P3 n s hs s.data.toList [] [] n .nl [] 0 [] rfl (by simp; omega) (OwnS.nil _ _ _ _) (by simp)
 simp only [List.length_nil, Int.natCast_zero, Nat.zero_add, List.nil_append] at key
 rw [key, A4, List.length_map, List.map_map]
 rfl
theorem N3 (n : Nat) (s : ByteArray) (hs : s.size ≤ 1048576) : Bv E0 (n + 1) 33 268 [.sc (.string s)] = some (.ro (A4 s).length ((A4 s).map fun x => .sc (.string x))) := by
 rw [Av, Ady, f268]
 have hg : Nd 33 [.sc (.string s), .sc (.string ⟨#[47]⟩)] = some (.ro (A4 s).length ((A4 s).map fun x => .sc (.string x))) := by
  unfold Nd
  exact if_pos ⟨rfl, rfl, by omega⟩
 rw [Um (g := Nd) rfl (Cn (En _ _) (Cn (En _ _) Fp)) hg]
 refine Sv [] _ _ ?_
 refine ⟨_, _, rfl, rfl, by simp, ?_⟩
 have := Lf (f := Ht As E0.tp 7) (cty := [9]) (enc := fun x : ByteArray => [.sc (.string x)]) (A4 s) (fun x _ => ⟨trivial, trivial⟩)
 rw [I5] at this
 exact this
theorem Rc (ty : Nat) (s : ByteArray) (hs : s.size ≤ 1048576) : Pb ty [.sc (.string s), .sc (.string ⟨#[43, 35]⟩)] = some (.sc (.bool (vPH s))) := by
 unfold Pb
 exact if_pos ⟨rfl, by omega⟩
end
section
open Go
section
variable {ti : Nat → Option TI} {tp : Nat → Option (List Nat)} {H : Af}
theorem K1 {d d' : Nat} (hd : ∀ ty x t I, Co ti tp H d ty x = some (t, I) → Ht ti tp d' ty t → Co ti tp H d' ty x = some (t, I)) : ∀ (ts : List Nat) (xs cells : List AV) (I : List Nat), Dg (Co ti tp H d) ts xs = some (cells, I) → Gf (Ht ti tp d') ts cells → Dg (Co ti tp H d') ts xs = some (cells, I)
 | ts, [], cells, I, h, _ => by
  obtain ⟨rfl, e⟩ := H6 h
  cases e
  rfl
 | [], _ :: _, _, _, h, _ => by simp [Dg] at h
 | t :: ts, x :: xs, cells, I, h, ho => by
  obtain ⟨a, b, h1, h2, e⟩ := G1 h
  cases e
  have e1 := hd t x a.1 a.2 h1 ho.1
  have e2 := K1 hd ts xs b.1 b.2 h2 ho.2
  rw [Dg, e1, Option.bind_some, e2]
  rfl
theorem Hq : ∀ (d d' ty : Nat) (x t : AV) (I : List Nat), Co ti tp H d ty x = some (t, I) → Ht ti tp d' ty t → Co ti tp H d' ty x = some (t, I)
 | 0, _, _, _, _, _, h, _ => by simp [Co] at h
 | d + 1, 0, _, _, _, _, _, ho => by cases ho
 | d + 1, d' + 1, ty, x, t, I, h, ho => by
  cases x with
  | sc v =>
   obtain ⟨rfl, rfl⟩ : AV.sc v = t ∧ [] = I := by simpa [Co] using h
   rfl
  | nl =>
   obtain ⟨rfl, rfl⟩ : AV.ro 0 [] = t ∧ [] = I := by simpa [Co] using h
   rfl
  | sl id off n z =>
   rw [Hp] at h ⊢
   simp only [Option.bind_eq_some_iff] at h
   obtain ⟨i, h1, j, h2, h3⟩ := h
   split at h3
   case isFalse => cases h3
   rename_i hz
   split at h3
   case isFalse => cases h3
   rename_i ha
   simp only [Option.bind_eq_some_iff] at h3
   obtain ⟨cs, h4, q, h5, h6⟩ := h3
   obtain ⟨rfl, rfl⟩ : AV.ro n q.1 = t ∧ id :: q.2 = I := by simpa using h6
   obtain ⟨i', j', g1, g2, g3, g4⟩ := ho
   rw [h1] at g1
   cases g1
   rw [h2] at g2
   cases g2
   have e3 := K1 (fun ty x t I h ho => Hq d d' ty x t I h ho) _ _ _ _ h5 g4
   rw [hz] at h4
   simp only [h1, h2, Option.bind_some, hz, if_true, ha, h4, e3]
  | agg cs =>
   rw [Hb] at h ⊢
   simp only [Option.bind_eq_some_iff] at h
   obtain ⟨i, h1, q, h2, h3⟩ := h
   obtain ⟨rfl, rfl⟩ : AV.agg q.1 = t ∧ q.2 = I := by simpa using h3
   obtain ⟨i', g1, g2⟩ := ho
   rw [h1] at g1
   cases g1
   have e3 := K1 (fun ty x t I h ho => Hq d d' ty x t I h ho) _ _ _ _ h2 g2
   rw [h1, Option.bind_some, e3]
   rfl
  | tup cs =>
   rw [H7] at h ⊢
   simp only [Option.bind_eq_some_iff] at h
   obtain ⟨i, h1, q, h2, h3⟩ := h
   obtain ⟨rfl, rfl⟩ : AV.tup q.1 = t ∧ q.2 = I := by simpa using h3
   obtain ⟨i', g1, g2⟩ := ho
   rw [h1] at g1
   cases g1
   have e3 := K1 (fun ty x t I h ho => Hq d d' ty x t I h ho) _ _ _ _ h2 g2
   rw [h1, Option.bind_some, e3]
   rfl
  | _ => simp [Co] at h
theorem Ru {d : Nat} (hd : ∀ ty x t I, Co ti tp H d ty x = some (t, I) → Ci H d x = some t) : ∀ (ts : List Nat) (xs cells : List AV) (I : List Nat), Dg (Co ti tp H d) ts xs = some (cells, I) → xs.mapM (Ci H d) = some cells
 | ts, [], cells, I, h => by
  obtain ⟨rfl, e⟩ := H6 h
  cases e
  rfl
 | [], _ :: _, _, _, h => by simp [Dg] at h
 | t :: ts, x :: xs, cells, I, h => by
  obtain ⟨a, b, h1, h2, e⟩ := G1 h
  cases e
  simp only [List.mapM_cons, hd t x a.1 a.2 h1, Ru hd ts xs b.1 b.2 h2, Option.pure_def, Option.bind_eq_bind, Option.bind_some]
theorem K2 : ∀ (d ty : Nat) (x t : AV) (I : List Nat), Co ti tp H d ty x = some (t, I) → Ci H d x = some t
 | 0, _, _, _, _, h => by simp [Co] at h
 | d + 1, ty, x, t, I, h => by
  have ih := Ru (ti := ti) (tp := tp) (H := H) (d := d) (fun ty x t I h => K2 d ty x t I h)
  cases x with
  | sc v =>
   obtain ⟨rfl, rfl⟩ : AV.sc v = t ∧ [] = I := by simpa [Co] using h
   rfl
  | nl =>
   obtain ⟨rfl, rfl⟩ : AV.ro 0 [] = t ∧ [] = I := by simpa [Co] using h
   rfl
  | sl id off n z =>
   rw [Hp] at h
   simp only [Option.bind_eq_some_iff] at h
   obtain ⟨i, h1, j, h2, h3⟩ := h
   split at h3
   case isFalse => cases h3
   split at h3
   case isFalse => cases h3
   simp only [Option.bind_eq_some_iff] at h3
   obtain ⟨cs, h4, q, h5, h6⟩ := h3
   obtain ⟨rfl, rfl⟩ : AV.ro n q.1 = t ∧ id :: q.2 = I := by simpa using h6
   rw [M6, h4, Option.bind_some, ih _ _ _ _ h5]
   rfl
  | agg cs =>
   rw [Hb] at h
   simp only [Option.bind_eq_some_iff] at h
   obtain ⟨i, h1, q, h2, h3⟩ := h
   obtain ⟨rfl, rfl⟩ : AV.agg q.1 = t ∧ q.2 = I := by simpa using h3
   rw [Ll, ih _ _ _ _ h2]
   rfl
  | tup cs =>
   rw [H7] at h
   simp only [Option.bind_eq_some_iff] at h
   obtain ⟨i, h1, q, h2, h3⟩ := h
   obtain ⟨rfl, rfl⟩ : AV.tup q.1 = t ∧ q.2 = I := by simpa using h3
   show (cs.mapM (Ci H d)).bind _ = _
   rw [ih _ _ _ _ h2]
   rfl
  | _ => simp [Co] at h
theorem Jb {f g : Nat → AV → Prop} (hfg : ∀ t x, f t x → g t x) : ∀ {ts : List Nat} {cs : List AV}, Gf f ts cs → Gf g ts cs
 | [], [], h => h
 | _ :: ts, _ :: cs, h => ⟨hfg _ _ h.1, Jb hfg h.2⟩
theorem Ms : ∀ (d ty : Nat) (x : AV), Ht ti tp d ty x → Ht ti tp (d + 1) ty x
 | 0, _, _, h => by cases h
 | d + 1, ty, x, h => by
  cases x with
  | sc v => trivial
  | ro n cells =>
   obtain ⟨i, j, h1, h2, h3, h4⟩ := h
   exact ⟨i, j, h1, h2, h3, Jb (Ms d) h4⟩
  | agg cs =>
   obtain ⟨i, h1, h2⟩ := h
   exact ⟨i, h1, Jb (Ms d) h2⟩
  | tup cs =>
   obtain ⟨i, h1, h2⟩ := h
   exact ⟨i, h1, Jb (Ms d) h2⟩
  | _ => cases h
theorem P9 {d d' ty : Nat} {x : AV} (h : Ht ti tp d ty x) (hd : d ≤ d') : Ht ti tp d' ty x := by
 induction hd with
 | refl => exact h
 | step _ ih => exact Ms _ _ _ ih
theorem AdU {d d' : Nat} {ts : List Nat} {cs : List AV} (h : Gf (Ht ti tp d) ts cs) (hd : d ≤ d') : Gf (Ht ti tp d') ts cs := Jb (fun _ _ h => P9 h hd) h
end
inductive Ck where
 | blk (id : Nat) (cs : List AV) (a : Bool)
 | own (x : AV) (ty : Nat) (t : AV)
 | shr (x : AV) (ty : Nat) (t : AV) (y : AV) (ty' : Nat) (t' : AV)
 | shs (x : AV) (ty : Nat) (t : AV) (ys : List (AV × Nat × AV))
def CkOk (H : Af) (c : Ck) (I : List Nat) : Prop :=
 match c with
 | .blk id cs a => I = [id] ∧ H[id]? = some ⟨cs, true, a⟩
 | .own x ty t => Cp x = true ∧ Ht As E0.tp 6 ty t ∧ Co As E0.tp H 6 ty x = some (t, I)
 | .shr x ty t y ty' t' => (Cp x = true ∧ Ht As E0.tp 6 ty t ∧ Co As E0.tp H 6 ty x = some (t, I)) ∧ Ht As E0.tp 6 ty' t' ∧ ∃ J, Co As E0.tp H 6 ty' y = some (t', J) ∧ ∀ i ∈ J, i ∈ I
 | .shs x ty t ys => (Cp x = true ∧ Ht As E0.tp 6 ty t ∧ Co As E0.tp H 6 ty x = some (t, I)) ∧ ∀ q ∈ ys, Ht As E0.tp 6 q.2.1 q.2.2 ∧ ∃ J, Co As E0.tp H 6 q.2.1 q.1 = some (q.2.2, J) ∧ ∀ i ∈ J, i ∈ I
def SepI (H : Af) : List Ck → List Nat → Prop
 | [], I => I = []
 | c :: L, I => ∃ J R, I = J ++ R ∧ CkOk H c J ∧ SepI H L R
def Sep (H : Af) (L : List Ck) : Prop := ∃ I, SepI H L I ∧ I.Nodup
inductive Pk : List Ck → Ck → List Ck → Prop
 | here {c : Ck} {L : List Ck} : Pk (c :: L) c L
 | there {a c : Ck} {L L' : List Ck} : Pk L c L' → Pk (a :: L) c (a :: L')
section
variable {H H' : Af} {L L' L1 L2 : List Ck} {c : Ck} {I J R : List Nat}
theorem Dd : Sep H [] := ⟨[], rfl, List.nodup_nil⟩
theorem CkOk.frame (h : CkOk H c I) (hs : ∀ i ∈ I, H'[i]? = H[i]?) : CkOk H' c I := by
 cases c with
 | blk id cs a =>
  obtain ⟨rfl, h2⟩ := h
  exact ⟨rfl, by rw [hs id (by simp)]; exact h2⟩
 | own x ty t => exact ⟨h.1, h.2.1, Fg 6 ty x _ h.2.2 hs⟩
 | shr x ty t y ty' t' =>
  obtain ⟨⟨h1, h2, h3⟩, h4, J, h5, h6⟩ := h
  exact ⟨⟨h1, h2, Fg 6 ty x _ h3 hs⟩, h4, J, Fg 6 ty' y _ h5 fun i hi => hs i (h6 i hi), h6⟩
 | shs x ty t ys =>
  obtain ⟨⟨h1, h2, h3⟩, h4⟩ := h
  exact ⟨⟨h1, h2, Fg 6 ty x _ h3 hs⟩, fun q hq => by
   obtain ⟨g1, J, g2, g3⟩ := h4 q hq
   exact ⟨g1, J, Fg 6 _ _ _ g2 fun i hi => hs i (g3 i hi), g3⟩⟩
theorem CkOk.lt (h : CkOk H c I) : ∀ i ∈ I, i < H.length := by
 cases c with
 | blk id cs a =>
  obtain ⟨rfl, h2⟩ := h
  intro i hi
  rw [List.mem_singleton] at hi
  subst hi
  exact (List.getElem?_eq_some_iff.1 h2).1
 | own x ty t => exact L0 6 ty x _ h.2.2
 | shr x ty t y ty' t' => exact L0 6 ty x _ h.1.2.2
 | shs x ty t ys => exact L0 6 ty x _ h.1.2.2
theorem SepI.frame : ∀ {L : List Ck} {I : List Nat}, SepI H L I → (∀ i ∈ I, H'[i]? = H[i]?) → SepI H' L I
 | [], I, h, _ => h
 | c :: L, I, h, hs => by
  obtain ⟨J, R, rfl, h1, h2⟩ := h
  exact ⟨J, R, rfl, h1.frame fun i hi => hs i (List.mem_append_left _ hi), h2.frame fun i hi => hs i (List.mem_append_right _ hi)⟩
theorem SepI.lt : ∀ {L : List Ck} {I : List Nat}, SepI H L I → ∀ i ∈ I, i < H.length
 | [], I, h => by
  cases (show I = [] from h)
  intro i hi
  cases hi
 | c :: L, I, h => by
  obtain ⟨J, R, rfl, h1, h2⟩ := h
  intro i hi
  rcases List.mem_append.1 hi with hi | hi
  ·exact h1.lt i hi
  ·exact h2.lt i hi
theorem SepI.grow (h : SepI H L I) (X : List Gw) : SepI (H ++ X) L I := h.frame fun i hi => List.getElem?_append_left (h.lt i hi)
theorem Sep.grow (h : Sep H L) (X : List Gw) : Sep (H ++ X) L := by
 obtain ⟨I, h1, h2⟩ := h
 exact ⟨I, h1.grow X, h2⟩
theorem Sep.new {X : List Gw} (hs : Sep H L) (hc : CkOk (H ++ X) c J) (hJ : J.Nodup) (hge : ∀ i ∈ J, H.length ≤ i) : Sep (H ++ X) (c :: L) := by
 obtain ⟨I, h1, h2⟩ := hs
 refine ⟨J ++ I, ⟨J, I, rfl, hc, h1.grow X⟩, List.nodup_append.2 ⟨hJ, h2, fun a ha b hb e => ?_⟩⟩
 have := h1.lt b hb
 have := hge a ha
 omega
theorem Pk.sepI : ∀ {L L' : List Ck} {c : Ck} {I : List Nat}, Pk L c L' → SepI H L I → ∃ J R, CkOk H c J ∧ SepI H L' R ∧ I.Perm (J ++ R)
 | _, _, _, _, .here, h => by
  obtain ⟨J, R, rfl, h1, h2⟩ := h
  exact ⟨J, R, h1, h2, List.Perm.refl _⟩
 | _, _, _, _, .there p, h => by
  obtain ⟨J, R, rfl, h1, h2⟩ := h
  obtain ⟨J', R', g1, g2, g3⟩ := p.sepI h2
  refine ⟨J', J ++ R', g1, ⟨J, R', rfl, h1, g2⟩, ?_⟩
  refine (List.Perm.append_left J g3).trans ?_
  rw [← List.append_assoc, ← List.append_assoc]
  exact List.Perm.append_right R' List.perm_append_comm
theorem Sep.pick (h : Sep H L) (p : Pk L c L') : Sep H (c :: L') := by
 obtain ⟨I, h1, h2⟩ := h
 obtain ⟨J, R, g1, g2, g3⟩ := p.sepI h1
 exact ⟨J ++ R, ⟨J, R, rfl, g1, g2⟩, g3.nodup_iff.1 h2⟩
theorem Sep.tail (h : Sep H (c :: L)) : Sep H L := by
 obtain ⟨I, ⟨J, R, rfl, h1, h2⟩, h3⟩ := h
 exact ⟨R, h2, (List.nodup_append.1 h3).2.1⟩
theorem Sep.blk {id : Nat} {cs : List AV} {a : Bool} (h : Sep H L) (p : Pk L (.blk id cs a) L') : H[id]? = some ⟨cs, true, a⟩ := by
 obtain ⟨I, ⟨J, R, rfl, h1, h2⟩, h3⟩ := h.pick p
 exact h1.2
theorem Sep.put {id : Nat} {cs : List AV} {a : Bool} (h : Sep H L) (p : Pk L (.blk id cs a) L') (cs' : List AV) (a' : Bool) : Sep (H.set id ⟨cs', true, a'⟩) (.blk id cs' a' :: L') := by
 obtain ⟨I, ⟨J, R, rfl, ⟨rfl, h1⟩, h2⟩, h3⟩ := h.pick p
 have hn := (List.nodup_cons.1 h3).1
 have hl := (List.getElem?_eq_some_iff.1 h1).1
 refine ⟨[id] ++ R, ⟨[id], R, rfl, ⟨rfl, by rw [List.getElem?_set_self hl]⟩, h2.frame fun i hi => ?_⟩, h3⟩
 rw [List.getElem?_set_ne]
 rintro rfl
 exact hn hi
theorem Sep.own {x t : AV} {ty : Nat} (h : Sep H L) (p : Pk L (.own x ty t) L') : Cp x = true ∧ Ht As E0.tp 6 ty t ∧ ∃ I, Co As E0.tp H 6 ty x = some (t, I) ∧ I.Nodup := by
 obtain ⟨I, ⟨J, R, rfl, ⟨h0, h1, h1'⟩, h2⟩, h3⟩ := h.pick p
 exact ⟨h0, h1, J, h1', (List.nodup_append.1 h3).1⟩
theorem Sep.seen {x t y t' : AV} {ty ty' : Nat} (h : Sep H L) (p : Pk L (.shr x ty t y ty' t') L') : Ht As E0.tp 6 ty' t' ∧ ∃ I, Co As E0.tp H 6 ty' y = some (t', I) := by
 obtain ⟨I, ⟨J, R, rfl, ⟨h0, h1, J', h1', h3⟩, h2⟩, h4⟩ := h.pick p
 exact ⟨h1, J', h1'⟩
theorem Sep.ofShs {x t : AV} {ty : Nat} {ys : List (AV × Nat × AV)} (h : Sep H L) (p : Pk L (.shs x ty t ys) L') : Sep H (.own x ty t :: L') := by
 obtain ⟨I, ⟨J, R, rfl, ⟨h0, _⟩, h2⟩, h3⟩ := h.pick p
 exact ⟨J ++ R, ⟨J, R, rfl, h0, h2⟩, h3⟩
theorem Sep.seenS {x t : AV} {ty k : Nat} {ys : List (AV × Nat × AV)} {q : AV × Nat × AV} (h : Sep H L) (p : Pk L (.shs x ty t ys) L') (hk : ys[k]? = some q) : Ht As E0.tp 6 q.2.1 q.2.2 ∧ ∃ I, Co As E0.tp H 6 q.2.1 q.1 = some (q.2.2, I) := by
 obtain ⟨I, ⟨J, R, rfl, ⟨h0, h1⟩, h2⟩, h4⟩ := h.pick p
 obtain ⟨g1, J', g2, _⟩ := h1 q (List.mem_of_getElem? hk)
 exact ⟨g1, J', g2⟩
theorem Sep.nl {ty : Nat} (h : Sep H L) (hty : ∃ i j, As ty = some i ∧ As i.elem = some j) : Sep H (.own .nl ty (.ro 0 []) :: L) := by
 obtain ⟨I, h1, h2⟩ := h
 obtain ⟨i, j, e1, e2⟩ := hty
 exact ⟨[] ++ I, ⟨[], I, rfl, ⟨rfl, ⟨i, j, e1, e2, by simp, by simp [Gf]⟩, rfl⟩, h1⟩, h2⟩
inductive OwnR : List Ck → List AV → List Nat → List AV → List Ck → Prop
 | nil {L : List Ck} : OwnR L [] [] [] L
 | sc {L L' : List Ck} {v : Value} {raw cells : List AV} {ty : Nat} {tys : List Nat} : OwnR L raw tys cells L' → OwnR L (.sc v :: raw) (ty :: tys) (.sc v :: cells) L'
 | nl {L L' : List Ck} {raw cells : List AV} {ty : Nat} {tys : List Nat} : OwnR L raw tys cells L' → OwnR L (.nl :: raw) (ty :: tys) (.ro 0 [] :: cells) L'
 | own {L L1 L' : List Ck} {x t : AV} {raw cells : List AV} {ty : Nat} {tys : List Nat} : Pk L (.own x ty t) L1 → OwnR L1 raw tys cells L' → OwnR L (x :: raw) (ty :: tys) (t :: cells) L'
 | agg {L L1 L' : List Ck} {cs ts raw cells : List AV} {ty : Nat} {tys cty : List Nat} : (∃ i, As ty = some i ∧ i.cty = cty) → OwnR L cs cty ts L1 → OwnR L1 raw tys cells L' → OwnR L (.agg cs :: raw) (ty :: tys) (.agg ts :: cells) L'
theorem OwnR.sound : ∀ {L L' : List Ck} {raw cells : List AV} {tys : List Nat} {I : List Nat}, OwnR L raw tys cells L' → SepI H L I → ∀ d, Gf (Ht As E0.tp d) tys cells → ∃ J R, Dg (Co As E0.tp H d) tys raw = some (cells, J) ∧ SepI H L' R ∧ I.Perm (J ++ R)
 | _, _, _, _, _, I, .nil, h, d, _ => ⟨[], I, rfl, h, List.Perm.refl _⟩
 | _, _, _, _, _, I, .sc q, h, d + 1, ho => by
  obtain ⟨J, R, h1, h2, h3⟩ := q.sound h (d + 1) ho.2
  refine ⟨J, R, ?_, h2, h3⟩
  rw [Dg, AdX, Option.bind_some, h1]
  rfl
 | _, _, _, _, _, I, .nl q, h, d + 1, ho => by
  obtain ⟨J, R, h1, h2, h3⟩ := q.sound h (d + 1) ho.2
  refine ⟨J, R, ?_, h2, h3⟩
  rw [Dg, show Co As E0.tp H (d + 1) _ .nl = some (.ro 0 [], []) from rfl, Option.bind_some, h1]
  rfl
 | _, _, _, _, _, I, .own p q, h, d, ho => by
  obtain ⟨J1, R1, g1, g2, g3⟩ := p.sepI h
  obtain ⟨J, R, h1, h2, h3⟩ := q.sound g2 d ho.2
  have e := Hq 6 d _ _ _ _ g1.2.2 ho.1
  refine ⟨J1 ++ J, R, ?_, h2, ?_⟩
  ·rw [Dg, e, Option.bind_some, h1]
   rfl
  ·refine g3.trans ?_
   rw [List.append_assoc]
   exact List.Perm.append_left J1 h3
 | _, _, _, _, _, I, .agg hty p q, h, d + 1, ho => by
  obtain ⟨i, e1, rfl⟩ := hty
  obtain ⟨i', g1, g2⟩ := ho.1
  rw [e1] at g1
  cases g1
  obtain ⟨J1, R1, a1, a2, a3⟩ := p.sound h (d + 1) (AdU g2 (Nat.le_succ d))
  obtain ⟨J, R, h1, h2, h3⟩ := q.sound a2 (d + 1) ho.2
  have a1' := K1 (fun ty x t I h ho => Hq (d + 1) d ty x t I h ho) _ _ _ _ a1 g2
  refine ⟨J1 ++ J, R, ?_, h2, ?_⟩
  ·rw [Dg, Hb, e1, Option.bind_some, a1', Option.bind_some, Option.bind_some, h1]
   rfl
  ·refine a3.trans ?_
   rw [List.append_assoc]
   exact List.Perm.append_left J1 h3
 | _, _, _, _, _, I, .sc q, h, 0, ho => by cases ho.1
 | _, _, _, _, _, I, .nl q, h, 0, ho => by cases ho.1
 | _, _, _, _, _, I, .agg _ p q, h, 0, ho => by cases ho.1
end
end
section
open Go
theorem Id {a0 x : Ck} {L : List Ck} : Pk (a0 :: x :: L) x (a0 :: L) := .there (.here)
theorem D6 {a0 a1 x : Ck} {L : List Ck} : Pk (a0 :: a1 :: x :: L) x (a0 :: a1 :: L) := .there (.there (.here))
def Gd {β : Type} (G : Option β → Prop) (o : Option β) : Prop := G o
section
variable {β : Type} {n : Nat} {H : Af} {L L' L1 L2 : List Ck} {G : Option β → Prop} {K : AV → Option β} {KH : KO β}
theorem Ek {a b : Option β} (e : a = b) (h : Gd G b) : Gd G a := by rw [e]; exact h
theorem Pu {cs : List AV} (hs : Sep H L) (h : ∀ i H', Sep H' (.blk i cs true :: L) → Gd G (KH (.ptr i 0) H')) : Gd G (Nl cs H fun x H => KH x H) :=
 h _ _ (hs.new (J := [H.length]) ⟨rfl, by rw [List.getElem?_append_right (Nat.le_refl _), Nat.sub_self]; rfl⟩ (by simp) (by simp))
theorem Hz {x : AV} {cs : List AV} (hs : Sep H L) (hc : Dq x = some cs) (h : ∀ i H', Sep H' (.blk i cs true :: L) → Gd G (KH (.ptr i 0) H')) : Gd G (T2 x H fun x H => KH x H) := by
 refine Ek (b := Nl cs H fun x H => KH x H) ?_ (Pu hs h)
 show (Dq x).bind _ = _
 rw [hc]
 rfl
theorem Dr {cs : List AV} (h : cs.all F4 = true) : Dq (.agg cs) = some cs := Tp h
theorem Bl {cs : List AV} (h : cs.all Cp = true) : Dq (.agg cs) = some cs := by
 show (if cs.all Cp then some cs else none) = _
 rw [if_pos h]
theorem Ab {x : AV} {xs : List AV} (h : Cp x = true) (hs : xs.all Cp = true) : (x :: xs).all Cp = true := by
 rw [List.all_cons, h, hs]
 rfl
theorem Am {x : AV} (h : Cp x = true) : Dq x = some [x] := by
 cases x <;> simp_all [Dq, Cp]
theorem Al {i o : Nat} {cs : List AV} {a : Bool} {c : AV} (hs : Sep H L) (hp : Pk L (.blk i cs a) L1) (hc : cs[o]? = some c) (h : Gd G (K c)) : Gd G (Bz false 1 (.ptr i o) H fun x => K x) := by
 refine Ek ?_ h
 obtain ⟨hlt, he⟩ := List.getElem?_eq_some_iff.1 hc
 have e : Aw H i o 1 = some [c] := by
  simp only [Aw, hs.blk hp, if_true]
  rw [if_pos (by omega), List.drop_eq_getElem_cons hlt, he]
  rfl
 exact ldF e _
theorem H0 {i o w : Nat} {cs ds : List AV} {a : Bool} (hs : Sep H L) (hp : Pk L (.blk i cs a) L1) (hl : o + w ≤ cs.length) (hc : (cs.drop o).take w = ds) (h : Gd G (K (.agg ds))) : Gd G (Bz true w (.ptr i o) H fun x => K x) := by
 refine Ek ?_ h
 have e : Aw H i o w = some ds := by
  simp only [Aw, hs.blk hp, if_true]
  rw [if_pos hl, hc]
 exact ldT e _
theorem Bo {i w : Nat} {cs : List AV} {a : Bool} (hs : Sep H L) (hp : Pk L (.blk i cs a) L1) (hl : cs.length = w) (h : Gd G (K (.agg cs))) : Gd G (Bz true w (.ptr i 0) H fun x => K x) :=
 H0 hs hp (by omega) (by rw [List.drop_zero, ← hl, List.take_length]) h
theorem B0 {i o w : Nat} {cs cs' ds : List AV} {a : Bool} {y : AV} {KS : Af → Option β} (hs : Sep H L) (hp : Pk L (.blk i cs a) L1) (hy : Dq y = some ds) (hd : ds.length = w) (hl : o + w ≤ cs.length) (hc : Ee cs o ds = cs') (h : ∀ H', Sep H' (.blk i cs' a :: L1) → Gd G (KS H')) : Gd G (D0 w (.ptr i o) y H fun H => KS H) := by
 have hb := hs.blk hp
 refine Ek (Ry w i o y ⟨cs, true, a⟩ ds H _ hb hy hd hl rfl) ?_
 have := hs.put hp cs' a
 rw [← hc] at this
 exact h _ (by rw [← hc]; exact this)
theorem Ke {cells : List AV} {c : AV} (hc : cells[0]? = some c) (h : Gd G (K c)) : Gd G (Bz false 1 (.rp cells) H fun x => K x) := by
 cases cells with
 | nil => cases hc
 | cons x xs =>
  obtain rfl : x = c := by simpa using hc
  refine Ek (Kw x xs H _) h
theorem Xh {w : Nat} {cs rest : List AV} (hw : cs.length = w) (h : Gd G (K (.agg cs))) : Gd G (Bz true w (.rp (cs ++ rest)) H fun x => K x) := Ek (P1 w cs rest H _ hw) h
theorem Ad {o i off o' : Nat} (e : off + o = o') (h : Gd G (K (.ptr i o'))) : Gd G (Db o (.ptr i off) fun x => K x) := by subst e; exact h
theorem Oq {o : Nat} {cells : List AV} (h : Gd G (K (.rp (cells.drop o)))) : Gd G (Db o (.rp cells) fun x => K x) := h
theorem Jx {zs cs : List AV} {ps : List (Nat × Nat × AV)} {KL : List AV → Option β} (hf : Kd zs ps = some cs) (h : Gd G (KL cs)) : Gd G ((Kd zs ps).bind fun c => KL c) := by
 rw [hf]
 exact h
theorem Cq {m : Nat} {cs : List AV} (h : Gd G (K (.sc (.int .i64 m)))) : Gd G (Gg (.ro m cs) fun x => K x) := h
theorem AdQ {d ty m : Nat} {x : AV} {cells : List AV} {I : List Nat} (h : Co As E0.tp H d ty x = some (.ro m cells, I)) : Ic x = some m := by
 cases d with
 | zero => simp [Co] at h
 | succ d =>
  cases x with
  | sc v => simp [Co] at h
  | nl =>
   have := (Option.some.inj h)
   simp only [Prod.mk.injEq, AV.ro.injEq] at this
   rw [← this.1.1]
   rfl
  | sl id off n z =>
   rw [Hp] at h
   simp only [Option.bind_eq_some_iff] at h
   obtain ⟨i, h1, j, h2, h3⟩ := h
   split at h3
   case isFalse => cases h3
   split at h3
   case isFalse => cases h3
   simp only [Option.bind_eq_some_iff] at h3
   obtain ⟨cs, h4, q, h5, h6⟩ := h3
   obtain ⟨h7, -⟩ : AV.ro n q.1 = .ro m cells ∧ _ := by simpa only [Prod.mk.injEq, Option.some.injEq] using h6
   cases h7
   rfl
  | agg cs =>
   rw [Hb] at h
   simp only [Option.bind_eq_some_iff] at h
   obtain ⟨i, h1, q, h2, h3⟩ := h
   simp at h3
  | tup cs =>
   rw [H7] at h
   simp only [Option.bind_eq_some_iff] at h
   obtain ⟨i, h1, q, h2, h3⟩ := h
   simp at h3
  | _ => simp [Co] at h
theorem Kt {x : AV} {ty m : Nat} {cells : List AV} (hs : Sep H L) (hp : Pk L (.own x ty (.ro m cells)) L1) (h : Gd G (K (.sc (.int .i64 m)))) : Gd G (Gg x fun x => K x) := by
 obtain ⟨_, _, I, e, _⟩ := hs.own hp
 have hl := AdQ e
 refine Ek ?_ h
 have key : ∀ (x : AV), (∀ v, x ≠ .sc v) → Ic x = some m → Gg x K = K (.sc (.int .i64 m)) := by
  intro x hx hl
  cases x with
  | sc v => exact absurd rfl (hx v)
  | nl => cases hl; rfl
  | ro n cs => cases hl; rfl
  | sl a b c d => cases hl; rfl
  | _ => cases hl
 refine key x (fun v hv => ?_) hl
 subst hv
 simp [Co] at e
theorem AfL {op : BinOp} {x y v : AV} (e : ∀ k : AV → Option β, Kg op x y k = k v) (h : Gd G (K v)) : Gd G (Kg op x y fun t => K t) := Ek (e _) h
theorem Au {a b : Int} (h : Gd G (K (.sc (.bool (decide (a = b)))))) : Gd G (Cg .eql (.sc (.int .i64 a)) (.sc (.int .i64 b)) fun t => K t) := h
theorem N1 {a b : Int} (h : Gd G (K (.sc (.bool (!decide (a = b)))))) : Gd G (Cg .neq (.sc (.int .i64 a)) (.sc (.int .i64 b)) fun t => K t) := h
theorem D4 {a b : Int} (h : Gd G (K (.sc (.bool (decide (a < b)))))) : Gd G (Cg .lss (.sc (.int .i64 a)) (.sc (.int .i64 b)) fun t => K t) := h
theorem Hk {a b : Int} (h : Gd G (K (.sc (.bool (decide (a ≤ b)))))) : Gd G (Cg .leq (.sc (.int .i64 a)) (.sc (.int .i64 b)) fun t => K t) := h
theorem Pt {a b : Int} (h : Gd G (K (.sc (.bool (decide (b < a)))))) : Gd G (Cg .gtr (.sc (.int .i64 a)) (.sc (.int .i64 b)) fun t => K t) := h
theorem AeW {a b : Int} (h : Gd G (K (.sc (.bool (decide (b ≤ a)))))) : Gd G (Cg .geq (.sc (.int .i64 a)) (.sc (.int .i64 b)) fun t => K t) := h
theorem Fj {a b : Int} (h0 : -9223372036854775808 ≤ a + b) (h1 : a + b ≤ 9223372036854775807) (h : Gd G (K (.sc (.int .i64 (a + b))))) : Gd G (Cg .add (.sc (.int .i64 a)) (.sc (.int .i64 b)) fun t => K t) := by
 refine Ek ?_ h
 show K (.sc (.int .i64 (IntKind.i64.wrap (a + b)))) = _
 rw [Ib _ h0 h1]
theorem Abw {a b : Int} (h0 : -9223372036854775808 ≤ a - b) (h1 : a - b ≤ 9223372036854775807) (h : Gd G (K (.sc (.int .i64 (a - b))))) : Gd G (Cg .sub (.sc (.int .i64 a)) (.sc (.int .i64 b)) fun t => K t) := by
 refine Ek ?_ h
 show K (.sc (.int .i64 (IntKind.i64.wrap (a - b)))) = _
 rw [Ib _ h0 h1]
theorem Ks {a b : ByteArray} (h : Gd G (K (.sc (.bool (a.toList == b.toList))))) : Gd G (Cg .eql (.sc (.string a)) (.sc (.string b)) fun t => K t) := h
theorem Lz {a b : ByteArray} (h : Gd G (K (.sc (.bool (!(a.toList == b.toList)))))) : Gd G (Cg .neq (.sc (.string a)) (.sc (.string b)) fun t => K t) := h
theorem C5 {b : Bool} (h : Gd G (K (.sc (.bool (!b))))) : Gd G (pUn .not (.sc (.bool b)) fun t => K t) := h
theorem Fm {α : Sort _} {γ : Type} {G : Option γ → Prop} {x : α} {f : α → Option γ} (h : Gd G (f x)) : Gd G (Kj x f) := h
theorem A0 {b : Bool} {x y : Option β} (hb : b = true) (h : Gd G x) : Gd G (Cy (.sc (.bool b)) x y) := by subst hb; exact h
theorem Bf {b : Bool} {x y : Option β} (hb : b = false) (h : Gd G y) : Gd G (Cy (.sc (.bool b)) x y) := by subst hb; exact h
theorem Ae {b t : Bool} {m : (KO β) → Option β} (hb : b = t) (h : Gd G (m fun x H => KH x H)) : Gd G (G2 (.sc (.bool b)) t H m fun x H => KH x H) := by
 subst hb
 cases b <;> exact h
theorem Aa {b t : Bool} {m : (KO β) → Option β} (hb : b = !t) (h : Gd G (KH (.sc undef) H)) : Gd G (G2 (.sc (.bool b)) t H m fun x H => KH x H) := by
 subst hb
 cases t <;> exact h
theorem Bt {t : Bool} {m : (KO β) → Option β} (h : Gd G (KH (.sc undef) H)) : Gd G (G2 (.sc undef) t H m fun x H => KH x H) := h
theorem Bj {b : Bool} {x y : AV} (hb : b = true) (h : Gd G (K x)) : Gd G (K3 (.sc (.bool b)) x y fun t => K t) := by
 subst hb
 cases x <;> cases y <;> exact h
theorem An {b : Bool} {x y : AV} (hb : b = false) (h : Gd G (K y)) : Gd G (K3 (.sc (.bool b)) x y fun t => K t) := by
 subst hb
 cases x <;> cases y <;> exact h
inductive VwC (L : List Ck) : Nat → AV → AV → Prop
 | sc {d : Nat} {v : Value} : VwC L (d + 1) (.sc v) (.sc v)
 | nl {d : Nat} : VwC L (d + 1) .nl (.ro 0 [])
 | ro {d n : Nat} {cs : List AV} : VwC L (d + 1) (.ro n cs) (.ro n cs)
 | rp {d : Nat} {cs : List AV} : VwC L (d + 1) (.rp cs) (.rp cs)
 | own {d : Nat} {x t : AV} {ty : Nat} {L' : List Ck} : 6 ≤ d → Pk L (.own x ty t) L' → VwC L d x t
 | shr {d : Nat} {x t y t' : AV} {ty ty' : Nat} {L' : List Ck} : 6 ≤ d → Pk L (.shr x ty t y ty' t') L' → VwC L d y t'
 | shsE {d k : Nat} {x t y t' : AV} {ty ty' : Nat} {ys : List (AV × Nat × AV)} {L' : List Ck} : 6 ≤ d → Pk L (.shs x ty t ys) L' → ys[k]? = some (y, ty', t') → VwC L d y t'
 | shsO {d : Nat} {x t : AV} {ty : Nat} {ys : List (AV × Nat × AV)} {L' : List Ck} : 6 ≤ d → Pk L (.shs x ty t ys) L' → VwC L d x t
end
inductive VwL (L : List Ck) : Nat → List AV → List AV → Prop
 | nil {d : Nat} : VwL L d [] []
 | cons {d : Nat} {x t : AV} {xs ts : List AV} : VwC L d x t → VwL L d xs ts → VwL L d (x :: xs) (t :: ts)
 | agg {d : Nat} {cs ds xs ts : List AV} : VwL L d cs ds → VwL L (d + 1) xs ts → VwL L (d + 1) (.agg cs :: xs) (.agg ds :: ts)
 | aggF {d : Nat} {cs xs ts : List AV} : cs.all F4 = true → VwL L (d + 2) xs ts → VwL L (d + 2) (.agg cs :: xs) (.agg cs :: ts)
 | sl {d i k w : Nat} {cs ds xs ts : List AV} {a : Bool} {L' : List Ck} : Pk L (.blk i cs a) L' → cs.length = k * w → VwL L d cs ds → VwL L (d + 1) xs ts → VwL L (d + 1) (.sl i 0 k w :: xs) (.ro k ds :: ts)
 | slA {d i o k w : Nat} {cs ds xs ts : List AV} {a : Bool} {L' : List Ck} : Pk L (.blk i cs a) L' → o + k * w ≤ cs.length → VwL L d ((cs.drop o).take (k * w)) ds → VwL L (d + 1) xs ts → VwL L (d + 1) (.sl i o k w :: xs) (.ro k ds :: ts)
 | ptr {d i : Nat} {cs ds xs ts : List AV} {a : Bool} {L' : List Ck} : Pk L (.blk i cs a) L' → VwL L d cs ds → VwL L (d + 1) xs ts → VwL L (d + 1) (.ptr i 0 :: xs) (.rp ds :: ts)
 | fn {d f : Nat} {ps cs ps' cs' xs ts : List AV} : VwL L d ps ps' → VwL L d cs cs' → VwL L (d + 1) xs ts → VwL L (d + 1) (.fn f ps cs :: xs) (.fn f ps' cs' :: ts)
section
variable {β : Type} {n : Nat} {H : Af} {L L' L1 L2 : List Ck} {G : Option β → Prop} {K : AV → Option β} {KH : KO β}
theorem VwC.sound (hs : Sep H L) {d : Nat} {x t : AV} (h : VwC L d x t) : Ci H d x = some t := by
 cases h with
 | sc => rfl
 | nl => rfl
 | ro => rfl
 | rp => rfl
 | own hd hp =>
  obtain ⟨_, h1, I, h2, _⟩ := hs.own hp
  exact K2 d _ _ _ I (Hq 6 d _ _ _ _ h2 (P9 h1 hd))
 | shr hd hp =>
  obtain ⟨h1, I, h2⟩ := hs.seen hp
  exact K2 d _ _ _ I (Hq 6 d _ _ _ _ h2 (P9 h1 hd))
 | shsE hd hp hk =>
  obtain ⟨h1, I, h2⟩ := hs.seenS hp hk
  exact K2 d _ _ _ I (Hq 6 d _ _ _ _ h2 (P9 h1 hd))
 | shsO hd hp =>
  obtain ⟨_, h1, I, h2, _⟩ := (hs.ofShs hp).own .here
  exact K2 d _ _ _ I (Hq 6 d _ _ _ _ h2 (P9 h1 hd))
theorem G3 {d : Nat} {x t : AV} {xs ts : List AV} (h : Ci H d x = some t) (hs : xs.mapM (Ci H d) = some ts) : (x :: xs).mapM (Ci H d) = some (t :: ts) := by
 simp only [List.mapM_cons, h, hs, Option.pure_def, Option.bind_eq_bind, Option.bind_some]
theorem VwL.sound (hs : Sep H L) : ∀ {d : Nat} {xs ts : List AV}, VwL L d xs ts → xs.mapM (Ci H d) = some ts
 | _, _, _, .nil => rfl
 | _, _, _, .cons h q => G3 (h.sound hs) (q.sound hs)
 | _, _, _, .agg h q => G3 (by rw [Ll, h.sound hs]; rfl) (q.sound hs)
 | _, _, _, .aggF h q => G3 (by rw [Ll, Si h]; rfl) (q.sound hs)
 | _, _, _, .sl (i := i) (k := k) (w := w) (cs := cs) hp hl h q => G3 (by
   rw [M6]
   have hb := hs.blk hp
   have e : Aw H i 0 (k * w) = some cs := by
    simp only [Aw, hb, if_true, List.drop_zero, Nat.zero_add, ← hl, Nat.le_refl, List.take_length]
   rw [e, Option.bind_some, h.sound hs]
   rfl) (q.sound hs)
 | _, _, _, .slA (i := i) (o := o) (k := k) (w := w) (cs := cs) hp hl h q => G3 (by
   rw [M6]
   have hb := hs.blk hp
   have e : Aw H i o (k * w) = some ((cs.drop o).take (k * w)) := by
    simp only [Aw, hb, if_true, hl]
   rw [e, Option.bind_some, h.sound hs]
   rfl) (q.sound hs)
 | _, _, _, .ptr (i := i) (cs := cs) hp h q => G3 (by
   have hb := hs.blk hp
   show ((H[i]?).bind fun b => (Aw H i 0 (b.cells.length - 0)).bind fun cs => (cs.mapM (Ci H _)).bind fun vs => some (AV.rp vs)) = _
   rw [hb, Option.bind_some]
   have e : Aw H i 0 (cs.length - 0) = some cs := by
    simp only [Aw, hb, if_true, List.drop_zero, Nat.zero_add, Nat.sub_zero, Nat.le_refl, List.take_length]
   show (Aw H i 0 (cs.length - 0)).bind _ = _
   rw [e, Option.bind_some, h.sound hs]
   rfl) (q.sound hs)
 | _, _, _, .fn (d := d) (ps := ps) (cs := cs) h1 h2 q => G3 (by
   show ((ps.mapM (Ci H d)).bind fun us => (cs.mapM (Ci H d)).bind fun ws => some (AV.fn _ us ws)) = _
   rw [h1.sound hs, Option.bind_some, h2.sound hs]
   rfl) (q.sound hs)
theorem Xf {ty : Nat} {f : FuncId} {caps args vs : List AV} {t : AV} (hs : Sep H L) (hh : Di f = false) (hv : VwL L 8 (args ++ caps) vs) (ht : Bv E0 n ty f vs = some t) (h : Gd G (KH (B6 As E0.tp H.length ty t).1 (H ++ (B6 As E0.tp H.length ty t).2))) : Gd G ((PR n β).call ty (.fn f [] caps) args H fun x H => KH x H) := Ek (Aas hh (hv.sound hs) ht) h
theorem Ah {ty : Nat} {f : FuncId} {args vs : List AV} {v : Value} (hs : Sep H L) (hh : Di f = false) (hv : VwL L 8 args vs) (ht : Bv E0 n ty f vs = some (.sc v)) (h : Gd G (KH (.sc v) H)) : Gd G ((PR n β).call ty (.fn f [] []) args H fun x H => KH x H) := by
 refine Xf hs hh (by rw [List.append_nil]; exact hv) ht ?_
 rw [Ey, List.append_nil]
 exact h
theorem Ab3 {ty m : Nat} {cells : List AV} (hs : Sep H L) (hok : Ht As E0.tp 6 ty (.ro m cells)) : Cp (B6 As E0.tp H.length ty (.ro m cells)).1 = true ∧ Sep (H ++ (B6 As E0.tp H.length ty (.ro m cells)).2) (.own (B6 As E0.tp H.length ty (.ro m cells)).1 ty (.ro m cells) :: L) := by
 have hl : Cp (B6 As E0.tp H.length ty (.ro m cells)).1 = true := rfl
 refine ⟨hl, hs.new (J := List.range' H.length (B6 As E0.tp H.length ty (.ro m cells)).2.length) ⟨hl, hok, Qd 6 ty _ H.length hok (S8 _ _)⟩ List.nodup_range' fun i hi => ?_⟩
 rw [List.mem_range'_1] at hi
 exact hi.1
theorem Xg {ty m : Nat} {f : FuncId} {args vs cells : List AV} (hs : Sep H L) (hh : Di f = false) (hv : VwL L 8 args vs) (ht : Bv E0 n ty f vs = some (.ro m cells)) (hok : Ht As E0.tp 6 ty (.ro m cells)) (h : ∀ x H', Cp x = true → Sep H' (.own x ty (.ro m cells) :: L) → Gd G (KH x H')) : Gd G ((PR n β).call ty (.fn f [] []) args H fun x H => KH x H) := by
 refine Xf hs hh (by rw [List.append_nil]; exact hv) ht ?_
 obtain ⟨h1, h2⟩ := Ab3 hs hok
 exact h _ _ h1 h2
def InsL (ts : List Nat) (cs : List AV) (Φ : List AV → List Ck → Prop) : Prop := ∀ (H : Af) (L : List Ck), Sep H L → ∃ xs Lx, xs = (Bh As E0.tp H.length ts cs).1 ∧ Sep (H ++ (Bh As E0.tp H.length ts cs).2) (Lx ++ L) ∧ Φ xs Lx
theorem AdG {ty : Nat} {f : FuncId} {caps args : List AV} (hh : E0.hm f = true) (he : E0.ext f = none) (h : Gd G (Ds E0 n β f (args ++ caps) H fun x H => KH x H)) : Gd G ((PR n β).call ty (.fn f [] caps) args H fun x H => KH x H) := by
 refine Ek ?_ h
 show Kc E0 (Ds E0 n) ty f ([] ++ args ++ caps) H _ = _
 simp only [Kc, he, hh, List.nil_append, if_true]
theorem AdY {d ty m : Nat} {x : AV} {cells : List AV} {I : List Nat} {i j : TI} (h1 : As ty = some i) (h2 : As i.elem = some j) (h : Co As E0.tp H (d + 1) ty x = some (.ro m cells, I)) :
  (x = .nl ∧ m = 0 ∧ cells = [] ∧ I = []) ∨ ∃ id off raw J b, x = .sl id off m j.size ∧ I = id :: J ∧ H[id]? = some b ∧ b.live = true ∧ b.app = true ∧ Aw H id off (m * j.size) = some raw ∧ Dg (Co As E0.tp H d) (List.replicate m j.cty).flatten raw = some (cells, J) := by
 cases x with
 | sc v => simp [Co] at h
 | nl =>
  have := (Option.some.inj h)
  simp only [Prod.mk.injEq, AV.ro.injEq] at this
  obtain ⟨⟨rfl, rfl⟩, rfl⟩ := this
  exact .inl ⟨rfl, rfl, rfl, rfl⟩
 | sl id off n z =>
  rw [Hp] at h
  simp only [h1, h2, Option.bind_some] at h
  split at h
  case isFalse => cases h
  rename_i hz
  split at h
  case isFalse => cases h
  rename_i ha
  simp only [Option.bind_eq_some_iff] at h
  obtain ⟨cs, h4, q, h5, h6⟩ := h
  simp only [Option.some.injEq, Prod.mk.injEq, AV.ro.injEq] at h6
  obtain ⟨⟨rfl, rfl⟩, rfl⟩ := h6
  subst hz
  obtain ⟨hl, b, hb, hlv, _, _⟩ := J8 h4
  have ha' : b.app = true := by simpa only [Il, hb] using ha
  exact .inr ⟨id, off, cs, q.2, b, rfl, rfl, hb, hlv, ha', h4, h5⟩
 | agg cs =>
  rw [Hb] at h
  simp only [Option.bind_eq_some_iff] at h
  obtain ⟨i, h1, q, h2, h3⟩ := h
  simp at h3
 | tup cs =>
  rw [H7] at h
  simp only [Option.bind_eq_some_iff] at h
  obtain ⟨i, h1, q, h2, h3⟩ := h
  simp at h3
 | _ => simp [Co] at h
theorem De {G : Option AV → Prop} {o : Option AV} (h : Gd G o) : G o := h
theorem Aj {G : Option AV → Prop} {ty : Nat} {x t : AV} (e : A7 As E0.tp ty H x = some t) (h : G (some t)) : Gd G (A7 As E0.tp ty H x) := by
 rw [e]
 exact h
end
end
section
open Go
variable {β : Type}
theorem Gd.both {G : Option β → Prop} {a b : Option β} (h1 : Gd G a) (h2 : a = b) : Gd G (Ln a b) := by
 rw [T1 rfl h2.symm]
 exact h1
theorem AgC (l : List ByteArray) : Ht As E0.tp 6 33 (Dc l) := Mr (d := 4) (fun z : ByteArray => .string z) Nu l
theorem InsL.mono {ts : List Nat} {cs : List AV} {Φ Ψ : List AV → List Ck → Prop} (h : InsL ts cs Φ) (m : ∀ xs Lx, Φ xs Lx → Ψ xs Lx) : InsL ts cs Ψ := fun H L hs => by
 obtain ⟨xs, Lx, a, b, c⟩ := h H L hs
 exact ⟨xs, Lx, a, b, m _ _ c⟩
end
section
open Go
inductive Sel : List Ck → List Ck → Prop
 | nil {L : List Ck} : Sel L []
 | cons {L L1 L' : List Ck} {c : Ck} : Pk L c L1 → Sel L1 L' → Sel L (c :: L')
 | rest {L : List Ck} : Sel L L
 | skip {L L' : List Ck} {c : Ck} : Sel L L' → Sel (c :: L) L'
section
variable {β : Type} {n : Nat} {H : Af} {L L' L1 L2 : List Ck} {G : Option β → Prop} {K : AV → Option β} {KH : KO β}
theorem Sep.none (h : Sep H L) : Sep H [] := by
 induction L with
 | nil => exact h
 | cons c L ih => exact ih h.tail
theorem Sel.sepI : ∀ {L L' : List Ck} {I : List Nat}, Sel L L' → SepI H L I → ∃ J X, SepI H L' J ∧ I.Perm (J ++ X)
 | _, _, I, .nil, h => ⟨[], I, rfl, List.Perm.refl _⟩
 | _, _, I, .rest, h => ⟨I, [], h, by simp⟩
 | _, _, I, .skip q, h => by
  obtain ⟨J, R, rfl, g1, g2⟩ := h
  obtain ⟨J', X, e1, e2⟩ := q.sepI g2
  refine ⟨J', J ++ X, e1, ?_⟩
  refine (List.Perm.append_left J e2).trans ?_
  rw [← List.append_assoc, ← List.append_assoc]
  exact List.Perm.append_right X List.perm_append_comm
 | _, _, I, .cons p q, h => by
  obtain ⟨J, R, g1, g2, g3⟩ := p.sepI h
  obtain ⟨J', X, e1, e2⟩ := q.sepI g2
  refine ⟨J ++ J', X, ⟨J, J', rfl, g1, e1⟩, ?_⟩
  rw [List.append_assoc]
  exact g3.trans (List.Perm.append_left J e2)
theorem Sep.sel (h : Sep H L) (q : Sel L L') : Sep H L' := by
 obtain ⟨I, h1, h2⟩ := h
 obtain ⟨J, X, g1, g2⟩ := q.sepI h1
 exact ⟨J, g1, (List.nodup_append.1 (g2.nodup_iff.1 h2)).1⟩
theorem Ea {x off : Nat} {ts : List AV} {cs : List AV} {a : Bool} {m : Option β} (hs : Sep H L) (hp : Pk L (.blk x cs a) L1) (ht : ∀ y ∈ ts, ∃ j o ds b, y = .ptr j o ∧ ∃ L2, Pk L1 (.blk j ds b) L2) (h : Gd G m) : Gd G (Nk (.ptr x off) ts H m) := by
 have e : Ow (.ptr x off) ts H = true := by
  have hb := hs.blk hp
  simp only [Ow, hb, Bool.true_and, List.all_eq_true]
  intro y hy
  obtain ⟨j, o, ds, b, rfl, L2, hq⟩ := ht y hy
  obtain ⟨I, ⟨J, R, rfl, ⟨rfl, h1⟩, h2⟩, h3⟩ := hs.pick hp
  obtain ⟨J', R', ⟨rfl, g1⟩, g2, g3⟩ := hq.sepI h2
  have hne : x ≠ j := by
   rintro rfl
   have hn := (List.nodup_cons.1 h3).1
   exact hn (g3.symm.mem_iff.1 (by simp))
  simp [g1, hne]
 unfold Nk
 rw [if_pos e]
 exact h
theorem Gd.bothE {r a b : Option β} (h1 : Gd (· = r) a) (h2 : Gd (· = r) b) : Gd (· = r) (Ln a b) := T1 h1 h2
theorem E3 {x o o' : Nat} {m : Option β} (h : Gd G m) : Gd G (Od (.ptr x o) (.ptr x o') m) := by
 simp only [Od, if_true]
 exact h
theorem Ir {α : Type} {w : Nat} {enc : α → List AV} {l pre t : List α} {x : α} {i : Int} (hi : i = (pre.length : Nat)) (hw : ∀ x, (enc x).length = w) (h0 : 0 < w) (hl : l = pre ++ x :: t) (h : Gd G (K (.rp (enc x ++ (t.map enc).flatten)))) : Gd G (C4 w (Bq enc l) (.sc (.int .i64 i)) fun t => K t) := by
 subst hl
 subst hi
 exact Ek (O7 hw h0 pre x t _) h
theorem I7 {l pre t : List Int} {x i : Int} (hi : i = (pre.length : Nat)) (hl : l = pre ++ x :: t) (h : Gd G (K (.rp (O8 x ++ (t.map O8).flatten)))) : Gd G (C4 1 (Dl l) (.sc (.int .i64 i)) fun t => K t) := by
 rw [I8]
 exact Ir hi (fun _ => rfl) (by decide) hl h
theorem Nr {l pre t : List ByteArray} {x : ByteArray} {i : Int} (hi : i = (pre.length : Nat)) (hl : l = pre ++ x :: t) (h : Gd G (K (.rp (O9 x ++ (t.map O9).flatten)))) : Gd G (C4 1 (Dc l) (.sc (.int .i64 i)) fun t => K t) := by
 rw [Jh]
 exact Ir hi (fun _ => rfl) (by decide) hl h
end
end
section
open Go
section
variable {β : Type} {n : Nat} {H : Af} {L L' L1 L2 : List Ck} {G : Option β → Prop} {K : AV → Option β} {KH : KO β}
theorem AdI {w m o d : Nat} {z : Int} {K : AV → Option β} (h0 : 0 ≤ z) (h1 : z < m) (hk : Gd G (K (.ptr d (o + z.toNat * w)))) : Gd G (C4 w (.sl d o m w) (.sc (.int .i64 z)) fun t => K t) := by
 have e := Sl w m d o z.toNat (fun t => K t) (by omega)
 rw [show ((z.toNat : Nat) : Int) = z by omega] at e
 exact Ek e hk
end
end
section
open Go
section
variable {β : Type} {n : Nat} {H : Af} {L L' L1 L2 : List Ck} {G : Option β → Prop} {K : AV → Option β} {KH : KO β}
theorem Rt {d : Nat} : ∀ {ts : List Nat} {xs cells : List AV} {I : List Nat} {k : Nat} {v : Value}, Dg (Co As E0.tp H d) ts xs = some (cells, I) → cells[k]? = some (.sc v) → xs[k]? = some (.sc v)
 | ts, [], cells, I, k, v, h, hk => by
  obtain ⟨_, e⟩ := H6 h
  cases e
  simp at hk
 | [], _ :: _, _, _, _, _, h, _ => by simp [Dg] at h
 | t :: ts, x :: xs, cells, I, k, v, h, hk => by
  obtain ⟨a, b, h1, h2, e⟩ := G1 h
  cases e
  cases k with
  | zero =>
   obtain ⟨a1, a2⟩ := a
   have : a1 = .sc v := by simpa using hk
   subst this
   rw [AbG h1]
   rfl
  | succ k => simpa using Rt h2 (by simpa using hk)
theorem AdH {sz m ty : Nat} {x : AV} {cells : List AV} {i : Int} (hs : Sep H L) (hty : ∃ i j, As ty = some i ∧ As i.elem = some j ∧ j.size = sz) (hp : Pk L (.own x ty (.ro m cells)) L1) (h0 : 0 ≤ i) (h1 : i < (m : Nat))
  (h : ∀ id off, (∀ k v, k < sz → cells[i.toNat * sz + k]? = some (.sc v) → Aw H id (off + k) 1 = some [.sc v]) → Gd G (K (.ptr id off))) : Gd G (C4 sz x (.sc (.int .i64 i)) fun t => K t) := by
 obtain ⟨ti, tj, e1, e2, rfl⟩ := hty
 obtain ⟨_, _, I, e, _⟩ := hs.own hp
 rcases AdY e1 e2 e with ⟨rfl, rfl, rfl, rfl⟩ | ⟨id, off, raw, J', b, rfl, rfl, hb, hlv, ha, h4, h5⟩
 ·exact absurd h1 (by simp; omega)
 ·refine AdI h0 h1 ?_
  refine h _ _ fun k v hk hc => ?_
  obtain ⟨hl, b', hb', _, hle, hcs⟩ := J8 h4
  rw [hb] at hb'
  cases hb'
  have hr := Rt h5 hc
  have hlt := (List.getElem?_eq_some_iff.1 hr).1
  rw [hl] at hlt
  have hg : b.cells[off + i.toNat * tj.size + k]? = some (.sc v) := by
   rw [hcs, List.getElem?_take_of_lt hlt, List.getElem?_drop] at hr
   rw [← hr]
   congr 1
   omega
  obtain ⟨hlt2, he⟩ := List.getElem?_eq_some_iff.1 hg
  simp only [Aw, hb, hlv, if_true]
  rw [if_pos (by omega), List.drop_eq_getElem_cons hlt2, he]
  rfl
theorem Ag2 {id o : Nat} {c : AV} (e : Aw H id o 1 = some [c]) (h : Gd G (K c)) : Gd G (Bz false 1 (.ptr id o) H fun x => K x) := Ek (ldF e _) h
end
end
section
open Go
section
variable {β : Type} {n : Nat} {H : Af} {L L' L1 L2 : List Ck} {G : Option β → Prop} {K : AV → Option β} {KH : KO β}
theorem Aeg {id o w k v : Nat} {cs : List AV} (e : Aw H id o w = some cs) (hk : k + v ≤ w) : Aw H id (o + k) v = some ((cs.drop k).take v) := by
 obtain ⟨hl, b, hb, hlv, hle, hcs⟩ := J8 e
 simp only [Aw, hb, hlv, if_true]
 rw [if_pos (by omega), hcs, List.drop_take, List.take_take, List.drop_drop, Nat.min_eq_left (by omega)]
theorem Ly {id o k : Nat} {c : AV} {w : Nat} {cs : List AV} (e : Aw H id o w = some cs) (hk : k < w) (hc : cs[k]? = some c) (h : Gd G (K c)) : Gd G (Bz false 1 (.ptr id (o + k)) H fun x => K x) := by
 have e2 := Aeg (k := k) (v := 1) e (by omega)
 obtain ⟨hlt, he⟩ := List.getElem?_eq_some_iff.1 hc
 rw [List.drop_eq_getElem_cons hlt, he] at e2
 exact Ag2 e2 h
end
end
section
open Go
section
variable {β : Type} {n : Nat} {H : Af} {L L1 : List Ck} {G : Option β → Prop} {K : AV → Option β} {KH : KO β}
theorem Jy {ty : Nat} {x : AV} {l : List ByteArray} {y : ByteArray} {i : Int} (hs : Sep H L) (hp : Pk L (.own x ty (Dc l)) L1) (hty : ∃ i j, As ty = some i ∧ As i.elem = some j ∧ j.size = 1) (h0 : 0 ≤ i) (hy : l[i.toNat]? = some y)
  (h : ∀ id off, Aw H id off 1 = some [.sc (.string y)] → Gd G (K (.ptr id off))) : Gd G (C4 1 x (.sc (.int .i64 i)) fun t => K t) := by
 have hlt := (List.getElem?_eq_some_iff.1 hy).1
 refine AdH (m := l.length) (cells := l.map fun z => .sc (.string z)) hs hty hp h0 (by omega) fun id off hc => h id off ?_
 exact hc 0 _ (by omega) (by simp [hy])
theorem Iq {ty f : Nat} {g : Nat → List AV → Option AV} {args vs : List AV} {v : Value} (hg : E0.ext f = some g) (hv : args.mapM (Ci H 8) = some vs) (ht : g ty vs = some (.sc v)) (h : Gd G (KH (.sc v) H)) : Gd G ((PR n β).call ty (.fn f [] []) args H fun x H => KH x H) := by
 refine Ek ?_ h
 rw [Um hg hv ht, Ey, List.append_nil]
theorem B7 {X : Option β} (e : Bool) {F : Bool → Option β} (h1 : ∀ b, b = e → Gd (· = F b) X) (h2 : ∀ b, b = e → Gd G (F b)) : Gd G X := by
 have h : X = F e := h1 e rfl
 rw [h]
 exact h2 e rfl
theorem Ba {X : Option β} : Gd (· = X) X := rfl
theorem Da {c v b : Bool} {y : AV} (hc : c = true) (hv : v = b) (h : Gd G (K (.sc (.bool b)))) : Gd G (K3 (.sc (.bool c)) (.sc (.bool v)) y fun t => K t) := by
 subst hc
 subst hv
 exact Bj rfl h
theorem C9 {c v b : Bool} {x : AV} (hc : c = false) (hv : v = b) (h : Gd G (K (.sc (.bool b)))) : Gd G (K3 (.sc (.bool c)) x (.sc (.bool v)) fun t => K t) := by
 subst hc
 subst hv
 exact An rfl h
end
end
end Go.Proofs.YtjiahcekpohehaaGreatDoor.Abs
