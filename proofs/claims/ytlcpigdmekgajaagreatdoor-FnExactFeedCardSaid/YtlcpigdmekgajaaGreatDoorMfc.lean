/- What the proof needs, part 3: a sound evaluator over trees, the program's functions on it, and what they come to. -/
import Derived.Test.YtlcpigdmekgajaaGreatDoorMfb
import Derived.Shelf.Strings.IndexAnyAll
import Derived.Shelf.Small.Utf8
import Derived.Lib.TrimUEq
import Derived.Lib.QuoteLoop
import Derived.Laws.RangeAny
import Derived.Laws.Runes
import Derived.WalkKit
import Derived.WalkMore
import Derived.Below
import Derived.LoopTactic
import Derived.Shelf.RegionOpenPlain
import Derived.Test.YtlcpigdmekgajaaGreatDoorChecked
import Derived.Shelf.Unicode.ValidAny
import Derived.Shelf.Strings.Split
import Derived.Shelf.Vars
import Derived.Lib.ValidLaws
import Derived.Lib.MapLaws
set_option linter.unusedVariables false
set_option linter.unusedSimpArgs false
namespace Go.Proofs.YtlcpigdmekgajaaGreatDoor.Abs
open _root_.Bool renaming false_or → za7, true_or → zaU, eq_iff_iff → zbF
open _root_.List renaming drop_zero → zaN, drop_of_length_le → zbm, drop_drop → zbq, any_cons → zbI
open _root_.Nat renaming le_refl → zao
open _root_.Array renaming getElem?_eq_some_iff → zaB, replicate → zb7, getElem?_setIfInBounds_ne → zb8
section
open Go Go.Shelf Go.RowKit Go.Lib Go.Proofs
variable {P : Program} {ρ : Ren}
def ItAt (w w' : World) (s : ByteArray) (pos : Nat) : Prop := Below w.heap.size w w' ∧ w'.heap[w.heap.size]? = some (.stringIter s pos)
def Ur (w' : World) (a : Nat) (s : ByteArray) (pos : Nat) : World := { w' with heap := w'.heap.setIfInBounds a (.stringIter s pos) }
theorem AcG (w : World) (s : ByteArray) (pos : Nat) : ItAt w (w.iter s pos) s pos := ⟨(Below.refl _ w).alloc (zao _) _, World.iter_heap w s pos⟩
theorem ItAt.lt {w w' : World} {s : ByteArray} {pos : Nat} (h : ItAt w w' s pos) : w.heap.size < w'.heap.size := by
 have := h.2
 simp only [zaB] at this
 exact this.1
theorem ItAt.set {w w' : World} {s : ByteArray} {pos : Nat} (h : ItAt w w' s pos) (pos' : Nat) : ItAt w (Ur w' w.heap.size s pos') s pos' := by
 refine ⟨h.1.trans ⟨rfl, rfl, rfl, by simp [Ur], fun k hk => ?_⟩, ?_⟩
 ·simp only [Ur]
  rw [zb8 (by omega)]
 ·simp only [Ur]
  rw [Array.getElem?_setIfInBounds_self_of_lt h.lt]
theorem ItAt.below {w w1 w2 : World} {s : ByteArray} {pos : Nat} (h : ItAt w w1 s pos) (hb : Below w1.heap.size w1 w2) : ItAt w w2 s pos :=
 ⟨h.1.trans (hb.mono h.1.size), by rw [hb.block _ h.lt]; exact h.2⟩
theorem AkR {w w' : World} {s : ByteArray} {pos : Nat} (h : ItAt w w' s pos) (hp : pos < s.size) (ty : TypeId) :
  (Instr.next (.pointer (some ⟨w.heap.size, 0, none⟩)) true ty).run P w' = .ok (.tuple #[.bool true, .int .i64 pos, .int .i32 (Utf8.decode s pos).1]) (Ur w' w.heap.size s (pos + (Utf8.decode s pos).2)) := by
 simp only [Instr.next, getObj, setObj, Sem.run_bind, Sem.run, h.2, Result.andThen, hp, if_true]
 simp [goInt, Ur]
theorem Ai3 {w w' : World} {s : ByteArray} {pos : Nat} (h : ItAt w w' s pos) (hp : ¬ pos < s.size) (ty : TypeId) :
  (Instr.next (.pointer (some ⟨w.heap.size, 0, none⟩)) true ty).run P w' = .ok (.tuple #[.bool false]) w' := by
 simp [Instr.next, getObj, Sem.run, h.2, hp]
theorem Ali (s : ByteArray) (pos : Nat) : (Utf8.decode s pos).1 < 55296 ∨ (57343 < (Utf8.decode s pos).1 ∧ (Utf8.decode s pos).1 ≤ 1114111) := by
 rw [← Lib.decodeL_drop, Lib.decodeL_N]
 exact Lib.decodeN_valid _ _ _ _ _ (UInt8.toNat_lt _)
theorem Ala : phB.size = 2 := rfl
set_option maxHeartbeats 8000000 in
set_option maxRecDepth 1000000 in
theorem AiH (L : Lays.n152 P ρ) (r : Nat) (rs : ByteArray) (w : World) (h1 : 128 ≤ r) (hv : r < 55296 ∨ (57343 < r ∧ r ≤ 1114111)) (he : ¬ r = 65533) (hcv : ∀ w, (convert (ρ.t 21) (ρ.t 9) (.int .i32 r)).run P w = .ok (.string rs) w)
  (hs2 : 2 ≤ rs.size) (hs4 : rs.size ≤ 4) (hsl : rs.size = 2 → ∀ h : 1 < rs.size, 128 ≤ (rs[1]'h).toNat) :
  Calls P (ρ.f 152) #[.string phB, .int .i32 r] w fun e w' => e = .returned (.int .i64 (-1)) ∧ Below w.heap.size w w' := by
 have cV : ∀ w, Calls P (ρ.f 119) #[.int .i32 r] w _ := fun w => Any.utf8_ValidRune { L with } r w
 have cI : ∀ s c w, Calls P (ρ.f 137) #[.string s, .int .u8 c] w _ := fun s c w => Any.strings_IndexByte { L with } s c w
 have mixed := L.mixed
 have t3 := L.t3; have a3 := L.a3; have z3 := L.z3; have v3 := L.v3
 have t4 := L.t4; have a4 := L.a4; have z4 := L.z4; have v4 := L.v4
 have t5 := L.t5; have a5 := L.a5; have z5 := L.z5; have v5 := L.v5
 have t9 := L.t9; have a9 := L.a9; have z9 := L.z9; have v9 := L.v9
 have t21 := L.t21; have a21 := L.a21; have z21 := L.z21; have v21 := L.v21
 have e137 : ∀ args w, (callFunc (ρ.f 137) args).run P w = .ok (.enter (ρ.f 137) args) w := enters_of L.f137 (by kernel_rfl) rfl
 have e119 : ∀ args w, (callFunc (ρ.f 119) args).run P w = .ok (.enter (ρ.f 119) args) w := enters_of L.f119 (by kernel_rfl) rfl
 have hge : decide ((0 : Int) ≤ (r : Int)) = true := by simp
 have hlt : decide ((r : Int) < 128) = false := by simp; omega
 have bel : ∀ pos, Below w.heap.size w (w.iter phB pos) := fun pos => (Below.refl _ w).alloc (zao _) _
 have hne : ((r : Int) == 65533) = false := by simp; omega
 have hvr : Lib.validRune (r : Int) = true := by simp [Lib.validRune]; omega
 go_enter L.f152, Body.n152_ntmps ρ
 go_wp2_with (first
  | (go_at_fn (ρ.f 119); refine (cV _).mono ?_; rintro e w' ⟨rfl, hw⟩; rw [hw, hvr])
  | (go_at_fn (ρ.f 137); refine (cI _ _ _).mono ?_; rintro e w' ⟨rfl, hw⟩; rw [hw]))
 go_step3
 go_wp2
 go_loopg [9, 10] 1 (fun g i fl wx => g = 1 ∧ i = .int .i64 ((rs.size : Int) - 1) ∧ fl = .int .i64 0 ∧ wx = w)
 case atStart => exact ⟨rfl, rfl, rfl, rfl⟩
 case round =>
  obtain ⟨-, rfl, rfl, rfl⟩ := hrel
  by_cases h3 : 3 ≤ rs.size
  ·have hlt : decide ((rs.size : Int) - 1 < (phB.size : Int)) = false := by rw [Ala]; simp; omega
   go_wp2
   try rw [Exit.noGoto_ret]
   go_ret
   exact ⟨rfl, Below.refl _ _⟩
  ·have h2 : rs.size = 2 := by omega
   have hi1 : ((rs.size : Int) - 1) = 1 := by omega
   have hi : 1 < rs.size := by omega
   have hp : 1 < phB.size := by decide
   obtain ⟨x, hx⟩ : ∃ x : UInt8, rs[1]'hi = x := ⟨_, rfl⟩
   have hx128 : 128 ≤ x.toNat := by
    rw [← hx]
    exact hsl h2 hi
   have hp1 : phB[1]'hp = 35 := rfl
   have hlt : decide ((1 : Int) < (phB.size : Int)) = true := rfl
   have hne35 : (((35 : UInt8).toNat : Int) != (x.toNat : Int)) = true := by simp; omega
   have hib : Lib.indexByte (List.take (phB.size - 2) (List.drop 2 phB.data.toList)) x = -1 := rfl
   rw [hi1]
   clear hsl hs2 hs4
   go_wp2
   go_step3
   go_wp2
   go_region_o
   all_goals
    go_wp2
    go_region_with_o (go_at_fn (ρ.f 137); refine (cI _ _ _).mono ?_; rintro e w' ⟨rfl, hw⟩; rw [hw])
   all_goals
    go_wp2
    simp only [Exit.inBlock, Exit.then, Exit.noGoto]
    go_ret
    exact ⟨rfl, (Below.refl _ _).drew.drew⟩
set_option maxHeartbeats 8000000 in
set_option maxRecDepth 1000000 in
theorem Alj (L : Lays.n152 P ρ) (r : Nat) (w : World) (h1 : 128 ≤ r) (hv : r < 55296 ∨ (57343 < r ∧ r ≤ 1114111)) :
  Calls P (ρ.f 152) #[.string phB, .int .i32 r] w fun e w' => e = .returned (.int .i64 (-1)) ∧ Below w.heap.size w w' := by
 have cV : ∀ w, Calls P (ρ.f 119) #[.int .i32 r] w _ := fun w => Any.utf8_ValidRune { L with } r w
 have cI : ∀ s c w, Calls P (ρ.f 137) #[.string s, .int .u8 c] w _ := fun s c w => Any.strings_IndexByte { L with } s c w
 have t3 := L.t3; have a3 := L.a3; have z3 := L.z3; have v3 := L.v3
 have t4 := L.t4; have a4 := L.a4; have z4 := L.z4; have v4 := L.v4
 have t5 := L.t5; have a5 := L.a5; have z5 := L.z5; have v5 := L.v5
 have t9 := L.t9; have a9 := L.a9; have z9 := L.z9; have v9 := L.v9
 have t21 := L.t21; have a21 := L.a21; have z21 := L.z21; have v21 := L.v21
 have e137 : ∀ args w, (callFunc (ρ.f 137) args).run P w = .ok (.enter (ρ.f 137) args) w := enters_of L.f137 (by kernel_rfl) rfl
 have e119 : ∀ args w, (callFunc (ρ.f 119) args).run P w = .ok (.enter (ρ.f 119) args) w := enters_of L.f119 (by kernel_rfl) rfl
 have hge : decide ((0 : Int) ≤ (r : Int)) = true := by simp
 have hlt : decide ((r : Int) < 128) = false := by simp; omega
 have bel : ∀ pos, Below w.heap.size w (w.iter phB pos) := fun pos => (Below.refl _ w).alloc (zao _) _
 by_cases he : r = 65533
 ·subst he
  go_enter L.f152, Body.n152_ntmps ρ
  go_wp2
  go_loopg [5, 6] 2 (fun g _ _ wx => ∃ i : Nat, i + g = 2 ∧ wx = w.iter phB i)
  case atStart => exact ⟨0, by omega, rfl⟩
  case round =>
   obtain ⟨i, hig, rfl⟩ := hrel
   cases gk with
   | zero =>
    obtain rfl : i = 2 := by omega
    have hnx := fun ty => run_next_end (P := P) w phB 2 ty (by decide)
    go_wp2
    go_ret
    exact ⟨rfl, bel _⟩
   | succ g =>
    have hi : i < phB.size := by
     show i < 2
     omega
    have hx : (phB[i]'hi).toNat < 64 := by
     have : ∀ q : Fin 2, (phB[q.val]'q.isLt).toNat < 64 := by decide
     exact this ⟨i, hi⟩
    have hnx := fun ty => run_next_ascii (P := P) w phB i ty hi (by omega)
    generalize (phB[i]'hi).toNat = x at hnx hx
    have hxe : ((x : Int) == 65533) = false := by simp; omega
    go_wp2
    go_roundg g
    case measure => omega
    case rel => exact ⟨i + 1, by omega, rfl⟩
 ·obtain ⟨hs2, hs4, hsl⟩ := encode_facts (r : Int) (by simp [Utf8.valid]; omega) (by omega)
  refine AiH L r (Utf8.encode r) w h1 hv he (fun w => run_convert_int_string w _ _ _ _ (by rw [t21]; rfl) t9) hs2 hs4 ?_
  intro h2 hi
  have := hsl (by omega)
  simp only [h2] at this
  exact this
theorem Am1 (l : List UInt8) (h : 128 ≤ (l.getD 0 0).toNat) : 128 ≤ (Lib.decodeL l).1 ∧ ∀ j, j < (Lib.decodeL l).2 → 128 ≤ (l.getD j 0).toNat := by
 rw [Lib.decodeL_N]
 generalize hn : l.length = n
 generalize h0 : (l.getD 0 0).toNat = b0 at h ⊢
 generalize h1 : (l.getD 1 0).toNat = b1
 generalize h2 : (l.getD 2 0).toNat = b2
 generalize h3 : (l.getD 3 0).toNat = b3
 have key : ∀ q, q ≤ 4 → (q = 2 → 128 ≤ b1) → (q = 3 → 128 ≤ b1 ∧ 128 ≤ b2) → (q = 4 → 128 ≤ b1 ∧ 128 ≤ b2 ∧ 128 ≤ b3) → ∀ j, j < q → 128 ≤ (l.getD j 0).toNat := by
  intro q hq k2 k3 k4 j hj
  have : j = 0 ∨ j = 1 ∨ j = 2 ∨ j = 3 := by omega
  rcases this with rfl | rfl | rfl | rfl
  ·rw [h0]; exact h
  ·rw [h1]; omega
  ·rw [h2]; omega
  ·rw [h3]; omega
 unfold Lib.decodeN
 rw [if_neg (by omega)]
 repeat' split
 all_goals
  refine ⟨?_, key _ ?_ ?_ ?_ ?_⟩ <;> simp only <;> omega
def phL (l : List UInt8) : Bool := l.any fun c => c == 43 || c == 35
theorem AbA : ∀ (k : Nat) (l : List UInt8), (∀ j, j < k → 128 ≤ (l.getD j 0).toNat) → phL l = phL (l.drop k)
 | 0, l, _ => rfl
 | k + 1, [], _ => by simp
 | k + 1, b :: l, h => by
  have h0 : 128 ≤ b.toNat := h 0 (by omega)
  have ih := AbA k l fun j hj => h (j + 1) (by omega)
  have e1 : (b == 43) = false := by
   rw [beq_eq_false_iff_ne]
   rintro rfl
   simp at h0
  have e2 : (b == 35) = false := by
   rw [beq_eq_false_iff_ne]
   rintro rfl
   simp at h0
  show (List.any (b :: l) _) = _
  rw [zbI, e1, e2, Bool.or_self, za7, List.drop_succ_cons]
  exact ih
theorem AiA (l : List UInt8) (hne : l ≠ []) : phL l = (((Lib.decodeL l).1 == 43 || (Lib.decodeL l).1 == 35) || phL (l.drop (Lib.decodeL l).2)) := by
 cases l with
 | nil => exact absurd rfl hne
 | cons b l =>
  by_cases hb : 128 ≤ b.toNat
  ·obtain ⟨h1, h2⟩ := Am1 (b :: l) hb
   have e1 : ((Lib.decodeL (b :: l)).1 == 43) = false := by simp; omega
   have e2 : ((Lib.decodeL (b :: l)).1 == 35) = false := by simp; omega
   rw [e1, e2, Bool.or_self, za7]
   exact AbA _ _ h2
  ·have e : Lib.decodeL (b :: l) = (b.toNat, 1) := by
    rw [Lib.decodeL_N]
    unfold Lib.decodeN
    rw [if_pos (by simpa using hb)]
    rfl
   rw [e]
   show List.any (b :: l) _ = _
   rw [zbI, List.drop_succ_cons, zaN]
   have e1 : (b == 43) = (b.toNat == 43) := by
    rw [zbF, beq_iff_eq, beq_iff_eq, ← UInt8.toNat_inj]; rfl
   have e2 : (b == 35) = (b.toNat == 35) := by
    rw [zbF, beq_iff_eq, beq_iff_eq, ← UInt8.toNat_inj]; rfl
   rw [e1, e2]
   rfl
theorem AdV (s : ByteArray) : phL s.data.toList = vPH s := AbZ _ _ _
theorem Ajm (r : Nat) (h : r < 128) : decide (0 ≤ Lib.indexByte phB.data.toList r.toUInt8) = (r == 43 || r == 35) := by
 have : ∀ q : Fin 128, decide (0 ≤ Lib.indexByte phB.data.toList (q.val).toUInt8) = (q.val == 43 || q.val == 35) := by decide
 exact this ⟨r, h⟩
set_option maxHeartbeats 8000000 in
set_option maxRecDepth 1000000 in
theorem AiK (L : Lays.n153 P ρ) (s : ByteArray) (w : World) (h8 : s.size ≤ 8) :
  Calls P (ρ.f 153) #[.string s, .string phB] w fun e w' => (∃ z : Int, e = .returned (.int .i64 z) ∧ decide (0 ≤ z) = phL s.data.toList) ∧ Below w.heap.size w w' := by
 have cA : ∀ (r : Nat) w, r < 128 → ∃ z : Int, decide (0 ≤ z) = (r == 43 || r == 35) ∧ Calls P (ρ.f 152) #[.string phB, .int .i32 r] w fun e w' => e = .returned (.int .i64 z) ∧ w' = w := fun r w h => ⟨_, Ajm r h, Any.strings_IndexRune_ascii { L with } phB r w (by omega) (by omega)⟩
 have cR : ∀ (r : Nat) w, 128 ≤ r → r < 55296 ∨ (57343 < r ∧ r ≤ 1114111) → Calls P (ρ.f 152) #[.string phB, .int .i32 r] w _ := fun r w h h' => Alj { L with } r w h h'
 have hemp : phB.toList.isEmpty = false := by rw [Lib.toList_data]; rfl
 have hn1 : ((phB.size : Int) == 1) = false := rfl
 have h8z : decide ((8 : Int) < (s.size : Int)) = false := decide_eq_false (by omega)
 have t3 := L.t3; have a3 := L.a3; have z3 := L.z3; have v3 := L.v3
 have t4 := L.t4; have a4 := L.a4; have z4 := L.z4; have v4 := L.v4
 have t5 := L.t5; have a5 := L.a5; have z5 := L.z5; have v5 := L.v5
 have t9 := L.t9; have a9 := L.a9; have z9 := L.z9; have v9 := L.v9
 have t21 := L.t21; have a21 := L.a21; have z21 := L.z21; have v21 := L.v21
 have e152 : ∀ args w, (callFunc (ρ.f 152) args).run P w = .ok (.enter (ρ.f 152) args) w := enters_of L.f152 (by kernel_rfl) rfl
 have e226 : ∀ args w, (callFunc (ρ.f 226) args).run P w = .ok (.enter (ρ.f 226) args) w := enters_of L.f226 (by kernel_rfl) rfl
 go_enter L.f153, Body.n153_ntmps ρ
 go_wp2_with (go_at_fn (ρ.f 226); refine (Any.strings_shouldUseASCIISet { L with } _ _).mono ?_; rintro e w' ⟨rfl, hw⟩; rw [hw, h8z])
 go_loopg [9, 10] s.size (fun g _ _ wx => ∃ pos : Nat, s.size ≤ pos + g ∧ ItAt w wx s pos ∧ phL (s.data.toList.drop pos) = phL s.data.toList)
 case atStart => exact ⟨0, by omega, AcG w s 0, by simp⟩
 case round =>
  obtain ⟨pos, hpg, hit, hph⟩ := hrel
  have HIT : Aside (ItAt w wr s pos) := hit
  have HPH : Aside (phL (s.data.toList.drop pos) = phL s.data.toList) := hph
  by_cases hp : pos < s.size
  ·obtain ⟨g, rfl⟩ : ∃ g, gk = g + 1 := ⟨gk - 1, by omega⟩
   have hnx := fun ty => AkR (P := P) hit hp ty
   have hne : s.data.toList.drop pos ≠ [] := by
    intro h
    have := congrArg List.length h
    simp at this
    omega
   have hst := AiA _ hne
   rw [Lib.decodeL_drop, hph, zbq] at hst
   have hwd : 1 ≤ (Utf8.decode s pos).2 := by rw [← Lib.decodeL_drop s pos]; exact Lib.decodeL_width _
   have hru := Ali s pos
   have HIT2 : Aside (ItAt w (Ur wr w.heap.size s (pos + (Utf8.decode s pos).2)) s (pos + (Utf8.decode s pos).2)) := hit.set _
   clear hit hph
   generalize hr : (Utf8.decode s pos).1 = r at hnx hst hru
   have HST : Aside (phL s.data.toList = ((r == 43 || r == 35) || phL (s.data.toList.drop (pos + (Utf8.decode s pos).2)))) := hst
   clear hst
   by_cases h128 : r < 128
   ·obtain ⟨z, hz, cz⟩ := cA r (Ur wr w.heap.size s (pos + (Utf8.decode s pos).2)) h128
    clear cA
    cases hin : (r == 43 || r == 35)
    ·rw [hin] at hz
     have hlt : ¬ ((0 : Int) ≤ z) := of_decide_eq_false hz
     clear hz
     go_wp2_with (go_at_fn (ρ.f 152); refine cz.mono ?_; rintro e w' ⟨rfl, hw⟩; rw [hw])
     go_roundg g
     case measure => omega
     case rel => exact ⟨_, by omega, HIT2.out, by rw [HST.out, hin, za7]⟩
    ·rw [hin] at hz
     have hge : (0 : Int) ≤ z := of_decide_eq_true hz
     clear hz
     go_wp2_with (go_at_fn (ρ.f 152); refine cz.mono ?_; rintro e w' ⟨rfl, hw⟩; rw [hw])
     go_ret
     exact ⟨⟨_, rfl, by rw [HST.out, hin, zaU]; simp⟩, HIT2.out.1⟩
   ·have hin : (r == 43 || r == 35) = false := by simp; omega
    go_wp2_with (go_at_fn (ρ.f 152); refine (cR r _ (by omega) hru).mono ?_; rintro e w' ⟨rfl, hw⟩)
    go_roundg g
    case measure => omega
    case rel => exact ⟨_, by omega, HIT2.out.below hw, by rw [HST.out, hin, za7]⟩
  ·have hnx := fun ty => Ai3 (P := P) hit hp ty
   have hnil : s.data.toList.drop pos = [] := by
    apply zbm
    simp
    omega
   rw [hnil] at hph
   go_wp2
   go_ret
   exact ⟨⟨_, rfl, by rw [← hph]; rfl⟩, HIT.out.1⟩
theorem Aim (L : Lays.n153 P ρ) (hv116 : ∀ w, (zeroValue (ρ.t 116)).run P w = .ok (.agg (zb7 256 (.bool false))) w) (hi116 : (P.info? (ρ.t 116)).map (·.size) = some 256) (s : ByteArray) (w : World) (hs : s.size < 4294967281) :
  Calls P (ρ.f 153) #[.string s, .string phB] w fun e w' => (∃ z : Int, e = .returned (.int .i64 z) ∧ decide (0 ≤ z) = phL s.data.toList) ∧ Below w.heap.size w w' := by
 by_cases h8 : s.size ≤ 8
 ·exact AiK L s w h8
 ·refine (Any.strings_IndexAny_long L hv116 hi116 s phB w (by decide) (by omega) hs (by decide) ?_).mono fun e w' ⟨h1, h2⟩ => ⟨⟨_, h1, ?_⟩, ?_⟩
  ·intro j b hb
   have : phB.data.toList = [43, 35] := rfl
   rw [this] at hb
   match j, hb with
   | 0, hb => cases hb; decide
   | 1, hb => cases hb; decide
  ·have := An8 s
   rw [AdV, ← this]
   rfl
  ·rw [h2]
   exact ((Below.refl _ _).alloc (zao _) _).alloc (by simp) _
set_option maxHeartbeats 1000000 in
theorem AaW (L : Lays.n150 P ρ) (hv116 : ∀ w, (zeroValue (ρ.t 116)).run P w = .ok (.agg (zb7 256 (.bool false))) w) (hi116 : (P.info? (ρ.t 116)).map (·.size) = some 256) (s : ByteArray) (w : World) (hs : s.size < 4294967281) :
  Calls P (ρ.f 150) #[.string s, .string phB] w fun e w' => e = .returned (.bool (vPH s)) ∧ Below w.heap.size w w' := by
 have c := Aim { L with } hv116 hi116 s w hs
 have t3 := L.t3; have a3 := L.a3; have z3 := L.z3; have v3 := L.v3
 have t4 := L.t4; have a4 := L.a4; have z4 := L.z4; have v4 := L.v4
 have t9 := L.t9; have a9 := L.a9; have z9 := L.z9; have v9 := L.v9
 have e153 : ∀ args w, (callFunc (ρ.f 153) args).run P w = .ok (.enter (ρ.f 153) args) w := enters_of L.f153 (by kernel_rfl) rfl
 go_enter L.f150, Body.n150_ntmps ρ
 go_wp2_with (go_at_fn (ρ.f 153); refine c.mono ?_; rintro e w' ⟨⟨z, rfl, hz⟩, hw⟩)
 go_ret
 refine ⟨?_, hw⟩
 rw [← AdV, ← hz]
 rfl
end
end Go.Proofs.YtlcpigdmekgajaaGreatDoor.Abs
set_option linter.unusedVariables false
set_option linter.unusedSimpArgs false
namespace Go.Proofs
open _root_.Bool renaming false_eq_true → zaa, and_eq_true → zag, not_true → zau, true_and → za2, false_or → za7, true_or → zaU, eq_false_iff → zaZ, eq_iff_iff → zbF
open _root_.Option renaming bind_eq_some_iff → zab, bind_some → zad, getD_some → zaG, map_eq_some_iff → zaM, bind_eq_bind → zaP, pure_def → zbh
open _root_.List renaming getElem?_eq_some_iff → zac, length_append → zae, append_assoc → zaf, nil_append → zai, getElem?_append_right → zaj, replicate → zak, getElem?_append_left → zal, append_nil → zam, length_cons → zan, cons_append → zaq, length_singleton → zas, map_cons → zat, mem_cons_of_mem → zav, length_nil → zax, all_cons → zaz, mem_cons_self → za1, flatten_cons → za3, drop_append_of_le_length → za5, mem_append_left → za8, all_eq_true → za9, drop_eq_getElem_cons → zaD, mem_append_right → zaE, map_append → zaF, mapM_cons → zaI, take_length → zaJ, drop_zero → zaN, map_nil → zaO, mem_append → zaQ, drop_length → zaW, getElem?_map → zaY, getElem?_drop → zba, take_of_length_le → zbb, length_take → zbc, flatten_append → zbd, nodup_append → zbf, getElem?_cons_zero → zbi, drop_of_length_le → zbm, replicate_succ → zbn, replicate_append_replicate → zbo, drop_drop → zbq, nodup_cons → zbr, getElem?_take_of_lt → zbt, mem_singleton → zbu, length_eq_one_iff → zb0, getD_eq_getElem?_getD → zb1, mem_cons → zb9, flatten_nil → zbA, length_drop → zbB, take_left' → zbG, Perm → zbH, any_cons → zbI, getElem?_set_ne → zbJ, set_cons_zero → zbP, length_map → zbQ, mem_map → zbS, map_map → zbT
open _root_.ByteArray renaming size → zbx, data_push → zbL, ext → zbO
open _root_.Nat renaming le_refl → zao, zero_add → za0, le_trans → zaA, add_assoc → zaH, add_zero → zaR, eq_of_beq_eq_true → zaT, sub_self → zbe, add_sub_cancel_left → zbv, mul_one → zby, succ_mul → zb3, beq → zbC, add_mul → zbK, add_comm → zbM
open _root_.Array renaming getElem?_eq_some_iff → zaB, ext' → zbk, replicate → zb7, getElem?_setIfInBounds_ne → zb8
open _root_.Int renaming natCast_zero → zaX, toNat_natCast → zbg
open Go.RowKit Go.Shelf Go.Lib
def Tryz.laysValid_ren : Go.Shelf.Ren := ⟨fun | 196 => 147 | 259 => 152 | n => n, fun | 9 => 9 | 4 => 4 | 3 => 3 | 5 => 5 | 12 => 12 | 119 => 145 | 0 => 0 | 46 => 107 | 139 => 148 | 138 => 147 | 53 => 156 | n => n, fun | 3 => 0 | 4 => 1 | n => n⟩
theorem Tryz.laysValid : Go.Proofs.Lays.n196 Tryz.prog Tryz.laysValid_ren := {
 mixed := by kernel_rfl
 f196 := Tryz.func147.trans (congrArg some (by kernel_rfl))
 f259 := Tryz.func152.trans (congrArg some (by kernel_rfl))
 t0 := Tryz.underlying0
 a0 := Tryz.isAgg0
 z0 := Tryz.sizeOf0
 v0 := Tryz.zeroValue0
 t3 := Tryz.underlying3
 a3 := Tryz.isAgg3
 z3 := Tryz.sizeOf3
 v3 := Tryz.zeroValue3
 t4 := Tryz.underlying4
 a4 := Tryz.isAgg4
 z4 := Tryz.sizeOf4
 v4 := Tryz.zeroValue4
 t5 := Tryz.underlying5
 a5 := Tryz.isAgg5
 z5 := Tryz.sizeOf5
 v5 := Tryz.zeroValue5
 t9 := Tryz.underlying9
 a9 := Tryz.isAgg9
 z9 := Tryz.sizeOf9
 v9 := Tryz.zeroValue9
 t12 := Tryz.underlying12
 a12 := Tryz.isAgg12
 z12 := Tryz.sizeOf12
 v12 := Tryz.zeroValue12
 t46 := Tryz.underlying107
 a46 := Tryz.isAgg107
 z46 := Tryz.sizeOf107
 v46 := Tryz.zeroValue107
 t53 := Tryz.underlying156
 a53 := Tryz.isAgg156
 z53 := Tryz.sizeOf156
 v53 := Tryz.zeroValue156
 t119 := Tryz.underlying145
 a119 := Tryz.isAgg145
 z119 := Tryz.sizeOf145
 t138 := Tryz.underlying147
 a138 := Tryz.isAgg147
 z138 := Tryz.sizeOf147
 v138 := Tryz.zeroValue147
 t139 := Tryz.underlying148
 a139 := Tryz.isAgg148
 z139 := Tryz.sizeOf148
 v139 := Tryz.zeroValue148
 g3 := by kernel_rfl
 g4 := by kernel_rfl }
def Tryz.laysAny_ren : Go.Shelf.Ren := ⟨fun | 150 => 136 | 153 => 148 | 152 => 153 | 226 => 154 | 227 => 155 | 228 => 156 | 137 => 158 | 119 => 159 | 224 => 160 | 225 => 161 | 217 => 165 | 266 => 170 | n => n, fun | 9 => 9 | 4 => 4 | 3 => 3 | 5 => 5 | 21 => 21 | 117 => 152 | 116 => 151 | 0 => 0 | 46 => 107 | 124 => 160 | n => n, fun | n => n⟩
theorem Tryz.laysAny : Go.Proofs.Lays.n150 Tryz.prog Tryz.laysAny_ren := {
 mixed := by kernel_rfl
 f119 := Tryz.func159.trans (congrArg some (by kernel_rfl))
 f137 := Tryz.func158.trans (congrArg some (by kernel_rfl))
 f150 := Tryz.func136.trans (congrArg some (by kernel_rfl))
 f152 := Tryz.func153.trans (congrArg some (by kernel_rfl))
 f153 := Tryz.func148.trans (congrArg some (by kernel_rfl))
 f217 := Tryz.func165.trans (congrArg some (by kernel_rfl))
 f224 := Tryz.func160.trans (congrArg some (by kernel_rfl))
 f225 := Tryz.func161.trans (congrArg some (by kernel_rfl))
 f226 := Tryz.func154.trans (congrArg some (by kernel_rfl))
 f227 := Tryz.func155.trans (congrArg some (by kernel_rfl))
 f228 := Tryz.func156.trans (congrArg some (by kernel_rfl))
 f266 := Tryz.func170.trans (congrArg some (by kernel_rfl))
 t0 := Tryz.underlying0
 a0 := Tryz.isAgg0
 z0 := Tryz.sizeOf0
 v0 := Tryz.zeroValue0
 t3 := Tryz.underlying3
 a3 := Tryz.isAgg3
 z3 := Tryz.sizeOf3
 v3 := Tryz.zeroValue3
 t4 := Tryz.underlying4
 a4 := Tryz.isAgg4
 z4 := Tryz.sizeOf4
 v4 := Tryz.zeroValue4
 t5 := Tryz.underlying5
 a5 := Tryz.isAgg5
 z5 := Tryz.sizeOf5
 v5 := Tryz.zeroValue5
 t9 := Tryz.underlying9
 a9 := Tryz.isAgg9
 z9 := Tryz.sizeOf9
 v9 := Tryz.zeroValue9
 t21 := Tryz.underlying21
 a21 := Tryz.isAgg21
 z21 := Tryz.sizeOf21
 v21 := Tryz.zeroValue21
 t46 := Tryz.underlying107
 a46 := Tryz.isAgg107
 z46 := Tryz.sizeOf107
 v46 := Tryz.zeroValue107
 t116 := Tryz.underlying151
 a116 := Tryz.isAgg151
 z116 := Tryz.sizeOf151
 t117 := Tryz.underlying152
 a117 := Tryz.isAgg152
 z117 := Tryz.sizeOf152
 v117 := Tryz.zeroValue152
 t124 := Tryz.underlying160
 a124 := Tryz.isAgg160
 z124 := Tryz.sizeOf160
 v124 := Tryz.zeroValue160 }
def Tryz.laysSplit_ren : Go.Shelf.Ren := ⟨fun | 146 => 149 | 221 => 157 | 268 => 162 | 138 => 163 | 143 => 164 | 195 => 166 | 197 => 167 | 218 => 168 | 219 => 169 | 260 => 171 | 217 => 165 | 225 => 161 | 224 => 160 | 267 => 172 | 266 => 170 | 314 => 173 | n => n, fun | 9 => 9 | 31 => 56 | 3 => 3 | 4 => 4 | 0 => 0 | 105 => 162 | 21 => 21 | 5 => 5 | 46 => 107 | 119 => 145 | 139 => 148 | 138 => 147 | 146 => 165 | 51 => 164 | n => n, fun | 1 => 2 | 3 => 0 | 4 => 1 | n => n⟩
theorem Tryz.laysSplit : Go.Proofs.Lays.n146 Tryz.prog Tryz.laysSplit_ren := {
 mixed := by kernel_rfl
 f138 := Tryz.func163.trans (congrArg some (by kernel_rfl))
 f143 := Tryz.func164.trans (congrArg some (by kernel_rfl))
 f146 := Tryz.func149.trans (congrArg some (by kernel_rfl))
 f195 := Tryz.func166.trans (congrArg some (by kernel_rfl))
 f197 := Tryz.func167.trans (congrArg some (by kernel_rfl))
 f217 := Tryz.func165.trans (congrArg some (by kernel_rfl))
 f218 := Tryz.func168.trans (congrArg some (by kernel_rfl))
 f219 := Tryz.func169.trans (congrArg some (by kernel_rfl))
 f221 := Tryz.func157.trans (congrArg some (by kernel_rfl))
 f224 := Tryz.func160.trans (congrArg some (by kernel_rfl))
 f225 := Tryz.func161.trans (congrArg some (by kernel_rfl))
 f260 := Tryz.func171.trans (congrArg some (by kernel_rfl))
 f266 := Tryz.func170.trans (congrArg some (by kernel_rfl))
 f267 := Tryz.func172.trans (congrArg some (by kernel_rfl))
 f268 := Tryz.func162.trans (congrArg some (by kernel_rfl))
 f314 := Tryz.func173.trans (congrArg some (by kernel_rfl))
 t0 := Tryz.underlying0
 a0 := Tryz.isAgg0
 z0 := Tryz.sizeOf0
 v0 := Tryz.zeroValue0
 t3 := Tryz.underlying3
 a3 := Tryz.isAgg3
 z3 := Tryz.sizeOf3
 v3 := Tryz.zeroValue3
 t4 := Tryz.underlying4
 a4 := Tryz.isAgg4
 z4 := Tryz.sizeOf4
 v4 := Tryz.zeroValue4
 t5 := Tryz.underlying5
 a5 := Tryz.isAgg5
 z5 := Tryz.sizeOf5
 v5 := Tryz.zeroValue5
 t9 := Tryz.underlying9
 a9 := Tryz.isAgg9
 z9 := Tryz.sizeOf9
 v9 := Tryz.zeroValue9
 t21 := Tryz.underlying21
 a21 := Tryz.isAgg21
 z21 := Tryz.sizeOf21
 v21 := Tryz.zeroValue21
 t31 := Tryz.underlying56
 a31 := Tryz.isAgg56
 z31 := Tryz.sizeOf56
 v31 := Tryz.zeroValue56
 t46 := Tryz.underlying107
 a46 := Tryz.isAgg107
 z46 := Tryz.sizeOf107
 v46 := Tryz.zeroValue107
 t51 := Tryz.underlying164
 a51 := Tryz.isAgg164
 z51 := Tryz.sizeOf164
 v51 := Tryz.zeroValue164
 t105 := Tryz.underlying162
 a105 := Tryz.isAgg162
 z105 := Tryz.sizeOf162
 v105 := Tryz.zeroValue162
 t119 := Tryz.underlying145
 a119 := Tryz.isAgg145
 z119 := Tryz.sizeOf145
 t138 := Tryz.underlying147
 a138 := Tryz.isAgg147
 z138 := Tryz.sizeOf147
 v138 := Tryz.zeroValue147
 t139 := Tryz.underlying148
 a139 := Tryz.isAgg148
 z139 := Tryz.sizeOf148
 v139 := Tryz.zeroValue148
 t146 := Tryz.underlying165
 a146 := Tryz.isAgg165
 z146 := Tryz.sizeOf165
 v146 := Tryz.zeroValue165
 g1 := by kernel_rfl
 g3 := by kernel_rfl
 g4 := by kernel_rfl }
namespace YtlcpigdmekgajaaGreatDoor.Abs
def noZ : Nat → List UInt8 → Bool
 | 0, _ => true
 | n + 1, l => if l = [] then true else if (Lib.decodeL l).1 = 0 then false else noZ n (l.drop (Lib.decodeL l).2)
def Aaa (s : ByteArray) : Bool := noZ s.size s.data.toList && (Lib.validD s.data.toList && decide (s.size ≤ 60))
def JT (w : World) : Prop := Lib.Utf8Tabs (Tryz.laysValid_ren.g 3) (Tryz.laysValid_ren.g 4) w
def J0 (w : World) : Prop := JT w ∧ ∃ m, w.cell? ⟨Tryz.laysSplit_ren.g 1, 0, none⟩ = some (.int .i64 m)
theorem Aip : ∀ w w' : World, JT w → Below w.heap.size w w' → JT w' := fun _ _ h hb => Utf8Tabs_below h hb
theorem Aio : ∀ w w' : World, J0 w → Below w.heap.size w w' → J0 w' := fun w w' h hb => ⟨Aip w w' h.1 hb, by
 obtain ⟨m, hm⟩ := h.2
 have hlt := World.block_lt_of_cell? _ _ hm
 refine ⟨m, ?_⟩
 rw [← hm]
 simp only [World.cell?]
 rw [hb.block _ hlt]⟩
set_option maxHeartbeats 1000000 in
set_option maxRecDepth 1000000 in
theorem AfI (s : ByteArray) (w : World) (hs : s.size ≤ 9223372036854775807) (hT : JT w) :
  Calls Tryz.prog 135 #[.string s] w fun e w' => e = .returned (.bool (Aaa s)) ∧ Below w.heap.size w w' := by
 have cV : ∀ w, JT w → Calls Tryz.prog 147 #[.string s] w _ := fun w hT => Any.utf8_ValidString Tryz.laysValid s w hs hT
 unfold Aaa
 generalize hV : Lib.validD s.data.toList = V at cV ⊢
 have bel : ∀ pos, Below w.heap.size w (w.iter s pos) := fun pos => (Below.refl _ w).alloc (zao _) _
 go_enter Tryz.func135, Tryz.ntmps135
 go_wp2
 go_loopw [] (fun w' => ∃ (pos b : Nat), w' = w.iter s pos ∧ noZ b (s.data.toList.drop pos) = noZ s.size s.data.toList ∧ s.size ≤ pos + b) (fun w' => s.size - w'.iterPos w.heap.size)
 case atStart => exact ⟨0, s.size, rfl, by simp, by omega⟩
 case round =>
  obtain ⟨pos, b, rfl, hc, hb⟩ := hrel
  by_cases hp : pos < s.size
  ·have hnx : ∀ ty, (Instr.next (.pointer (some ⟨w.heap.size, 0, none⟩)) true ty).run Tryz.prog (w.iter s pos) = _ := fun ty => run_next_any w s pos ty hp
   have hdd := Lib.decodeL_drop s pos
   have hwd : 1 ≤ (Utf8.decode s pos).2 := by rw [← hdd]; exact Lib.decodeL_width _
   obtain ⟨b, rfl⟩ : ∃ b', b = b' + 1 := ⟨b - 1, by omega⟩
   have hne : s.data.toList.drop pos ≠ [] := by
    intro h
    have := congrArg List.length h
    simp at this
    omega
   rw [noZ, if_neg hne, hdd] at hc
   by_cases hz : (Utf8.decode s pos).1 = 0
   ·rw [if_pos hz] at hc
    have hz' : (((Utf8.decode s pos).1 : Int) == 0) = true := by simp [hz]
    go_wp2
    go_ret
    rw [← hc]
    exact ⟨by simp, bel _⟩
   ·rw [if_neg hz, zbq] at hc
    have hz' : (((Utf8.decode s pos).1 : Int) == 0) = false := by simp; omega
    go_wp2
    go_roundw
    case rel => exact ⟨pos + (Utf8.decode s pos).2, b, rfl, hc, by omega⟩
    case measure =>
     simp
     omega
  ·have hnx : ∀ ty, (Instr.next (.pointer (some ⟨w.heap.size, 0, none⟩)) true ty).run Tryz.prog (w.iter s pos) = _ := fun ty => run_next_end w s pos ty hp
   have hnil : s.data.toList.drop pos = [] := by
    apply zbm
    simp
    omega
   have hc2 : noZ s.size s.data.toList = true := by
    rw [← hc, hnil]
    cases b <;> simp [noZ]
   rw [hc2]
   have cV2 := cV (w.iter s pos) (Utf8Tabs_below hT (bel pos))
   go_wp2_with (go_at_call 147; refine cV2.mono ?_; rintro e w' ⟨rfl, hb2⟩)
   all_goals
    go_ret
    refine ⟨?_, (bel pos).trans (hb2.mono (bel pos).size)⟩
   ·simp_all
    omega
   ·simp_all
theorem Z0 : ∀ (n : Nat) (l : List UInt8), Qf n l = (noZ n l && Lib.validGoD n l)
 | 0, _ => rfl
 | n + 1, l => by
  rw [Qf, noZ, Lib.validGoD, Z0 n]
  by_cases h : l = []
  ·simp [h]
  ·by_cases h1 : (Lib.decodeL l).1 = 65533 ∧ (Lib.decodeL l).2 = 1
   ·simp [h, h1]
   ·by_cases h2 : (Lib.decodeL l).1 = 0
    ·simp [h, h2]
    ·simp [h, h1, h2]
theorem Agb (s : ByteArray) : Aaa s = Bv s := by
 have e : s.data.toList.length = s.size := by simp
 unfold Aaa Bv Lib.validD
 rw [Z0, e]
 cases noZ s.size s.data.toList <;> cases Lib.validGoD s.size s.data.toList <;> simp
theorem Apk {c : ByteArray} (h : c.data.toList = [43, 35]) : c = phB := by
 cases c with
 | mk d =>
  have : d = #[43, 35] := by apply zbk; simpa using h
  subst this
  rfl
theorem AnP {c : ByteArray} (h : c.data.toList = [47]) : c = X3 := by
 cases c with
 | mk d =>
  have : d = #[47] := by apply zbk; simpa using h
  subst this
  rfl
theorem AiI : (Tryz.prog.info? (Tryz.laysAny_ren.t 116)).map (fun i => (i.zero, i.size)) = some (some (.agg (zb7 256 (.bool false))), 256) := by kernel_rfl
theorem hi9 : (Tryz.prog.info? (Tryz.laysSplit_ren.t 9)).map (fun i => (i.zero, i.size, i.bytes)) = some (some (.string ByteArray.empty), 1, 16) := by kernel_rfl
theorem AkA {w w' : World} (hb : Below w.heap.size w w') : HR w Gw w' [] := by
 refine ⟨hb, ?_, ?_, ?_, ?_⟩
 ·intro i k b o sz hi
  cases hi
 ·intro i k hi
  cases hi
 ·intro i i' k k' b o sz o' sz' hi
  cases hi
 ·intro i p hp
  cases hp
theorem Adr {w w' : World} (hb : Below w.heap.size w w') (ty : Nat) (v : Value) : ∃ φ' Hc x ids, HR w φ' w' Hc ∧ VR w φ' x v ∧ Cz E0.ti E0.tp Hc 8 ty x = some (.sc v, ids) ∧ ids.Nodup :=
 ⟨Gw, [], .sc v, [], AkA hb, Gk _ _ _, rfl, List.nodup_nil⟩
theorem Ab7 {ti : Nat → Option TI} {tp : Nat → Option (List Nat)} {H : Ab} {d : Nat} : ∀ (ts : List Nat) (l : List Value), ts.length = l.length → Di (Cz ti tp H (d + 1)) ts (l.map AV.sc) = some (l.map AV.sc, [])
 | [], [], _ => rfl
 | t :: ts, v :: l, h => by
  have ih := Ab7 (ti := ti) (tp := tp) (H := H) (d := d) ts l (by simpa using h)
  simp only [zat, Di, ih, zad]
  rfl
theorem AkZ {ti : Nat → Option TI} {tp : Nat → Option (List Nat)} {H : Ab} {d ty id off n z : Nat} : Cz ti tp H (d + 1) ty (.sl id off n z) = (ti ty).bind fun i => (ti i.elem).bind fun j => if z = j.size then (if Jj H id then (As H id off (n * z)).bind fun cs => (Di (Cz ti tp H d) (zak n j.cty).flatten cs).bind fun q => some (.ro n q.1, id :: q.2) else none) else none := rfl
theorem Agj (w : World) (l : List ByteArray) (e : TypeId) : ∃ φ' Hc x ids, HR w φ' (w.alloc (.cells (l.map Value.string).toArray e)) Hc ∧ VR w φ' x (.slice (some ⟨w.heap.size, 0, none⟩) l.length l.length) ∧
  Cz E0.ti E0.tp Hc 8 56 x = some (.ro l.length (l.map fun s => .sc (.string s)), ids) ∧ ids.Nodup := by
 have hcs : VRs w Gw ((l.map Value.string).map AV.sc) (fun j => (l.map Value.string).toArray[0 + j]?) := by
  rw [Df]
  intro j x hj
  rw [zaY] at hj
  obtain ⟨v, hv, rfl⟩ := zaM.1 hj
  exact ⟨v, by simpa using hv, Gk _ _ _⟩
 obtain ⟨h1, h2⟩ := (HR.start w).alloc (Ft w (.cells (l.map Value.string).toArray e)) (b := w.heap.size) (o := 0) (k := ⟨(l.map Value.string).map AV.sc, true, true⟩) (zao _) (Nk w _) (by simp) (fun _ => rfl) (.inl rfl) hcs
 refine ⟨_, _, .sl 0 0 l.length 1, [0], h1, ?_, ?_, by simp⟩
 ·rw [VR]
  refine .inr ⟨w.heap.size, 0, _, Fj _ _ _, .inr ⟨l.length, zao _, rfl, ?_⟩⟩
  simp
 ·rw [AkZ]
  have hr : As ([] ++ [⟨(l.map Value.string).map AV.sc, true, true⟩]) 0 0 (l.length * 1) = some ((l.map Value.string).map AV.sc) := by
   simp [As, zbb]
  have e1 : E0.ti 56 = Ak 56 := rfl
  obtain ⟨i, j, hi, hj, hz, hc⟩ : ∃ i j, Ak 56 = some i ∧ Ak i.elem = some j ∧ j.size = 1 ∧ j.cty = [i.elem] := ⟨_, _, rfl, rfl, rfl, rfl⟩
  simp only [e1, hi, zad, show E0.ti i.elem = some j from hj, hz, if_true, hr, hc]
  have ho := Ab7 (ti := E0.ti) (tp := E0.tp) (H := [] ++ [⟨(l.map Value.string).map AV.sc, true, true⟩]) (d := 6) (zak l.length [i.elem]).flatten (l.map Value.string) (by simp)
  rw [ho]
  have ha : Jj ([] ++ [(⟨(l.map Value.string).map AV.sc, true, true⟩ : Iu)]) 0 = true := rfl
  rw [if_pos ha]
  simp [zbT]
theorem AfU (s : ByteArray) (w : World) (hs : s.size < 4294967281) : Calls Tryz.prog 136 #[.string s, .string phB] w fun e w' => e = .returned (.bool (vPH s)) ∧ Below w.heap.size w w' :=
 AaW Tryz.laysAny (zero_of_info AiI).1 (zero_of_info AiI).2 s w hs
theorem AcY (s : ByteArray) (w : World) (hs : s.size < 4294967281) (hm : ∃ m, w.cell? ⟨Tryz.laysSplit_ren.g 1, 0, none⟩ = some (.int .i64 m)) : Calls Tryz.prog 149 #[.string s, .string X3] w fun e w' =>
  e = .returned (.slice (some ⟨w.heap.size, 0, none⟩) (Be s).length (Be s).length) ∧ w' = w.alloc (.cells ((Be s).map Value.string).toArray (Tryz.laysSplit_ren.t 9)) := by
 obtain ⟨m, hm⟩ := hm
 have h := Any.strings_Split Tryz.laysSplit hi9 s X3 m w hs hm (zao _)
 rw [S7, ← AcI] at h
 exact h
theorem AkX {w : World} {x : Value} {us : List Value} (hl : us.length = 1) (hv : VRs w Gw [.sc x] (fun j => us[j]?)) : us = [x] := by
 match us, hl with
 | [y], _ =>
  rw [VRs] at hv
  obtain ⟨⟨u, hu, hv⟩, _⟩ := hv
  rw [VR] at hv
  simp at hu
  rw [hu, hv]
theorem AbQ {w : World} {x y : Value} {us : List Value} (hl : us.length = 2) (hv : VRs w Gw [.sc x, .sc y] (fun j => us[j]?)) : us = [x, y] := by
 match us, hl with
 | [a, b], _ =>
  rw [VRs, VRs] at hv
  obtain ⟨⟨u, hu, hv⟩, ⟨u2, hu2, hv2⟩, _⟩ := hv
  rw [VR] at hv hv2
  simp at hu hu2
  rw [hu, hv, hu2, hv2]
theorem ApU : Al1 Tryz.prog E0 J0 := by
 intro f g hg w hj ty vs us t hl hv ht
 have hf : E0.ext f = if zbC f 135 then some Aag else if zbC f 136 then some V7 else if zbC f 149 then some Te else none := rfl
 rw [hf] at hg
 split at hg
 ·rename_i hfe
  obtain rfl := zaT hfe
  cases hg
  unfold Aag at ht
  split at ht
  case h_2 => cases ht
  rename_i s
  split at ht
  case isFalse => cases ht
  rename_i hs
  cases ht
  have hm : maxLen = 9223372036854775807 := by decide
  rw [hm] at hs
  obtain rfl := AkX hl hv
  refine .inr ⟨enters_of Tryz.func135 (by kernel_rfl) rfl _ _, (AfI s w hs hj.1).mono fun e w' ⟨he, hb⟩ => ⟨_, he, ?_⟩⟩
  rw [Agb]
  exact Adr hb _ _
 split at hg
 ·rename_i hfe
  obtain rfl := zaT hfe
  cases hg
  unfold V7 at ht
  split at ht
  case h_2 => cases ht
  rename_i s c
  split at ht
  case isFalse => cases ht
  rename_i hs
  cases ht
  obtain rfl := AbQ hl hv
  obtain ⟨hc, hs⟩ := hs
  obtain rfl := Apk hc
  exact .inr ⟨enters_of Tryz.func136 (by kernel_rfl) rfl _ _, (AfU s w hs).mono fun e w' ⟨he, hb⟩ => ⟨_, he, Adr hb _ _⟩⟩
 split at hg
 ·rename_i hfe
  obtain rfl := zaT hfe
  cases hg
  unfold Te at ht
  split at ht
  case h_2 => cases ht
  rename_i s c
  split at ht
  case isFalse => cases ht
  rename_i hs
  cases ht
  obtain rfl := AbQ hl hv
  obtain ⟨rfl, hc, hs⟩ := hs
  obtain rfl := AnP hc
  exact .inr ⟨enters_of Tryz.func149 (by kernel_rfl) rfl _ _, (AcY s w hs hj.2).mono fun e w' ⟨he, hw⟩ => ⟨_, he, by subst hw; exact Agj w (Be s) _⟩⟩
 ·cases hg
end YtlcpigdmekgajaaGreatDoor.Abs
end Go.Proofs
set_option maxRecDepth 100000
namespace Go.Proofs.YtlcpigdmekgajaaGreatDoor.Abs
open _root_.Bool renaming false_eq_true → zaa, and_eq_true → zag, not_true → zau, true_and → za2, eq_false_iff → zaZ, eq_iff_iff → zbF
open _root_.Option renaming bind_eq_some_iff → zab, bind_some → zad, getD_some → zaG, bind_eq_bind → zaP, pure_def → zbh
open _root_.List renaming getElem?_eq_some_iff → zac, length_append → zae, append_assoc → zaf, nil_append → zai, getElem?_append_right → zaj, replicate → zak, getElem?_append_left → zal, append_nil → zam, length_cons → zan, cons_append → zaq, length_singleton → zas, map_cons → zat, mem_cons_of_mem → zav, length_nil → zax, all_cons → zaz, mem_cons_self → za1, flatten_cons → za3, drop_append_of_le_length → za5, mem_append_left → za8, all_eq_true → za9, drop_eq_getElem_cons → zaD, mem_append_right → zaE, map_append → zaF, mapM_cons → zaI, take_length → zaJ, drop_zero → zaN, map_nil → zaO, mem_append → zaQ, drop_length → zaW, getElem?_drop → zba, take_of_length_le → zbb, length_take → zbc, flatten_append → zbd, nodup_append → zbf, getElem?_cons_zero → zbi, drop_of_length_le → zbm, replicate_succ → zbn, replicate_append_replicate → zbo, drop_drop → zbq, nodup_cons → zbr, getElem?_take_of_lt → zbt, mem_singleton → zbu, length_eq_one_iff → zb0, getD_eq_getElem?_getD → zb1, mem_cons → zb9, flatten_nil → zbA, length_drop → zbB, take_left' → zbG, Perm → zbH, any_cons → zbI, getElem?_set_ne → zbJ, set_cons_zero → zbP, length_map → zbQ, mem_map → zbS, map_map → zbT
open _root_.ByteArray renaming size → zbx, data_push → zbL, ext → zbO
open _root_.Nat renaming le_refl → zao, zero_add → za0, le_trans → zaA, add_assoc → zaH, add_zero → zaR, sub_self → zbe, add_sub_cancel_left → zbv, mul_one → zby, succ_mul → zb3, add_mul → zbK, add_comm → zbM
open _root_.Array renaming ext' → zbk
open _root_.Int renaming natCast_zero → zaX, toNat_natCast → zbg
section
open Go
theorem Apt : AiQ Tryz.prog 0 tis = true := by kernel_rfl
theorem Aom : AhT E0 fss = true := by kernel_rfl
theorem AiR : J8 Tryz.prog Ak := by
 intro t i h
 unfold Ak at h
 cases hl : tis[t]? with
 | none => rw [hl] at h; cases h
 | some o =>
  rw [hl] at h
  simp only [zaG] at h
  subst h
  simpa using (AaA tis 0 t i Apt hl).1
theorem Aok : ∀ t i, Ak t = some i → i.ik = some .u8 → i.size = 1 := by
 intro t i h
 unfold Ak at h
 cases hl : tis[t]? with
 | none => rw [hl] at h; cases h
 | some o =>
  rw [hl] at h
  simp only [zaG] at h
  subst h
  exact (AaA tis 0 t i Apt hl).2
def FnQ (n : Nat) (c : Code) (t : Nat) (f : Func) : Prop := ∃ fn, Tryz.prog.funcs[n]? = some fn ∧ (fn.name == "runtime.NumGoroutine") = false ∧ fn.body = some c ∧ fn.ntmps = t ∧ fn.results.toList = f.results.toList
theorem Fu {c : Code} {t : Nat} {f : Func} {o : List (Nat × PI)} {i : E7} {n : Nat} (e : some (some (⟨c, t, f.results.toList, o⟩ : E7)) = some (some i)) (h : FnQ n c t f) : ∃ fn, Tryz.prog.funcs[n]? = some fn ∧ (fn.name == "runtime.NumGoroutine") = false ∧ fn.body = some i.body ∧ fn.ntmps = i.ntmps ∧ fn.results.toList = i.results := by cases e; exact h
theorem AoN : ∀ (f : Nat) (i : E7), f < 152 → fss[f]? = some (some i) → ∃ fn, Tryz.prog.funcs[f]? = some fn ∧ (fn.name == "runtime.NumGoroutine") = false ∧ fn.body = some i.body ∧ fn.ntmps = i.ntmps ∧ fn.results.toList = i.results
 | 0, i, _, h => nomatch Option.some.inj h
 | 1, i, _, h => nomatch Option.some.inj h
 | 2, i, _, h => nomatch Option.some.inj h
 | 3, i, _, h => nomatch Option.some.inj h
 | 4, i, _, h => nomatch Option.some.inj h
 | 5, i, _, h => nomatch Option.some.inj h
 | 6, i, _, h => nomatch Option.some.inj h
 | 7, i, _, h => nomatch Option.some.inj h
 | 8, i, _, h => Fu (f := Tryz.f8) h ⟨_, Tryz.func8, by kernel_rfl, by kernel_rfl, rfl, rfl⟩
 | 9, i, _, h => nomatch Option.some.inj h
 | 10, i, _, h => nomatch Option.some.inj h
 | 11, i, _, h => nomatch Option.some.inj h
 | 12, i, _, h => nomatch Option.some.inj h
 | 13, i, _, h => nomatch Option.some.inj h
 | 14, i, _, h => nomatch Option.some.inj h
 | 15, i, _, h => Fu (f := Tryz.f15) h ⟨_, Tryz.func15, by kernel_rfl, by kernel_rfl, rfl, rfl⟩
 | 16, i, _, h => nomatch Option.some.inj h
 | 17, i, _, h => nomatch Option.some.inj h
 | 18, i, _, h => Fu (f := Tryz.f18) h ⟨_, Tryz.func18, by kernel_rfl, by kernel_rfl, rfl, rfl⟩
 | 19, i, _, h => nomatch Option.some.inj h
 | 20, i, _, h => nomatch Option.some.inj h
 | 21, i, _, h => Fu (f := Tryz.f21) h ⟨_, Tryz.func21, by kernel_rfl, by kernel_rfl, rfl, rfl⟩
 | 22, i, _, h => Fu (f := Tryz.f22) h ⟨_, Tryz.func22, by kernel_rfl, by kernel_rfl, rfl, rfl⟩
 | 23, i, _, h => nomatch Option.some.inj h
 | 24, i, _, h => Fu (f := Tryz.f24) h ⟨_, Tryz.func24, by kernel_rfl, by kernel_rfl, rfl, rfl⟩
 | 25, i, _, h => nomatch Option.some.inj h
 | 26, i, _, h => Fu (f := Tryz.f26) h ⟨_, Tryz.func26, by kernel_rfl, by kernel_rfl, rfl, rfl⟩
 | 27, i, _, h => Fu (f := Tryz.f27) h ⟨_, Tryz.func27, by kernel_rfl, by kernel_rfl, rfl, rfl⟩
 | 28, i, _, h => Fu (f := Tryz.f28) h ⟨_, Tryz.func28, by kernel_rfl, by kernel_rfl, rfl, rfl⟩
 | 29, i, _, h => Fu (f := Tryz.f29) h ⟨_, Tryz.func29, by kernel_rfl, by kernel_rfl, rfl, rfl⟩
 | 30, i, _, h => Fu (f := Tryz.f30) h ⟨_, Tryz.func30, by kernel_rfl, by kernel_rfl, rfl, rfl⟩
 | 31, i, _, h => Fu (f := Tryz.f31) h ⟨_, Tryz.func31, by kernel_rfl, by kernel_rfl, rfl, rfl⟩
 | 32, i, _, h => Fu (f := Tryz.f32) h ⟨_, Tryz.func32, by kernel_rfl, by kernel_rfl, rfl, rfl⟩
 | 33, i, _, h => Fu (f := Tryz.f33) h ⟨_, Tryz.func33, by kernel_rfl, by kernel_rfl, rfl, rfl⟩
 | 34, i, _, h => Fu (f := Tryz.f34) h ⟨_, Tryz.func34, by kernel_rfl, by kernel_rfl, rfl, rfl⟩
 | 35, i, _, h => Fu (f := Tryz.f35) h ⟨_, Tryz.func35, by kernel_rfl, by kernel_rfl, rfl, rfl⟩
 | 36, i, _, h => Fu (f := Tryz.f36) h ⟨_, Tryz.func36, by kernel_rfl, by kernel_rfl, rfl, rfl⟩
 | 37, i, _, h => nomatch Option.some.inj h
 | 38, i, _, h => nomatch Option.some.inj h
 | 39, i, _, h => nomatch Option.some.inj h
 | 40, i, _, h => nomatch Option.some.inj h
 | 41, i, _, h => Fu (f := Tryz.f41) h ⟨_, Tryz.func41, by kernel_rfl, by kernel_rfl, rfl, rfl⟩
 | 42, i, _, h => Fu (f := Tryz.f42) h ⟨_, Tryz.func42, by kernel_rfl, by kernel_rfl, rfl, rfl⟩
 | 43, i, _, h => nomatch Option.some.inj h
 | 44, i, _, h => nomatch Option.some.inj h
 | 45, i, _, h => nomatch Option.some.inj h
 | 46, i, _, h => nomatch Option.some.inj h
 | 47, i, _, h => Fu (f := Tryz.f47) h ⟨_, Tryz.func47, by kernel_rfl, by kernel_rfl, rfl, rfl⟩
 | 48, i, _, h => nomatch Option.some.inj h
 | 49, i, _, h => nomatch Option.some.inj h
 | 50, i, _, h => nomatch Option.some.inj h
 | 51, i, _, h => Fu (f := Tryz.f51) h ⟨_, Tryz.func51, by kernel_rfl, by kernel_rfl, rfl, rfl⟩
 | 52, i, _, h => Fu (f := Tryz.f52) h ⟨_, Tryz.func52, by kernel_rfl, by kernel_rfl, rfl, rfl⟩
 | 53, i, _, h => Fu (f := Tryz.f53) h ⟨_, Tryz.func53, by kernel_rfl, by kernel_rfl, rfl, rfl⟩
 | 54, i, _, h => Fu (f := Tryz.f54) h ⟨_, Tryz.func54, by kernel_rfl, by kernel_rfl, rfl, rfl⟩
 | 55, i, _, h => Fu (f := Tryz.f55) h ⟨_, Tryz.func55, by kernel_rfl, by kernel_rfl, rfl, rfl⟩
 | 56, i, _, h => Fu (f := Tryz.f56) h ⟨_, Tryz.func56, by kernel_rfl, by kernel_rfl, rfl, rfl⟩
 | 57, i, _, h => Fu (f := Tryz.f57) h ⟨_, Tryz.func57, by kernel_rfl, by kernel_rfl, rfl, rfl⟩
 | 58, i, _, h => Fu (f := Tryz.f58) h ⟨_, Tryz.func58, by kernel_rfl, by kernel_rfl, rfl, rfl⟩
 | 59, i, _, h => Fu (f := Tryz.f59) h ⟨_, Tryz.func59, by kernel_rfl, by kernel_rfl, rfl, rfl⟩
 | 60, i, _, h => Fu (f := Tryz.f60) h ⟨_, Tryz.func60, by kernel_rfl, by kernel_rfl, rfl, rfl⟩
 | 61, i, _, h => Fu (f := Tryz.f61) h ⟨_, Tryz.func61, by kernel_rfl, by kernel_rfl, rfl, rfl⟩
 | 62, i, _, h => Fu (f := Tryz.f62) h ⟨_, Tryz.func62, by kernel_rfl, by kernel_rfl, rfl, rfl⟩
 | 63, i, _, h => Fu (f := Tryz.f63) h ⟨_, Tryz.func63, by kernel_rfl, by kernel_rfl, rfl, rfl⟩
 | 64, i, _, h => Fu (f := Tryz.f64) h ⟨_, Tryz.func64, by kernel_rfl, by kernel_rfl, rfl, rfl⟩
 | 65, i, _, h => Fu (f := Tryz.f65) h ⟨_, Tryz.func65, by kernel_rfl, by kernel_rfl, rfl, rfl⟩
 | 66, i, _, h => Fu (f := Tryz.f66) h ⟨_, Tryz.func66, by kernel_rfl, by kernel_rfl, rfl, rfl⟩
 | 67, i, _, h => Fu (f := Tryz.f67) h ⟨_, Tryz.func67, by kernel_rfl, by kernel_rfl, rfl, rfl⟩
 | 68, i, _, h => Fu (f := Tryz.f68) h ⟨_, Tryz.func68, by kernel_rfl, by kernel_rfl, rfl, rfl⟩
 | 69, i, _, h => Fu (f := Tryz.f69) h ⟨_, Tryz.func69, by kernel_rfl, by kernel_rfl, rfl, rfl⟩
 | 70, i, _, h => Fu (f := Tryz.f70) h ⟨_, Tryz.func70, by kernel_rfl, by kernel_rfl, rfl, rfl⟩
 | 71, i, _, h => Fu (f := Tryz.f71) h ⟨_, Tryz.func71, by kernel_rfl, by kernel_rfl, rfl, rfl⟩
 | 72, i, _, h => Fu (f := Tryz.f72) h ⟨_, Tryz.func72, by kernel_rfl, by kernel_rfl, rfl, rfl⟩
 | 73, i, _, h => Fu (f := Tryz.f73) h ⟨_, Tryz.func73, by kernel_rfl, by kernel_rfl, rfl, rfl⟩
 | 74, i, _, h => Fu (f := Tryz.f74) h ⟨_, Tryz.func74, by kernel_rfl, by kernel_rfl, rfl, rfl⟩
 | 75, i, _, h => Fu (f := Tryz.f75) h ⟨_, Tryz.func75, by kernel_rfl, by kernel_rfl, rfl, rfl⟩
 | 76, i, _, h => Fu (f := Tryz.f76) h ⟨_, Tryz.func76, by kernel_rfl, by kernel_rfl, rfl, rfl⟩
 | 77, i, _, h => Fu (f := Tryz.f77) h ⟨_, Tryz.func77, by kernel_rfl, by kernel_rfl, rfl, rfl⟩
 | 78, i, _, h => nomatch Option.some.inj h
 | 79, i, _, h => nomatch Option.some.inj h
 | 80, i, _, h => Fu (f := Tryz.f80) h ⟨_, Tryz.func80, by kernel_rfl, by kernel_rfl, rfl, rfl⟩
 | 81, i, _, h => Fu (f := Tryz.f81) h ⟨_, Tryz.func81, by kernel_rfl, by kernel_rfl, rfl, rfl⟩
 | 82, i, _, h => nomatch Option.some.inj h
 | 83, i, _, h => nomatch Option.some.inj h
 | 84, i, _, h => nomatch Option.some.inj h
 | 85, i, _, h => nomatch Option.some.inj h
 | 86, i, _, h => Fu (f := Tryz.f86) h ⟨_, Tryz.func86, by kernel_rfl, by kernel_rfl, rfl, rfl⟩
 | 87, i, _, h => Fu (f := Tryz.f87) h ⟨_, Tryz.func87, by kernel_rfl, by kernel_rfl, rfl, rfl⟩
 | 88, i, _, h => Fu (f := Tryz.f88) h ⟨_, Tryz.func88, by kernel_rfl, by kernel_rfl, rfl, rfl⟩
 | 89, i, _, h => Fu (f := Tryz.f89) h ⟨_, Tryz.func89, by kernel_rfl, by kernel_rfl, rfl, rfl⟩
 | 90, i, _, h => Fu (f := Tryz.f90) h ⟨_, Tryz.func90, by kernel_rfl, by kernel_rfl, rfl, rfl⟩
 | 91, i, _, h => Fu (f := Tryz.f91) h ⟨_, Tryz.func91, by kernel_rfl, by kernel_rfl, rfl, rfl⟩
 | 92, i, _, h => Fu (f := Tryz.f92) h ⟨_, Tryz.func92, by kernel_rfl, by kernel_rfl, rfl, rfl⟩
 | 93, i, _, h => Fu (f := Tryz.f93) h ⟨_, Tryz.func93, by kernel_rfl, by kernel_rfl, rfl, rfl⟩
 | 94, i, _, h => Fu (f := Tryz.f94) h ⟨_, Tryz.func94, by kernel_rfl, by kernel_rfl, rfl, rfl⟩
 | 95, i, _, h => Fu (f := Tryz.f95) h ⟨_, Tryz.func95, by kernel_rfl, by kernel_rfl, rfl, rfl⟩
 | 96, i, _, h => Fu (f := Tryz.f96) h ⟨_, Tryz.func96, by kernel_rfl, by kernel_rfl, rfl, rfl⟩
 | 97, i, _, h => Fu (f := Tryz.f97) h ⟨_, Tryz.func97, by kernel_rfl, by kernel_rfl, rfl, rfl⟩
 | 98, i, _, h => Fu (f := Tryz.f98) h ⟨_, Tryz.func98, by kernel_rfl, by kernel_rfl, rfl, rfl⟩
 | 99, i, _, h => Fu (f := Tryz.f99) h ⟨_, Tryz.func99, by kernel_rfl, by kernel_rfl, rfl, rfl⟩
 | 100, i, _, h => Fu (f := Tryz.f100) h ⟨_, Tryz.func100, by kernel_rfl, by kernel_rfl, rfl, rfl⟩
 | 101, i, _, h => Fu (f := Tryz.f101) h ⟨_, Tryz.func101, by kernel_rfl, by kernel_rfl, rfl, rfl⟩
 | 102, i, _, h => Fu (f := Tryz.f102) h ⟨_, Tryz.func102, by kernel_rfl, by kernel_rfl, rfl, rfl⟩
 | 103, i, _, h => Fu (f := Tryz.f103) h ⟨_, Tryz.func103, by kernel_rfl, by kernel_rfl, rfl, rfl⟩
 | 104, i, _, h => Fu (f := Tryz.f104) h ⟨_, Tryz.func104, by kernel_rfl, by kernel_rfl, rfl, rfl⟩
 | 105, i, _, h => Fu (f := Tryz.f105) h ⟨_, Tryz.func105, by kernel_rfl, by kernel_rfl, rfl, rfl⟩
 | 106, i, _, h => Fu (f := Tryz.f106) h ⟨_, Tryz.func106, by kernel_rfl, by kernel_rfl, rfl, rfl⟩
 | 107, i, _, h => Fu (f := Tryz.f107) h ⟨_, Tryz.func107, by kernel_rfl, by kernel_rfl, rfl, rfl⟩
 | 108, i, _, h => Fu (f := Tryz.f108) h ⟨_, Tryz.func108, by kernel_rfl, by kernel_rfl, rfl, rfl⟩
 | 109, i, _, h => Fu (f := Tryz.f109) h ⟨_, Tryz.func109, by kernel_rfl, by kernel_rfl, rfl, rfl⟩
 | 110, i, _, h => Fu (f := Tryz.f110) h ⟨_, Tryz.func110, by kernel_rfl, by kernel_rfl, rfl, rfl⟩
 | 111, i, _, h => Fu (f := Tryz.f111) h ⟨_, Tryz.func111, by kernel_rfl, by kernel_rfl, rfl, rfl⟩
 | 112, i, _, h => Fu (f := Tryz.f112) h ⟨_, Tryz.func112, by kernel_rfl, by kernel_rfl, rfl, rfl⟩
 | 113, i, _, h => Fu (f := Tryz.f113) h ⟨_, Tryz.func113, by kernel_rfl, by kernel_rfl, rfl, rfl⟩
 | 114, i, _, h => Fu (f := Tryz.f114) h ⟨_, Tryz.func114, by kernel_rfl, by kernel_rfl, rfl, rfl⟩
 | 115, i, _, h => Fu (f := Tryz.f115) h ⟨_, Tryz.func115, by kernel_rfl, by kernel_rfl, rfl, rfl⟩
 | 116, i, _, h => nomatch Option.some.inj h
 | 117, i, _, h => nomatch Option.some.inj h
 | 118, i, _, h => Fu (f := Tryz.f118) h ⟨_, Tryz.func118, by kernel_rfl, by kernel_rfl, rfl, rfl⟩
 | 119, i, _, h => nomatch Option.some.inj h
 | 120, i, _, h => nomatch Option.some.inj h
 | 121, i, _, h => nomatch Option.some.inj h
 | 122, i, _, h => nomatch Option.some.inj h
 | 123, i, _, h => nomatch Option.some.inj h
 | 124, i, _, h => nomatch Option.some.inj h
 | 125, i, _, h => nomatch Option.some.inj h
 | 126, i, _, h => Fu (f := Tryz.f126) h ⟨_, Tryz.func126, by kernel_rfl, by kernel_rfl, rfl, rfl⟩
 | 127, i, _, h => Fu (f := Tryz.f127) h ⟨_, Tryz.func127, by kernel_rfl, by kernel_rfl, rfl, rfl⟩
 | 128, i, _, h => Fu (f := Tryz.f128) h ⟨_, Tryz.func128, by kernel_rfl, by kernel_rfl, rfl, rfl⟩
 | 129, i, _, h => Fu (f := Tryz.f129) h ⟨_, Tryz.func129, by kernel_rfl, by kernel_rfl, rfl, rfl⟩
 | 130, i, _, h => Fu (f := Tryz.f130) h ⟨_, Tryz.func130, by kernel_rfl, by kernel_rfl, rfl, rfl⟩
 | 131, i, _, h => Fu (f := Tryz.f131) h ⟨_, Tryz.func131, by kernel_rfl, by kernel_rfl, rfl, rfl⟩
 | 132, i, _, h => Fu (f := Tryz.f132) h ⟨_, Tryz.func132, by kernel_rfl, by kernel_rfl, rfl, rfl⟩
 | 133, i, _, h => Fu (f := Tryz.f133) h ⟨_, Tryz.func133, by kernel_rfl, by kernel_rfl, rfl, rfl⟩
 | 134, i, _, h => Fu (f := Tryz.f134) h ⟨_, Tryz.func134, by kernel_rfl, by kernel_rfl, rfl, rfl⟩
 | 135, i, _, h => nomatch Option.some.inj h
 | 136, i, _, h => nomatch Option.some.inj h
 | 137, i, _, h => Fu (f := Tryz.f137) h ⟨_, Tryz.func137, by kernel_rfl, by kernel_rfl, rfl, rfl⟩
 | 138, i, _, h => Fu (f := Tryz.f138) h ⟨_, Tryz.func138, by kernel_rfl, by kernel_rfl, rfl, rfl⟩
 | 139, i, _, h => Fu (f := Tryz.f139) h ⟨_, Tryz.func139, by kernel_rfl, by kernel_rfl, rfl, rfl⟩
 | 140, i, _, h => Fu (f := Tryz.f140) h ⟨_, Tryz.func140, by kernel_rfl, by kernel_rfl, rfl, rfl⟩
 | 141, i, _, h => Fu (f := Tryz.f141) h ⟨_, Tryz.func141, by kernel_rfl, by kernel_rfl, rfl, rfl⟩
 | 142, i, _, h => Fu (f := Tryz.f142) h ⟨_, Tryz.func142, by kernel_rfl, by kernel_rfl, rfl, rfl⟩
 | 143, i, _, h => Fu (f := Tryz.f143) h ⟨_, Tryz.func143, by kernel_rfl, by kernel_rfl, rfl, rfl⟩
 | 144, i, _, h => nomatch Option.some.inj h
 | 145, i, _, h => nomatch Option.some.inj h
 | 146, i, _, h => Fu (f := Tryz.f146) h ⟨_, Tryz.func146, by kernel_rfl, by kernel_rfl, rfl, rfl⟩
 | 147, i, _, h => nomatch Option.some.inj h
 | 148, i, _, h => nomatch Option.some.inj h
 | 149, i, _, h => nomatch Option.some.inj h
 | 150, i, _, h => Fu (f := Tryz.f150) h ⟨_, Tryz.func150, by kernel_rfl, by kernel_rfl, rfl, rfl⟩
 | 151, i, _, h => Fu (f := Tryz.f151) h ⟨_, Tryz.func151, by kernel_rfl, by kernel_rfl, rfl, rfl⟩
 | n + 152, i, hlt, h => by omega
theorem ApV : ∀ f i, E0.fs f = some i → Amj Tryz.prog E0 f i := by
 intro f i h
 have hl : fss[f]? = some (some i) := by
  have h : (fss[f]?).getD none = some i := h
  cases hl : fss[f]? with
  | none => rw [hl] at h; cases h
  | some o => rw [hl] at h; simp only [zaG] at h; rw [h]
 refine ⟨?_, Ad8 Aom hl⟩
 have hlt : f < 152 := (zac.1 hl).1
 exact AoN f i hlt hl
theorem ApS : AaF Tryz.prog E0 J0 := ⟨AiR, Aok, by kernel_rfl, ApV, ApU, (fun f q h => by cases h), Aio⟩
end
section
open Go
variable {β : Type} {n : Nat}
section
variable {k : KO β} {k1 : AV → Option β} {H : Ab}
@[simp] theorem Gb : (PR n β).load = Bx := rfl
@[simp] theorem Km : (PR n β).store = Ej := rfl
@[simp] theorem Pd : (PR n β).new = Xw := rfl
@[simp] theorem Kw : (PR n β).box = Xr := rfl
@[simp] theorem Kl : (PR n β).newSl = G5 := rfl
@[simp] theorem Hy : (PR n β).fadr = Dh := rfl
@[simp] theorem Ap1 : (PR n β).fld = Ai6 := rfl
@[simp] theorem I5 : (PR n β).iadr = Dj := rfl
@[simp] theorem Ob : (PR n β).idx = AfB := rfl
@[simp] theorem Hz : (PR n β).lenS = Xu := rfl
@[simp] theorem Jo : (PR n β).len = Ik := rfl
@[simp] theorem Jg : (PR n β).sliceS = Qz := rfl
@[simp] theorem Nj : (PR n β).slice = Mf := rfl
@[simp] theorem Pc : (PR n β).app = Lk := rfl
@[simp] theorem Apx : (PR n β).appS = Xp := rfl
@[simp] theorem Eu : (PR n β).bin = Bz := rfl
@[simp] theorem Id : (PR n β).binB = Nw := rfl
@[simp] theorem K7 : (PR n β).binA = Ra := rfl
@[simp] theorem Pe : (PR n β).un = pUn := rfl
@[simp] theorem Gx : (PR n β).pick = M1 := rfl
@[simp] theorem Oa : (PR n β).cvI = Xs := rfl
@[simp] theorem Apz : (PR n β).cvSS = AdU := rfl
@[simp] theorem Mn : (PR n β).cvBS = O8 := rfl
@[simp] theorem Aji : (PR n β).cvSB = Xt := rfl
@[simp] theorem Adg : (PR n β).extr = Sw := rfl
@[simp] theorem Ap2 : (PR n β).nil = Ai7 := rfl
@[simp] theorem Mo : (PR n β).fill = fun a l k => (Ji a l).bind k := rfl
@[simp] theorem Qk : (PR n β).make = Xv := rfl
@[simp] theorem Fo : (PR n β).guard = Fg := rfl
@[simp] theorem D6 : (PR n β).cond = C8 := rfl
@[simp] theorem AnY : (PR n β).clear = Tv := rfl
@[simp] theorem Apy : (PR n β).both = Qd := rfl
@[simp] theorem AnX : (PR n β).apart = Oz := rfl
@[simp] theorem Ap0 : (PR n β).same = Sx := rfl
theorem Fa : ((PR n β).load = Bx) ∧ ((PR n β).store = Ej) ∧ ((PR n β).new = Xw) ∧ ((PR n β).box = Xr) ∧ ((PR n β).newSl = G5) ∧ ((PR n β).fadr = Dh) ∧ ((PR n β).fld = Ai6) ∧ ((PR n β).iadr = Dj) ∧ ((PR n β).idx = AfB) ∧ ((PR n β).lenS = Xu) ∧ ((PR n β).len = Ik) ∧ ((PR n β).sliceS = Qz) ∧ ((PR n β).slice = Mf) ∧ ((PR n β).app = Lk) ∧ ((PR n β).appS = Xp) ∧ ((PR n β).bin = Bz) ∧ ((PR n β).binB = Nw) ∧ ((PR n β).binA = Ra) ∧ ((PR n β).un = pUn) ∧ ((PR n β).pick = M1) ∧ ((PR n β).cvI = Xs) ∧ ((PR n β).cvSS = AdU) ∧ ((PR n β).cvBS = O8) ∧ ((PR n β).cvSB = Xt) ∧ ((PR n β).extr = Sw) ∧ ((PR n β).nil = Ai7) ∧ ((PR n β).fill = fun a l k => (Ji a l).bind k) ∧ ((PR n β).make = Xv) ∧ ((PR n β).guard = Fg) ∧ ((PR n β).cond = C8) ∧ ((PR n β).clear = Tv) ∧ ((PR n β).both = Qd) ∧ ((PR n β).apart = Oz) ∧ ((PR n β).same = Sx) := ⟨rfl, rfl, rfl, rfl, rfl, rfl, rfl, rfl, rfl, rfl, rfl, rfl, rfl, rfl, rfl, rfl, rfl, rfl, rfl, rfl, rfl, rfl, rfl, rfl, rfl, rfl, rfl, rfl, rfl, rfl, rfl, rfl, rfl, rfl⟩
theorem E9 : (∀ (p : Pr β) (c : AV) (H : Ab) (m : (AV → Option β) → Option β) k, p.gT c H m k = p.guard c true H (fun k' => m fun t' => k' t' H) k) ∧ (∀ (p : Pr β) (c : AV) (H : Ab) (m : (KO β) → Option β) k, p.hT c H m k = p.guard c true H (fun k' => m fun t' H => k' t' H) k) ∧ (∀ (p : Pr β) (c : AV) (H : Ab) (v : AV) k, p.kT c H v k = p.guard c true H (fun k' => k' v H) k) ∧ (∀ (p : Pr β) (c : AV) (H : Ab) (m : (AV → Option β) → Option β) k, p.gF c H m k = p.guard c false H (fun k' => m fun t' => k' t' H) k) ∧ (∀ (p : Pr β) (c : AV) (H : Ab) (m : (KO β) → Option β) k, p.hF c H m k = p.guard c false H (fun k' => m fun t' H => k' t' H) k) ∧ (∀ (p : Pr β) (c : AV) (H : Ab) (v : AV) k, p.kF c H v k = p.guard c false H (fun k' => k' v H) k) ∧ (∀ (p : Pr β) i t n H k, p.fl i t n H k = p.fadr i t fun x => p.load false n x H k) ∧ (∀ (p : Pr β) i t n v H k, p.fs i t n v H k = p.fadr i t fun x => p.store n x v H k) ∧ (∀ (p : Pr β) y f l H k, p.ca y f l H k = p.call y (.fn f [] []) l H k) ∧ (∀ (p : Pr β) c H i t n k, p.lT c H i t n k = p.guard c true H (fun k' => p.fadr i t fun x => k' x H) fun x H => p.guard c true H (fun k' => p.load false n x H fun x => k' x H) k) ∧ (∀ (p : Pr β) c H i t n k, p.lF c H i t n k = p.guard c false H (fun k' => p.fadr i t fun x => k' x H) fun x H => p.guard c false H (fun k' => p.load false n x H fun x => k' x H) k) := ⟨fun _ _ _ _ _ => rfl, fun _ _ _ _ _ => rfl, fun _ _ _ _ _ => rfl, fun _ _ _ _ _ => rfl, fun _ _ _ _ _ => rfl, fun _ _ _ _ _ => rfl, fun _ _ _ _ _ _ => rfl, fun _ _ _ _ _ _ _ => rfl, fun _ _ _ _ _ _ => rfl, fun _ _ _ _ _ _ _ => rfl, fun _ _ _ _ _ _ _ => rfl⟩
noncomputable def Ek (f : Nat) : Bool := E0.hm f || (E0.ext f).isSome
theorem AbB {f : Nat} (h : Ek f = false) : E0.hm f = false := by
 unfold Ek at h
 simp only [Bool.or_eq_false_iff] at h
 exact h.1
theorem Zu {f : Nat} (h : Ek f = false) : E0.ext f = none := by
 unfold Ek at h
 simp only [Bool.or_eq_false_iff] at h
 simpa using h.2
theorem Ha {ty : Nat} {f : FuncId} {args vs : List AV} {t : AV} (hh : Ek f = false) (hv : args.mapM (C5 H 8) = some vs) (ht : Cb E0 n ty f vs = some t) :
  (PR n β).call ty (.fn f [] []) args H k = k (Bk Ak E0.tp H.length ty t).1 (H ++ (Bk Ak E0.tp H.length ty t).2) := by
 show Ms E0 (Dy E0 n) ty f ([] ++ args ++ []) H k = _
 simp only [Ms, Zu hh, AbB hh, zai, zam, zaa, if_false, AaS, hv, zad]
 have ht : T2 E0 (Dy E0 n) ty f vs = some t := ht
 rw [ht]
 rfl
theorem AbY {ty : Nat} {f : FuncId} {g : Nat → List AV → Option AV} {args vs : List AV} {t : AV} (hg : E0.ext f = some g) (hv : args.mapM (C5 H 8) = some vs) (ht : g ty vs = some t) :
  (PR n β).call ty (.fn f [] []) args H k = k (Bk Ak E0.tp H.length ty t).1 (H ++ (Bk Ak E0.tp H.length ty t).2) := by
 show Ms E0 (Dy E0 n) ty f ([] ++ args ++ []) H k = _
 simp only [Ms, hg, zai, zam, Adm, hv, zad, ht]
 rfl
end
theorem At (n ty : Nat) (f : FuncId) (args : List AV) : Cb E0 n ty f args = Dy E0 n AV f args [] fun x H => A4 Ak E0.tp ty H x := rfl
@[simp] theorem AnJ {ti : Nat → Option TI} {tp : Nat → Option (List Nat)} (ty : Nat) (H : Ab) (v : Value) : A4 ti tp ty H (.sc v) = some (.sc v) := rfl
theorem I8 {ti : Nat → Option TI} {tp : Nat → Option (List Nat)} {H : Ab} {d ty id off n z : Nat} : Cz ti tp H (d + 1) ty (.sl id off n z) = (ti ty).bind fun i => (ti i.elem).bind fun j => if z = j.size then (if Jj H id then (As H id off (n * z)).bind fun cs => (Di (Cz ti tp H d) (zak n j.cty).flatten cs).bind fun q => some (.ro n q.1, id :: q.2) else none) else none := rfl
theorem Jv {ti : Nat → Option TI} {tp : Nat → Option (List Nat)} {H : Ab} {d ty : Nat} {cs : List AV} : Cz ti tp H (d + 1) ty (.agg cs) = (ti ty).bind fun i => (Di (Cz ti tp H d) i.cty cs).bind fun q => some (.agg q.1, q.2) := rfl
theorem Kq {ti : Nat → Option TI} {tp : Nat → Option (List Nat)} {H : Ab} {d ty : Nat} {cs : List AV} : Cz ti tp H (d + 1) ty (.tup cs) = (tp ty).bind fun ts => (Di (Cz ti tp H d) ts cs).bind fun q => some (.tup q.1, q.2) := rfl
theorem Aa3 {ti : Nat → Option TI} {tp : Nat → Option (List Nat)} {H : Ab} {d ty : Nat} {v : Value} : Cz ti tp H (d + 1) ty (.sc v) = some (.sc v, []) := rfl
theorem F8 {ti : Nat → Option TI} {tp : Nat → Option (List Nat)} {n ty : Nat} {v : Value} : Bk ti tp n ty (.sc v) = (.sc v, []) := rfl
theorem Ke {ti : Nat → Option TI} {tp : Nat → Option (List Nat)} {n ty : Nat} {cs : List AV} : Bk ti tp n ty (.agg cs) = (.agg (Ap ti tp n ((ti ty).getD default).cty cs).1, (Ap ti tp n ((ti ty).getD default).cty cs).2) := rfl
theorem Tk {ti : Nat → Option TI} {tp : Nat → Option (List Nat)} {n ty : Nat} {cs : List AV} : Bk ti tp n ty (.tup cs) = (.tup (Ap ti tp n ((tp ty).getD []) cs).1, (Ap ti tp n ((tp ty).getD []) cs).2) := rfl
theorem S9 {H : Ab} {d id off n z : Nat} : C5 H (d + 1) (.sl id off n z) = (As H id off (n * z)).bind fun cs => (cs.mapM (C5 H d)).bind fun vs => some (.ro n vs) := rfl
theorem N2 {H : Ab} {d : Nat} {cs : List AV} : C5 H (d + 1) (.agg cs) = (cs.mapM (C5 H d)).bind fun vs => some (.agg vs) := rfl
theorem AiY {H : Ab} {d : Nat} {v : Value} : C5 H (d + 1) (.sc v) = some (.sc v) := rfl
theorem Yj {H : Ab} {d n : Nat} {cs : List AV} : C5 H (d + 1) (.ro n cs) = some (.ro n cs) := rfl
theorem AdO {H : Ab} {d : Nat} : ∀ (l : List Value), (l.map AV.sc).mapM (C5 H (d + 1)) = some (l.map AV.sc)
 | [] => rfl
 | x :: l => by
  have e : C5 H (d + 1) (.sc x) = some (.sc x) := rfl
  simp only [zat, zaI, e, zbh, zaP, zad, AdO l]
theorem AdS {ti : Nat → Option TI} {tp : Nat → Option (List Nat)} {H : Ab} {d : Nat} : ∀ (ts : List Nat) (l : List Value), ts.length = l.length → Di (Cz ti tp H (d + 1)) ts (l.map AV.sc) = some (l.map AV.sc, [])
 | [], [], _ => rfl
 | t :: ts, x :: l, h => by
  have e : Cz ti tp H (d + 1) t (.sc x) = some (.sc x, []) := rfl
  simp only [zat, Di, e, zad, AdS ts l (by simpa using h), zam]
 | [], _ :: _, h => by simp at h
 | _ :: _, [], h => by simp at h
def bv (s : ByteArray) : List Value := s.data.toList.map fun b => .int .u8 b.toNat
theorem Acf (s : ByteArray) : Ba s = (bv s).map AV.sc := by simp [Ba, bv]
theorem Es (s : ByteArray) : (Ba s).length = s.size := by simp [Ba]
theorem Z9 (s : ByteArray) : (Ba s).all A2 = true := by
 simp only [Ba, List.all_map, za9]
 intro b _
 rfl
theorem K8 : ∀ (l : List UInt8), (l.map fun b => AV.sc (.int .u8 (b.toNat : Int))).mapM Kx = some l
 | [] => rfl
 | b :: l => by
  have e : Kx (.sc (.int .u8 (b.toNat : Int))) = some b := by simp [Kx]
  simp only [zat, zaI, e, K8 l, zbh, zaP, zad]
end
section
open Go
section gen
variable {ti : Nat → Option TI} {tp : Nat → Option (List Nat)}
def Fv (f : Nat → AV → Prop) : List Nat → List AV → Prop
 | [], [] => True
 | t :: ts, x :: xs => f t x ∧ Fv f ts xs
 | _, _ => False
def Hq (ti : Nat → Option TI) (tp : Nat → Option (List Nat)) : Nat → Nat → AV → Prop
 | 0, _, _ => False
 | d + 1, ty, x =>
  match x with
  | .sc _ => True
  | .ro n cells => ∃ i j, ti ty = some i ∧ ti i.elem = some j ∧ cells.length = n * j.size ∧ Fv (Hq ti tp d) (zak n j.cty).flatten cells
  | .agg cs => ∃ i, ti ty = some i ∧ Fv (Hq ti tp d) i.cty cs
  | .tup cs => ∃ ts, tp ty = some ts ∧ Fv (Hq ti tp d) ts cs
  | _ => False
theorem Ab2 {f : Nat → AV → Prop} : ∀ {ts : List Nat} {cs : List AV}, Fv f ts cs → ts.length = cs.length
 | [], [], _ => rfl
 | _ :: ts, _ :: cs, h => by rw [zan, zan, Ab2 h.2]
theorem P6 {f : Nat → AV → Prop} : ∀ {ts : List Nat} {cs : List AV} {ts' : List Nat} {cs' : List AV}, Fv f ts cs → Fv f ts' cs' → Fv f (ts ++ ts') (cs ++ cs')
 | [], [], _, _, _, h => h
 | _ :: ts, _ :: cs, _, _, h, h' => ⟨h.1, P6 h.2 h'⟩
theorem Ts {α : Type} {f : Nat → AV → Prop} {cty : List Nat} {enc : α → List AV} : ∀ (l : List α), (∀ x ∈ l, Fv f cty (enc x)) → Fv f (zak l.length cty).flatten (l.map enc).flatten
 | [], _ => by simp [Fv]
 | x :: l, h => by
  rw [zan, zbn, za3, zat, za3]
  exact P6 (h x za1) (Ts l fun y hy => h y (zav _ hy))
theorem P7 {f g : Nat → AV → Prop} (hfg : ∀ t x, f t x → g t x) : ∀ {ts : List Nat} {cs : List AV}, Fv f ts cs → okL g ts cs
 | [], [], _ => trivial
 | _ :: ts, _ :: cs, h => ⟨hfg _ _ h.1, P7 hfg h.2⟩
theorem P8 : ∀ (d : Nat) (ty : Nat) (x : AV), Hq ti tp d ty x → Ab5 ti tp d ty x
 | 0, _, _, h => h
 | d + 1, ty, x, h => by
  cases x with
  | sc v => trivial
  | ro n cells =>
   obtain ⟨i, j, h1, h2, h3, h4⟩ := h
   show cells.length = n * (((ti ty).bind fun i => ti i.elem).getD default).size ∧ _
   simp only [h1, zad, h2, zaG]
   exact ⟨h3, P7 (P8 d) h4⟩
  | agg cs =>
   obtain ⟨i, h1, h2⟩ := h
   show okL _ ((ti ty).getD default).cty cs
   rw [h1]
   exact P7 (P8 d) h2
  | tup cs =>
   obtain ⟨ts, h1, h2⟩ := h
   show okL _ ((tp ty).getD []) cs
   rw [h1]
   exact P7 (P8 d) h2
  | _ => cases h
theorem Tu {H : Ab} {d : Nat} (hd : ∀ ty t N, Hq ti tp d ty t → Lies H N (Bk ti tp N ty t).2 → (∀ b ∈ (Bk ti tp N ty t).2, b.live = true ∧ b.app = true) → Cz ti tp H d ty (Bk ti tp N ty t).1 = some (t, List.range' N (Bk ti tp N ty t).2.length)) :
  ∀ (ts : List Nat) (cs : List AV) (N : Nat), Fv (Hq ti tp d) ts cs → Lies H N (Ap ti tp N ts cs).2 → (∀ b ∈ (Ap ti tp N ts cs).2, b.live = true ∧ b.app = true) → Di (Cz ti tp H d) ts (Ap ti tp N ts cs).1 = some (cs, List.range' N (Ap ti tp N ts cs).2.length)
 | [], [], N, _, _, _ => rfl
 | t :: ts, x :: cs, N, h, hl, hb => by
  simp only [Ap, List.headD_cons, List.tail_cons] at hl hb ⊢
  have h1 := hd t x N h.1 hl.left fun b hb' => hb b (za8 _ hb')
  have h2 := Tu hd ts cs _ h.2 hl.right fun b hb' => hb b (zaE _ hb')
  have e := List.range'_append (s := N) (m := (Bk ti tp N t x).2.length) (n := (Ap ti tp (N + (Bk ti tp N t x).2.length) ts cs).2.length) (step := 1)
  rw [Nat.one_mul] at e
  simp only [Di, h1, h2, zad, zae, e]
mutual
theorem Af2 : ∀ (x : AV) (N ty : Nat), ∀ b ∈ (Bk ti tp N ty x).2, b.live = true ∧ b.app = true
 | .sc v, N, ty => by intro b h; cases h
 | .ro n cells, N, ty => by
  intro b h
  simp only [Bk, zb9] at h
  rcases h with rfl | h
  ·exact ⟨rfl, rfl⟩
  ·exact H7 cells _ _ b h
 | .agg cs, N, ty => fun b h => H7 cs _ _ b h
 | .tup cs, N, ty => fun b h => H7 cs _ _ b h
 | .any, N, ty => by intro b h; cases h
 | .nl, N, ty => by intro b h; cases h
 | .sl .., N, ty => by intro b h; cases h
 | .ptr .., N, ty => by intro b h; cases h
 | .rp .., N, ty => by intro b h; cases h
 | .fn .., N, ty => by intro b h; cases h
theorem H7 : ∀ (cs : List AV) (N : Nat) (ts : List Nat), ∀ b ∈ (Ap ti tp N ts cs).2, b.live = true ∧ b.app = true
 | [], N, ts => by intro b h; cases h
 | x :: cs, N, ts => by
  intro b h
  simp only [Ap, zaQ] at h
  rcases h with h | h
  ·exact Af2 x _ _ b h
  ·exact H7 cs _ _ b h
end
theorem Su {H : Ab} : ∀ (d ty : Nat) (t : AV) (N : Nat), Hq ti tp d ty t → Lies H N (Bk ti tp N ty t).2 → Cz ti tp H d ty (Bk ti tp N ty t).1 = some (t, List.range' N (Bk ti tp N ty t).2.length)
 | 0, _, _, _, h, _ => by cases h
 | d + 1, ty, t, N, h, hl => by
  have ih := Tu (H := H) (d := d) (ti := ti) (tp := tp) (fun ty t N h h' _ => Su d ty t N h h')
  cases t with
  | sc v => rfl
  | ro n cells =>
   obtain ⟨i, j, h1, h2, h3, h4⟩ := h
   have e : Bk ti tp N ty (.ro n cells) = (.sl N 0 n j.size, ⟨(Ap ti tp (N + 1) (zak n j.cty).flatten cells).1, true, true⟩ :: (Ap ti tp (N + 1) (zak n j.cty).flatten cells).2) := by
    simp only [Bk, h1, zad, h2, zaG]
   rw [e] at hl ⊢
   have hb := hl 0 _ rfl
   rw [zaR] at hb
   have hv := ih (zak n j.cty).flatten cells (N + 1) h4 hl.tail (H7 _ _ _)
   have hlen := Hv (ti := ti) (tp := tp) (N + 1) (zak n j.cty).flatten cells
   have e2 : As H N 0 (n * j.size) = some (Ap ti tp (N + 1) (zak n j.cty).flatten cells).1 := by
    simp only [As, hb, if_true, zaN, za0]
    rw [if_pos (by rw [hlen, h3]; exact zao _), ← h3, ← hlen, zaJ]
   have e3 : Jj H N = true := by simp only [Jj, hb]
   rw [I8]
   simp only [h1, h2, zad, if_true, e2, e3, hv, zan]
   rw [List.range'_succ]
  | agg cs =>
   obtain ⟨i, h1, h2⟩ := h
   have e : Bk ti tp N ty (.agg cs) = (.agg (Ap ti tp N i.cty cs).1, (Ap ti tp N i.cty cs).2) := by rw [Ke, h1]; rfl
   rw [e] at hl ⊢
   rw [Jv]
   simp only [h1, zad, ih i.cty cs N h2 hl (H7 _ _ _)]
  | tup cs =>
   obtain ⟨ts, h1, h2⟩ := h
   have e : Bk ti tp N ty (.tup cs) = (.tup (Ap ti tp N ts cs).1, (Ap ti tp N ts cs).2) := by rw [Tk, h1]; rfl
   rw [e] at hl ⊢
   rw [Kq]
   simp only [h1, zad, ih ts cs N h2 hl (H7 _ _ _)]
  | _ => cases h
theorem Z3 (A B X : List Iu) : Lies (A ++ B ++ X) A.length B := fun j b hj => by
 have hlt := (zac.1 hj).1
 rw [zaf, zaj (by omega), zbv, zal hlt]
 exact hj
theorem Pb (A B : List Iu) : Lies (A ++ B) A.length B := by
 have := Z3 A B []
 rwa [zam] at this
theorem AdT (A : List Iu) (ty : Nat) (t : AV) (h : Hq ti tp 8 ty t) : A4 ti tp ty (A ++ (Bk ti tp A.length ty t).2) (Bk ti tp A.length ty t).1 = some t := by
 rw [A4, Su 8 ty t A.length h (Pb _ _)]
 simp only [zad]
 rw [if_pos (List.nodup_range')]
def Vw (H : Ab) (x v : AV) : Prop := ∀ X : List Iu, C5 (H ++ X) 8 x = some v
theorem Vw.grow {H : Ab} {x v : AV} (h : Vw H x v) (X : List Iu) : Vw (H ++ X) x v := fun Y => by
 rw [zaf]
 exact h _
theorem Vw.now {H : Ab} {x v : AV} (h : Vw H x v) : C5 H 8 x = some v := by
 have := h []
 rwa [zam] at this
theorem Iv (H : Ab) (v : Value) : Vw H (.sc v) (.sc v) := fun _ => rfl
theorem J9 (H : Ab) (n : Nat) (cs : List AV) : Vw H (.ro n cs) (.ro n cs) := fun _ => rfl
def Lh : AV → Bool
 | .sc v => Mz v
 | .ro _ _ => true
 | _ => false
theorem Akw {cs : List AV} (h : cs.all Lh = true) : cs.all A2 = true := by
 rw [za9] at h ⊢
 intro x hx
 have := h x hx
 cases x <;> simp_all [Lh, A2]
theorem Abi {cs : List AV} (h : cs.all Lh = true) : Ev (.agg cs) = some cs := by
 show (if cs.all A2 then some cs else none) = _
 rw [if_pos (Akw h)]
theorem Aal {H : Ab} {d : Nat} : ∀ {cs : List AV}, cs.all Lh = true → cs.mapM (C5 H (d + 1)) = some cs
 | [], _ => rfl
 | x :: cs, h => by
  rw [zaz, zag] at h
  have e : C5 H (d + 1) x = some x := by
   have := h.1
   cases x <;> first | rfl | (exfalso; simp [Lh] at this)
  simp only [zaI, e, Aal h.2, zbh, zaP, zad]
theorem Rd (H : Ab) {cs : List AV} (h : cs.all Lh = true) : Vw H (.agg cs) (.agg cs) := fun X => by
 rw [N2, Aal h]
 rfl
theorem Ou : ∀ (cs : List AV) (N : Nat) (ts : List Nat), cs.all Lh = true → (Ap ti tp N ts cs).1.all A2 = true
 | [], _, _, _ => rfl
 | x :: cs, N, ts, h => by
  rw [zaz, zag] at h
  simp only [Ap, zaz, zag]
  refine ⟨?_, Ou cs _ _ h.2⟩
  have := h.1
  cases x <;> first | exact this | rfl | (exfalso; simp [Lh] at this)
theorem Ig : ∀ (ts : List Nat) (cs : List AV) (ts' : List Nat) (cs' : List AV) (N : Nat), ts.length = cs.length →
  Ap ti tp N (ts ++ ts') (cs ++ cs') = ((Ap ti tp N ts cs).1 ++ (Ap ti tp (N + (Ap ti tp N ts cs).2.length) ts' cs').1, (Ap ti tp N ts cs).2 ++ (Ap ti tp (N + (Ap ti tp N ts cs).2.length) ts' cs').2)
 | [], [], ts', cs', N, _ => by simp [Ap]
 | t :: ts, x :: cs, ts', cs', N, h => by
  have ih := Ig ts cs ts' cs' (N + (Bk ti tp N t x).2.length) (by simpa using h)
  simp only [zaq, Ap, List.headD_cons, List.tail_cons, ih, zae, zaf, zaH]
end gen
section ops
variable {β : Type}
theorem Ot (w len : Nat) (cells : List AV) (i : Nat) (k : AV → Option β) (h : i < len) (h2 : i * w < cells.length) : Dj w (.ro len cells) (.sc (.int .i64 i)) k = k (.rp (cells.drop (i * w))) := by
 simp only [Dj, asI, zad, zbg]
 rw [if_pos ⟨by omega, by omega⟩, if_pos h2]
theorem Aar (w len id off : Nat) (i : Nat) (k : AV → Option β) (h : i < len) : Dj w (.sl id off len w) (.sc (.int .i64 i)) k = k (.ptr id (off + i * w)) := by
 simp only [Dj, asI, zad, zbg, if_true]
 rw [if_pos ⟨by omega, by omega⟩]
theorem Abr (w : Nat) (cs r : List AV) (H : Ab) (k : AV → Option β) (h : cs.length = w) : Bx true w (.rp (cs ++ r)) H k = k (.agg cs) := by
 simp only [Bx, zae, h, Nat.le_add_right, if_true, zbG h]
theorem P2 (c : AV) (r : List AV) (H : Ab) (k : AV → Option β) : Bx false 1 (.rp (c :: r)) H k = k c := by
 simp only [Bx, zan, Nat.le_add_left, if_true, zaa, if_false]
 rfl
theorem Zz (w id off : Nat) (y : AV) (b : Iu) (cs : List AV) (H : Ab) (k : Ab → Option β) (h : H[id]? = some b) (hc : Ev y = some cs) (hl : cs.length = w) (ho : off + w ≤ b.cells.length) (hb : b.live = true) : Ej w (.ptr id off) y H k = k (H.set id { b with cells := Fh b.cells off cs }) := by
 simp only [Ej, h, hc, zad, hb, if_true, hl, ho]
theorem Rs (A z C cs : List AV) (h : z.length = cs.length) : Fh (A ++ (z ++ C)) A.length cs = A ++ (cs ++ C) := by
 unfold Fh
 rw [zbG rfl, ← zaf A z C, za5 (by rw [zae]; omega), ← h, ← zae, zaW, zai, zaf]
theorem Hg (a b : Nat) (k : AV → Option β) : Bz .lss (.sc (.int .i64 a)) (.sc (.int .i64 b)) k = k (.sc (.bool (decide (a < b)))) := by
 show k (.sc (.bool (decide ((a : Int) < (b : Int))))) = _
 rw [show decide ((a : Int) < (b : Int)) = decide (a < b) from by simp]
theorem Hf (a : Nat) (k : AV → Option β) (h : a < 9223372036854775807) : Bz .add (.sc (.int .i64 a)) (.sc (.int .i64 1)) k = k (.sc (.int .i64 (a + 1 : Nat))) := by
 show k (.sc (.int .i64 (IntKind.i64.wrap ((a : Int) + 1)))) = _
 have e : IntKind.i64.wrap ((a : Int) + 1) = ((a + 1 : Nat) : Int) := by
  rw [IntKind.wrap_i64, Int.natCast_add]
  simp only [Int.cast_ofNat_Int]
  omega
 rw [e]
theorem C1 (b : Bool) (x y : Option β) : C8 (.sc (.bool b)) x y = if b then x else y := rfl
theorem F9 (n : Nat) (cs : List AV) (k : AV → Option β) : Ik (.ro n cs) k = k (.sc (.int .i64 n)) := rfl
theorem Ic (n : Int) (h0 : -9223372036854775808 ≤ n) (h1 : n ≤ 9223372036854775807) : IntKind.i64.wrap n = n := by
 rw [IntKind.wrap_i64]; omega
theorem Uw (a b : Int) (k : AV → Option β) (h0 : -9223372036854775808 ≤ a - b) (h1 : a - b ≤ 9223372036854775807) : Bz .sub (.sc (.int .i64 a)) (.sc (.int .i64 b)) k = k (.sc (.int .i64 (a - b))) := by
 show k (.sc (.int .i64 (IntKind.i64.wrap (a - b)))) = _
 rw [Ic _ h0 h1]
theorem Ns (a b : Int) (k : AV → Option β) : Bz .lss (.sc (.int .i64 a)) (.sc (.int .i64 b)) k = k (.sc (.bool (decide (a < b)))) := rfl
theorem Aen {α : Type} {w : Nat} {enc : α → List AV} (hw : ∀ x, (enc x).length = w) (pre r : List α) : ((pre ++ r).map enc).flatten.drop (pre.length * w) = (r.map enc).flatten := by
 have hl : ((pre.map enc).flatten).length = pre.length * w := by
  induction pre with
  | nil => simp
  | cons x pre ih => rw [zat, za3, zae, ih, hw, zan, zb3, zbM]
 rw [zaF, zbd, za5 (by omega), ← hl, zaW, zai]
theorem Xz {α : Type} {w : Nat} {enc : α → List AV} (hw : ∀ x, (enc x).length = w) (l : List α) : ((l.map enc).flatten).length = l.length * w := by
 induction l with
 | nil => simp
 | cons x l ih => rw [zat, za3, zae, ih, hw, zan, zb3, zbM]
theorem Ado {α : Type} {w : Nat} {enc : α → List AV} (hw : ∀ x, (enc x).length = w) (h0 : 0 < w) (pre : List α) (x : α) (r : List α) (k : AV → Option β) :
  Dj w (.ro (pre ++ x :: r).length ((pre ++ x :: r).map enc).flatten) (.sc (.int .i64 pre.length)) k = k (.rp (enc x ++ (r.map enc).flatten)) := by
 have hl := Xz hw (pre ++ x :: r)
 have h1 : pre.length < (pre ++ x :: r).length := by simp
 rw [Ot w _ _ pre.length k h1 (by rw [hl]; exact Nat.mul_lt_mul_of_pos_right h1 h0), Aen hw pre (x :: r), zat, za3]
theorem Za {α : Type} {n : Nat} (e : α → Value) (k : KO β) (z : AV) (hlf : ∀ x, Mz (e x) = true) (L : Nat → AV → AV → KO β)
  (hL : ∀ m a o i H, L (m + 1) a o i H = Ik a fun t10 => Bz .lss i t10 fun t11 => C8 t11 (Dj 1 a i fun t18 => Bx false 1 t18 H fun t19 => Dj 1 o i fun t21 => Ej 1 t21 t19 H fun H => Bz .add i (.sc (.int .i64 1)) fun t13 => L m a o t13 H) (k o H))
  (l : List α) (hlen : l.length ≤ 1048576) : ∀ (r pre : List α) (m : Nat), l = pre ++ r → r.length < m →
   L m (.ro l.length (l.map fun x => .sc (e x))) (.sl 0 0 l.length 1) (.sc (.int .i64 pre.length)) [⟨(pre.map fun x => .sc (e x)) ++ zak r.length z, true, true⟩]
    = k (.sl 0 0 l.length 1) [⟨l.map fun x => .sc (e x), true, true⟩]
 | [], pre, m + 1, hl, hm => by
  rw [zam] at hl
  subst hl
  rw [hL, F9, Hg, C1]
  simp
 | x :: r, pre, m + 1, hl, hm => by
  have hlt : pre.length < l.length := by rw [hl]; simp
  rw [hL, F9, Hg, C1, if_pos (by simpa using hlt)]
  rw [Ot 1 _ _ pre.length _ hlt (by simpa using hlt)]
  have hd : (l.map fun x => AV.sc (e x)).drop (pre.length * 1) = .sc (e x) :: r.map fun x => .sc (e x) := by
   rw [zby, hl, zaF, za5 (by simp)]
   rw [show pre.length = (pre.map fun x => AV.sc (e x)).length by simp, zaW]
   rfl
  rw [hd, P2, Aar 1 _ _ _ _ _ hlt]
  have hc : Ev (.sc (e x)) = some [.sc (e x)] := by
   show Ev (.sc (e x)) = _
   simp only [Ev, A2, hlf, if_true]
  rw [Zz 1 0 (0 + pre.length * 1) (.sc (e x)) ⟨(pre.map fun x => .sc (e x)) ++ zak (x :: r).length z, true, true⟩ [.sc (e x)] _ _ rfl hc rfl (by simp) rfl]
  rw [zbP, Hf _ _ (by omega)]
  have ih := Za (n := n) e k z hlf L hL l hlen r (pre ++ [x]) m (by rw [hl]; simp) (by simpa using hm)
  have e3 : Fh ((pre.map fun x => AV.sc (e x)) ++ zak (x :: r).length z) (0 + pre.length * 1) [.sc (e x)] = ((pre ++ [x]).map fun x => AV.sc (e x)) ++ zak r.length z := by
   have := Rs (pre.map fun x => AV.sc (e x)) [z] (zak r.length z) [.sc (e x)] rfl
   rw [zbQ] at this
   rw [zan, zbn, za0, zby]
   refine this.trans ?_
   simp
  simp only [e3]
  rw [zae, zas] at ih
  exact ih
theorem Alt {α : Type} {n tyS f bytes : Nat} (e : α → Value) (z : AV) (hlf : ∀ x, Mz (e x) = true) (hty : ∃ i j, Ak tyS = some i ∧ Ak i.elem = some j ∧ j.size = 1 ∧ j.cty.length = 1) (L : (AV → Ab → Option AV) → Nat → AV → AV → AV → Ab → Option AV)
  (hL : ∀ k m a o i H, L k (m + 1) a o i H = Ik a fun t10 => Bz .lss i t10 fun t11 => C8 t11 (Dj 1 a i fun t18 => Bx false 1 t18 H fun t19 => Dj 1 o i fun t21 => Ej 1 t21 t19 H fun H => Bz .add i (.sc (.int .i64 1)) fun t13 => L k m a o t13 H) (k o H))
  (hF : ∀ a H k, Dy E0 (n + 1) AV f [a] H k = Ik a fun t6 => Xv 1 bytes [z] t6 t6 H fun t7 H => L k n a t7 (.sc (.int .i64 0)) H)
  (hby : bytes ≤ 134217728) (l : List α) (hlen : l.length ≤ 1048576) (hn : 1048576 < n) :
  Cb E0 (n + 1) tyS f [.ro l.length (l.map fun x => .sc (e x))] = some (.ro l.length (l.map fun x => .sc (e x))) := by
 rw [At, hF, F9]
 have hb : l.length * bytes ≤ 140737488355328 := zaA (Nat.mul_le_mul hlen hby) (by decide)
 have hz : (zak l.length [z]).flatten = zak l.length z := by
  generalize l.length = m
  induction m with
  | zero => rfl
  | succ m ih => rw [zbn, za3, ih, zbn]; rfl
 simp only [Xv, asI, zad, if_true, zbg, hb, Int.natCast_nonneg, G5, zax, zai, hz]
 have key := Za (n := n) e (fun x H => A4 Ak E0.tp tyS H x) z hlf _ (hL _) l hlen l [] n (by simp) (by omega)
 simp only [zax, zaO, zai, zaX] at key
 refine key.trans ?_
 obtain ⟨i, j, h1, h2, h3, h4⟩ := hty
 have em : (l.map fun x => AV.sc (e x)) = (l.map e).map AV.sc := by rw [zbT]; rfl
 have hl1 : (zak l.length j.cty).flatten.length = (l.map e).length := by simp [h4]
 have e3 := AdS (ti := Ak) (tp := E0.tp) (H := [⟨l.map fun x => AV.sc (e x), true, true⟩]) (d := 6) _ _ hl1
 have e2 : As [⟨l.map fun x => AV.sc (e x), true, true⟩] 0 0 (l.length * 1) = some (l.map fun x => AV.sc (e x)) := by
  simp [As, zbb]
 rw [A4, I8]
 simp only [h1, h2, h3, zad, if_true, e2, Jj, zbi]
 rw [em] at e3 ⊢
 rw [e3]
 rfl
theorem Adq {α : Type} {n tb g w : Nat} (enc : α → List AV) (k : KO β) (hw : ∀ x, (enc x).length = w) (h0 : 0 < w) (hfl : ∀ x, (enc x).all Lh = true) (hh : Ek g = false) (L : Nat → AV → AV → KO β)
  (hL : ∀ m a b i H, L (m + 1) a b i H = Ik a fun t13 => Bz .lss i t13 fun t14 => C8 t14 (Dj w a i fun t19 => Bx true w t19 H fun t20 => Dj w b i fun t23 => Bx true w t23 H fun t24 => (PR n β).call tb (.fn g [] []) [t20, t24] H fun t25 H => pUn .not t25 fun t26 => C8 t26 (k (.sc (.bool false)) H) (Bz .add i (.sc (.int .i64 1)) fun t16 => L m a b t16 H)) (k (.sc (.bool true)) H))
  (l : List α) (heq : ∀ x ∈ l, Cb E0 n tb g [.agg (enc x), .agg (enc x)] = some (.sc (.bool true))) (hlen : l.length ≤ 1048576) (H : Ab) : ∀ (r pre : List α) (m : Nat), l = pre ++ r → r.length < m →
   L m (.ro l.length (l.map enc).flatten) (.ro l.length (l.map enc).flatten) (.sc (.int .i64 pre.length)) H = k (.sc (.bool true)) H
 | [], pre, m + 1, hl, hm => by
  rw [zam] at hl
  subst hl
  rw [hL, F9, Hg, C1]
  simp
 | x :: r, pre, m + 1, hl, hm => by
  have hlt : pre.length < l.length := by rw [hl]; simp
  rw [hL, F9, Hg, C1, if_pos (by simpa using hlt)]
  have hel := fun k => Ado (β := β) hw h0 pre x r k
  rw [← hl] at hel
  rw [hel, Abr w _ _ _ _ (hw x), hel, Abr w _ _ _ _ (hw x)]
  rw [Ha (vs := [.agg (enc x), .agg (enc x)]) hh (by simp only [zaI, (Rd _ (hfl x)).now]; rfl) (heq x (by rw [hl]; simp))]
  rw [F8]
  simp only [pUn, zau, zam]
  rw [C1, if_neg (by simp), Hf _ _ (by omega)]
  have ih := Adq enc k hw h0 hfl hh L hL l heq hlen H r (pre ++ [x]) m (by rw [hl]; simp) (by simpa using hm)
  rw [zae, zas] at ih
  exact ih
theorem Sp (a b : Nat) (k : AV → Option β) : Bz .neq (.sc (.int .i64 a)) (.sc (.int .i64 b)) k = k (.sc (.bool (decide (a ≠ b)))) := by
 show k (.sc (.bool ((a : Int) != (b : Int)))) = _
 congr 3
 by_cases h : a = b
 ·subst h; simp
 ·simp [bne, h]; omega
theorem Aba {α : Type} {n tb f g w : Nat} (enc : α → List AV) (hw : ∀ x, (enc x).length = w) (h0 : 0 < w) (hfl : ∀ x, (enc x).all Lh = true) (hh : Ek g = false) (L : (AV → Ab → Option AV) → Nat → AV → AV → AV → Ab → Option AV)
  (hL : ∀ k m a b i H, L k (m + 1) a b i H = Ik a fun t13 => Bz .lss i t13 fun t14 => C8 t14 (Dj w a i fun t19 => Bx true w t19 H fun t20 => Dj w b i fun t23 => Bx true w t23 H fun t24 => (PR n AV).call tb (.fn g [] []) [t20, t24] H fun t25 H => pUn .not t25 fun t26 => C8 t26 (k (.sc (.bool false)) H) (Bz .add i (.sc (.int .i64 1)) fun t16 => L k m a b t16 H)) (k (.sc (.bool true)) H))
  (hF : ∀ a b H k, Dy E0 (n + 1) AV f [a, b] H k = Ik a fun t7 => Ik b fun t9 => Bz .neq t7 t9 fun t10 => C8 t10 (k (.sc (.bool false)) H) (L k n a b (.sc (.int .i64 0)) H))
  (l : List α) (heq : ∀ x ∈ l, Cb E0 n tb g [.agg (enc x), .agg (enc x)] = some (.sc (.bool true))) (hlen : l.length ≤ 1048576) (hn : 1048576 < n) (tb' : Nat) :
  Cb E0 (n + 1) tb' f [.ro l.length (l.map enc).flatten, .ro l.length (l.map enc).flatten] = some (.sc (.bool true)) := by
 rw [At, hF, F9, F9, Sp, C1, if_neg (by simp)]
 have key := Adq (n := n) (tb := tb) (g := g) enc (fun x H => A4 Ak E0.tp tb' H x) hw h0 hfl hh (L fun x H => A4 Ak E0.tp tb' H x) (hL fun x H => A4 Ak E0.tp tb' H x) l heq hlen [] l [] n (by simp) (by omega)
 simp only [zax, zaX] at key
 rw [key]
 rfl
theorem Abb {α : Type} {n : Nat} (e : α → Value) (k : KO β) (hne : ∀ (x : α) (γ : Type) (k : AV → Option γ), Bz .neq (.sc (e x)) (.sc (e x)) k = k (.sc (.bool false))) (L : Nat → AV → AV → KO β)
  (hL : ∀ m a b i H, L (m + 1) a b i H = Ik a fun t13 => Bz .lss i t13 fun t14 => C8 t14 (Dj 1 a i fun t19 => Bx false 1 t19 H fun t20 => Dj 1 b i fun t23 => Bx false 1 t23 H fun t24 => Bz .neq t20 t24 fun t25 => C8 t25 (k (.sc (.bool false)) H) (Bz .add i (.sc (.int .i64 1)) fun t16 => L m a b t16 H)) (k (.sc (.bool true)) H))
  (l : List α) (hlen : l.length ≤ 1048576) (H : Ab) : ∀ (r pre : List α) (m : Nat), l = pre ++ r → r.length < m →
   L m (.ro l.length (l.map fun x => .sc (e x))) (.ro l.length (l.map fun x => .sc (e x))) (.sc (.int .i64 pre.length)) H = k (.sc (.bool true)) H
 | [], pre, m + 1, hl, hm => by
  rw [zam] at hl
  subst hl
  rw [hL, F9, Hg, C1]
  simp
 | x :: r, pre, m + 1, hl, hm => by
  have hlt : pre.length < l.length := by rw [hl]; simp
  rw [hL, F9, Hg, C1, if_pos (by simpa using hlt)]
  have hd : (l.map fun x => AV.sc (e x)).drop (pre.length * 1) = .sc (e x) :: r.map fun x => .sc (e x) := by
   rw [zby, hl, zaF, za5 (by simp)]
   rw [show pre.length = (pre.map fun x => AV.sc (e x)).length by simp, zaW]
   rfl
  rw [Ot 1 _ _ pre.length _ hlt (by simpa using hlt), hd, P2, Ot 1 _ _ pre.length _ hlt (by simpa using hlt), hd, P2, hne, C1, if_neg (by simp), Hf _ _ (by omega)]
  have ih := Abb (n := n) e k hne L hL l hlen H r (pre ++ [x]) m (by rw [hl]; simp) (by simpa using hm)
  rw [zae, zas] at ih
  exact ih
theorem Aae {α : Type} {n f : Nat} (e : α → Value) (hne : ∀ (x : α) (γ : Type) (k : AV → Option γ), Bz .neq (.sc (e x)) (.sc (e x)) k = k (.sc (.bool false))) (L : (AV → Ab → Option AV) → Nat → AV → AV → AV → Ab → Option AV)
  (hL : ∀ k m a b i H, L k (m + 1) a b i H = Ik a fun t13 => Bz .lss i t13 fun t14 => C8 t14 (Dj 1 a i fun t19 => Bx false 1 t19 H fun t20 => Dj 1 b i fun t23 => Bx false 1 t23 H fun t24 => Bz .neq t20 t24 fun t25 => C8 t25 (k (.sc (.bool false)) H) (Bz .add i (.sc (.int .i64 1)) fun t16 => L k m a b t16 H)) (k (.sc (.bool true)) H))
  (hF : ∀ a b H k, Dy E0 (n + 1) AV f [a, b] H k = Ik a fun t7 => Ik b fun t9 => Bz .neq t7 t9 fun t10 => C8 t10 (k (.sc (.bool false)) H) (L k n a b (.sc (.int .i64 0)) H))
  (l : List α) (hlen : l.length ≤ 1048576) (hn : 1048576 < n) (tb' : Nat) :
  Cb E0 (n + 1) tb' f [.ro l.length (l.map fun x => .sc (e x)), .ro l.length (l.map fun x => .sc (e x))] = some (.sc (.bool true)) := by
 rw [At, hF, F9, F9, Sp, C1, if_neg (by simp)]
 have key := Abb (n := n) e (fun x H => A4 Ak E0.tp tb' H x) hne (L fun x H => A4 Ak E0.tp tb' H x) (hL fun x H => A4 Ak E0.tp tb' H x) l hlen [] l [] n (by simp) (by omega)
 simp only [zax, zaX] at key
 rw [key]
 rfl
def Yc (w : Nat) (left : Int) : Int := if left < w then -1 else left - w
def Pa {α : Type} (wt : α → Nat) : List α → Nat
 | [] => 0
 | x :: l => 1 + wt x + Pa wt l
def wtS {α : Type} (wt : α → Nat) : List α → Nat
 | [] => 0
 | x :: l => wt x + wtS wt l
theorem Qj {α : Type} (wt : α → Nat) : ∀ l : List α, Pa wt l = l.length + wtS wt l
 | [] => rfl
 | x :: l => by rw [Pa, wtS, Qj wt l, zan]; omega
theorem Vm {α : Type} {wt : α → Nat} : ∀ {l : List α} {x : α}, x ∈ l → wt x ≤ wtS wt l
 | y :: l, x, h => by
  rw [wtS]
  rcases zb9.1 h with rfl | h
  ·omega
  ·have := Vm (wt := wt) h
   omega
theorem AnT {n f : Nat} (hF : ∀ a b H k, Dy E0 (n + 1) AV f [a, b] H k = Ik a fun t8 => Bz .sub b t8 fun t9 => Bz .lss t9 (.sc (.int .i64 0)) fun t11 => C8 t11 (k (.sc (.int .i64 (-1))) H) (k t9 H))
  (len : Nat) (cells : List AV) (hmax : len ≤ 9223372036854775807) (left : Int) (hl0 : 0 ≤ left) (hl1 : left ≤ 1048576) (ty' : Nat) :
  Cb E0 (n + 1) ty' f [.ro len cells, .sc (.int .i64 left)] = some (.sc (.int .i64 (Yc len left))) := by
 rw [At, hF, F9, Uw _ _ _ (by omega) (by omega), Ns, C1]
 by_cases h : left - (len : Int) < 0
 ·have e : Yc len left = -1 := by rw [Yc, if_pos]; omega
  rw [if_pos (by simpa using h), e]
  rfl
 ·have e : Yc len left = left - len := by rw [Yc, if_neg]; omega
  rw [if_neg (by simpa using h), e]
  rfl
end ops
end
section
open Go
variable {β : Type} {n : Nat}
theorem M5 (cs : List AV) (H : Ab) (k : KO β) (h : cs.all Lh = true) : Xr (.agg cs) H k = k (.ptr H.length 0) (H ++ [⟨cs, true, true⟩]) := by
 rw [Xr, Abi h]
 rfl
theorem ldT {m id off : Nat} {H : Ab} {cs : List AV} (h : As H id off m = some cs) (k : AV → Option β) : Bx true m (.ptr id off) H k = k (.agg cs) := by
 simp only [Bx, h, zad, if_true]
theorem ldF {id off : Nat} {H : Ab} {c : AV} (h : As H id off 1 = some [c]) (k : AV → Option β) : Bx false 1 (.ptr id off) H k = k c := by
 simp only [Bx, h, zad, zaa, if_false, one]
noncomputable def Yp (b0 b1 : Iu) (ts : List Nat) (cs z : List AV) : Ab := b0 :: b1 :: ⟨(Ap Ak E0.tp 3 ts cs).1 ++ z, true, true⟩ :: (Ap Ak E0.tp 3 ts cs).2
theorem AhU {b0 b1 : Iu} {ts : List Nat} {cs z0 z : List AV} {w o : Nat} {y : AV} {ys : List AV} {B : List Iu} {ts' : List Nat} {cs' : List AV} (hl : ts.length = cs.length) (ho : o = cs.length) (hw : z0.length = w) (hc : Ev y = some ys) (hy : ys.length = w)
  (hB : Ap Ak E0.tp (3 + (Ap Ak E0.tp 3 ts cs).2.length) ts' cs' = (ys, B)) (K : Ab → Option β) :
  Ej w (.ptr 2 o) y (Yp b0 b1 ts cs (z0 ++ z) ++ B) K = K (Yp b0 b1 (ts ++ ts') (cs ++ cs') z) := by
 have hP : (Ap Ak E0.tp 3 ts cs).1.length = cs.length := Hv _ _ _
 rw [Zz w 2 o y ⟨(Ap Ak E0.tp 3 ts cs).1 ++ (z0 ++ z), true, true⟩ ys _ _ rfl hc hy (by simp [hP, ho, hw]) rfl]
 congr 1
 have hs : Fh ((Ap Ak E0.tp 3 ts cs).1 ++ (z0 ++ z)) o ys = (Ap Ak E0.tp 3 ts cs).1 ++ (ys ++ z) := by
  rw [ho, ← hP]
  exact Rs _ _ _ _ (by rw [hw, hy])
 simp only [Yp, zaq, List.set_cons_succ, zbP, hs, Ig ts cs ts' cs' 3 hl, hB, zaf]
theorem Apv {b0 b1 : Iu} {ts : List Nat} {cs z z' : List AV} {o : Nat} {t : Nat} {v : Value} {c : AV} {K : Ab → Option β} {r : Option β} (hr : As (Yp b0 b1 ts cs z) 0 o 1 = some [.sc v]) (hv : Mz v = true) (hl : ts.length = cs.length) (ho : o = cs.length) (hz : z = c :: z')
  (h : K (Yp b0 b1 (ts ++ [t]) (cs ++ [.sc v]) z') = r) :
  (Dh o (.ptr 0 0) fun t4 => Bx false 1 t4 (Yp b0 b1 ts cs z) fun t5 => Dh o (.ptr 2 0) fun t6 => Ej 1 t6 t5 (Yp b0 b1 ts cs z) fun H => K H) = r := by
 subst hz
 simp only [Dh, za0]
 rw [ldF hr]
 have := AhU (β := β) (b0 := b0) (b1 := b1) (ts := ts) (cs := cs) (z0 := [c]) (z := z') (w := 1) (o := o) (y := .sc v) (ys := [.sc v]) (B := []) (ts' := [t]) (cs' := [.sc v]) hl ho rfl (by simp only [Ev, A2, hv, if_true]) rfl (by simp [Ap, Bk]) K
 rw [zam] at this
 exact this.trans h
theorem Apu {b0 b1 : Iu} {ts : List Nat} {cs z z' : List AV} {o t g len : Nat} {c : AV} {cells : List AV} {K : Ab → Option β} {r : Option β} (hr : As (Yp b0 b1 ts cs z) 0 o 1 = some [.ro len cells]) (hh : Ek g = false) (ht : Cb E0 n t g [.ro len cells] = some (.ro len cells)) (hl : ts.length = cs.length) (ho : o = cs.length) (hz : z = c :: z')
  (h : K (Yp b0 b1 (ts ++ [t]) (cs ++ [.ro len cells]) z') = r) :
  (Dh o (.ptr 0 0) fun t4 => Bx false 1 t4 (Yp b0 b1 ts cs z) fun t5 => (PR n β).call t (.fn g [] []) [t5] (Yp b0 b1 ts cs z) fun t9 H => Dh o (.ptr 2 0) fun t6 => Ej 1 t6 t9 H fun H => K H) = r := by
 subst hz
 simp only [Dh, za0]
 rw [ldF hr, Ha (vs := [.ro len cells]) hh (by simp only [zaI, Yj]; rfl) ht]
 have hH : (Yp b0 b1 ts cs (c :: z')).length = 3 + (Ap Ak E0.tp 3 ts cs).2.length := by simp [Yp]; omega
 rw [hH]
 have hi : ∀ N, ∃ s : AV, A2 s = true ∧ (Bk Ak E0.tp N t (.ro len cells)).1 = s ∧ Ev s = some [s] := fun N => by
  refine ⟨_, ?_, rfl, ?_⟩ <;> simp [Bk, A2, Ev]
 obtain ⟨s, _, hs, hc⟩ := hi (3 + (Ap Ak E0.tp 3 ts cs).2.length)
 have := AhU (β := β) (b0 := b0) (b1 := b1) (ts := ts) (cs := cs) (z0 := [c]) (z := z') (w := 1) (o := o) (y := s) (ys := [s]) (ts' := [t]) (cs' := [.ro len cells]) (B := (Bk Ak E0.tp (3 + (Ap Ak E0.tp 3 ts cs).2.length) t (.ro len cells)).2) hl ho rfl hc rfl (by simp only [Ap, List.headD_cons, zam, hs]) K
 rw [hs]
 exact this.trans h
theorem AnU {b0 : Iu} {z1 cells : List AV} {cty : List Nat} {w ty : Nat} (hw : cells.length = w) (hz : z1.length = w) (hfl : cells.all Lh = true) (hty : ∃ i, Ak ty = some i ∧ i.cty = cty) (hok : Fv (Hq Ak E0.tp 7) cty cells) :
  (Bx true w (.ptr 2 0) (Yp b0 ⟨z1, true, true⟩ cty cells []) fun t14 => Ej w (.ptr 1 0) t14 (Yp b0 ⟨z1, true, true⟩ cty cells []) fun H => Bx true w (.ptr 1 0) H fun r0 => A4 Ak E0.tp ty H r0) = some (.agg cells) := by
 obtain ⟨i, hi, rfl⟩ := hty
 have hlen := Hv (ti := Ak) (tp := E0.tp) 3 i.cty cells
 have hleaf := Ou (ti := Ak) (tp := E0.tp) cells 3 i.cty hfl
 have h1 : As (Yp b0 ⟨z1, true, true⟩ i.cty cells []) 2 0 w = some (Ap Ak E0.tp 3 i.cty cells).1 := by
  simp [As, Yp, hlen, hw, zbb]
 rw [ldT h1]
 have hc : Ev (.agg (Ap Ak E0.tp 3 i.cty cells).1) = some (Ap Ak E0.tp 3 i.cty cells).1 := by
  show (if _ then _ else none) = _
  rw [if_pos hleaf]
 rw [Zz w 1 0 _ ⟨z1, true, true⟩ _ _ _ rfl hc (by rw [hlen, hw]) (by simp [hz]) rfl]
 have hs : Fh z1 0 (Ap Ak E0.tp 3 i.cty cells).1 = (Ap Ak E0.tp 3 i.cty cells).1 := by
  unfold Fh
  rw [List.take_zero, zai, zbm (by rw [hlen, hw, hz]; omega), zam]
 simp only [hs]
 have h2 : As ((Yp b0 ⟨z1, true, true⟩ i.cty cells []).set 1 ⟨(Ap Ak E0.tp 3 i.cty cells).1, true, true⟩) 1 0 w = some (Ap Ak E0.tp 3 i.cty cells).1 := by
  simp [As, Yp, hlen, hw, zbb]
 rw [ldT h2]
 have hok' : Hq Ak E0.tp 8 ty (.agg cells) := ⟨i, hi, hok⟩
 have := AdT [b0, ⟨(Ap Ak E0.tp 3 i.cty cells).1, true, true⟩, ⟨(Ap Ak E0.tp 3 i.cty cells).1 ++ [], true, true⟩] ty _ hok'
 rw [Ke, hi] at this
 exact this
noncomputable def StB (T : List Nat) (C Z : List AV) (o : Nat) : Ab := Yp ⟨C, true, true⟩ ⟨Z, true, true⟩ (T.take o) (C.take o) (Z.drop o)
theorem AfP {T : List Nat} {C Z : List AV} {o p w : Nat} {cs : List AV} (h : (C.drop p).take w = cs) (hl : cs.length = w) (hw : 0 < w) : As (StB T C Z o) 0 p w = some cs := by
 have hle : p + w ≤ C.length := by
  have := congrArg List.length h
  rw [hl, zbc, zbB] at this
  omega
 show (match (some ⟨C, true, true⟩ : Option Iu) with | some b => if b.live then (if p + w ≤ b.cells.length then some ((b.cells.drop p).take w) else none) else none | none => none) = _
 simp only [if_true, hle, h]
theorem Aa2 {C : List AV} {o : Nat} {c : AV} (h : C[o]? = some c) : (C.drop o).take 1 = [c] := by
 obtain ⟨hlt, e⟩ := zac.1 h
 rw [zaD hlt, e]
 rfl
theorem AaB {α : Type} {T : List α} {o w o' : Nat} {c : List α} (h : (T.drop o).take w = c) (ho : o' = o + w) : T.take o' = T.take o ++ c := by
 rw [ho, List.take_add, h]
theorem Apr {T : List Nat} {C Z : List AV} {o o' : Nat} {v : Value} {K : Ab → Option β} {r : Option β} (hT : T.length = C.length) (hZ : Z.length = C.length) (hC : C[o]? = some (.sc v)) (hv : Mz v = true) (ho : o' = o + 1) (h : K (StB T C Z o') = r) :
  (Dh o (.ptr 0 0) fun t4 => Bx false 1 t4 (StB T C Z o) fun t5 => Dh o (.ptr 2 0) fun t6 => Ej 1 t6 t5 (StB T C Z o) fun H => K H) = r := by
 obtain ⟨hlt, _⟩ := zac.1 hC
 have hz : Z.drop o = Z[o]'(by omega) :: Z.drop o' := by rw [ho]; exact zaD _
 refine Apv (t := T[o]'(by omega)) (z' := Z.drop o') (AfP (Aa2 hC) rfl (by decide)) hv (by simp [hT]) (by simp; omega) hz ?_
 have e1 : T.take o' = T.take o ++ [T[o]'(by omega)] := AaB (w := 1) (by rw [zaD (by omega)]; rfl) ho
 have e2 : C.take o' = C.take o ++ [.sc v] := AaB (Aa2 hC) ho
 rw [← e1, ← e2]
 exact h
theorem Apq {T : List Nat} {C Z : List AV} {o o' t g len : Nat} {cells : List AV} {K : Ab → Option β} {r : Option β} (hT : T.length = C.length) (hZ : Z.length = C.length) (hC : C[o]? = some (.ro len cells)) (hTt : T[o]? = some t) (hh : Ek g = false) (ht : Cb E0 n t g [.ro len cells] = some (.ro len cells)) (ho : o' = o + 1) (h : K (StB T C Z o') = r) :
  (Dh o (.ptr 0 0) fun t4 => Bx false 1 t4 (StB T C Z o) fun t5 => (PR n β).call t (.fn g [] []) [t5] (StB T C Z o) fun t9 H => Dh o (.ptr 2 0) fun t6 => Ej 1 t6 t9 H fun H => K H) = r := by
 obtain ⟨hlt, _⟩ := zac.1 hC
 obtain ⟨hlt2, hTe⟩ := zac.1 hTt
 have hz : Z.drop o = Z[o]'(by omega) :: Z.drop o' := by rw [ho]; exact zaD _
 refine Apu (z' := Z.drop o') (AfP (Aa2 hC) rfl (by decide)) hh ht (by simp [hT]) (by simp; omega) hz ?_
 have e1 : T.take o' = T.take o ++ [t] := AaB (w := 1) (by rw [zaD hlt2, hTe]; rfl) ho
 have e2 : C.take o' = C.take o ++ [.ro len cells] := AaB (Aa2 hC) ho
 rw [← e1, ← e2]
 exact h
theorem AnQ {T : List Nat} {C Z : List AV} {w ty : Nat} (hT : T.length = C.length) (hZ : Z.length = C.length) (hw : C.length = w) (hfl : C.all Lh = true) (hty : ∃ i, Ak ty = some i ∧ i.cty = T) (hok : Fv (Hq Ak E0.tp 7) T C) :
  (Bx true w (.ptr 2 0) (StB T C Z w) fun t14 => Ej w (.ptr 1 0) t14 (StB T C Z w) fun H => Bx true w (.ptr 1 0) H fun r0 => A4 Ak E0.tp ty H r0) = some (.agg C) := by
 have e : StB T C Z w = Yp ⟨C, true, true⟩ ⟨Z, true, true⟩ T C [] := by
  unfold StB
  rw [zbb (by omega), zbb (by omega), zbm (by omega)]
 rw [e]
 exact AnU hw (by omega) hfl hty hok
theorem Nq {o : Nat} {H : Ab} {v : Value} {A K r : Option β} (h0 : As H 0 o 1 = some [.sc v]) (h1 : As H 1 o 1 = some [.sc v]) (hv : ∀ k : AV → Option β, Bz .neq (.sc v) (.sc v) k = k (.sc (.bool false))) (h : K = r) :
  (Dh o (.ptr 0 0) fun t5 => Bx false 1 t5 H fun t6 => Dh o (.ptr 1 0) fun t7 => Bx false 1 t7 H fun t8 => Bz .neq t6 t8 fun t9 => C8 t9 A K) = r := by
 simp only [Dh, za0]
 rw [ldF h0, ldF h1, hv, C1]
 exact h
theorem Aad {o : Nat} {H : Ab} {b : Bool} {A K r : Option β} (h0 : As H 0 o 1 = some [.sc (.bool b)]) (h1 : As H 1 o 1 = some [.sc (.bool b)]) (h : K = r) :
  (Dh o (.ptr 0 0) fun t5 => Bx false 1 t5 H fun t6 => Dh o (.ptr 1 0) fun t7 => Bx false 1 t7 H fun t8 => Nw .neq t6 t8 fun t9 => C8 t9 A K) = r := by
 simp only [Dh, za0]
 rw [ldF h0, ldF h1]
 simp only [Nw, asB, zad, binB, beq_self_eq_true, zau]
 exact h
theorem V6 {o tb g : Nat} {H : Ab} {len : Nat} {cells : List AV} {A : Ab → Option β} {K : Ab → Option β} {r : Option β} (h0 : As H 0 o 1 = some [.ro len cells]) (h1 : As H 1 o 1 = some [.ro len cells]) (hh : Ek g = false) (ht : Cb E0 n tb g [.ro len cells, .ro len cells] = some (.sc (.bool true))) (h : K H = r) :
  (Dh o (.ptr 0 0) fun t5 => Bx false 1 t5 H fun t6 => Dh o (.ptr 1 0) fun t7 => Bx false 1 t7 H fun t8 => (PR n β).call tb (.fn g [] []) [t6, t8] H fun t H => pUn .not t fun t9 => C8 t9 (A H) (K H)) = r := by
 simp only [Dh, za0]
 rw [ldF h0, ldF h1, Ha (vs := [.ro len cells, .ro len cells]) hh (by simp only [zaI, Yj]; rfl) ht, F8, zam]
 exact h
theorem Oy (z : Int) (k : AV → Option β) : Bz .neq (.sc (.int .i64 z)) (.sc (.int .i64 z)) k = k (.sc (.bool false)) := by
 show k (.sc (.bool (z != z))) = _
 rw [bne_self_eq_false]
theorem Tq (s : ByteArray) (k : AV → Option β) : Bz .neq (.sc (.string s)) (.sc (.string s)) k = k (.sc (.bool false)) := by
 show k (.sc (.bool (!(s.toList == s.toList)))) = _
 rw [beq_self_eq_true, zau]
theorem AoZ (z : Int) (k : AV → Option β) : Bz .neq (.sc (.int .u8 z)) (.sc (.int .u8 z)) k = k (.sc (.bool false)) := by
 show k (.sc (.bool (z != z))) = _
 rw [bne_self_eq_false]
def szA (W : Nat) (left : Int) : Option AV := some (.sc (.int .i64 (Yc W left)))
theorem Als {s W : Nat} {left : Int} (h : left < s) : Yc (s + W) left = -1 := by rw [Yc, if_pos]; omega
theorem AnR {s W : Nat} {left : Int} (h : ¬ left < s) : Yc (s + W) left = Yc W (left - s) := by
 unfold Yc
 by_cases h2 : left < ((s + W : Nat) : Int)
 ·rw [if_pos h2, if_pos (by omega)]
 ·rw [if_neg h2, if_neg (by omega)]; omega
theorem Aps {o ty g : Nat} {H : Ab} {len : Nat} {cells : List AV} {w W : Nat} {left : Int} {A : Ab → Option AV} {K : AV → Ab → Option AV} (hr : As H 0 o 1 = some [.ro len cells]) (h0 : 0 ≤ left) (h1 : left ≤ 1048576) (hh : Ek g = false) (ht : Cb E0 n ty g [.ro len cells, .sc (.int .i64 left)] = some (.sc (.int .i64 (Yc w left)))) (hA : A H = some (.sc (.int .i64 (-1)))) (hK : 0 ≤ left - w → left - w ≤ 1048576 → K (.sc (.int .i64 (left - w))) H = szA W (left - w)) :
  (Dh o (.ptr 0 0) fun t6 => Bx false 1 t6 H fun t7 => (PR n AV).call ty (.fn g [] []) [t7, .sc (.int .i64 left)] H fun t15 H => Bz .lss t15 (.sc (.int .i64 0)) fun t11 => C8 t11 (A H) (K t15 H)) = szA (w + W) left := by
 simp only [Dh, za0]
 rw [ldF hr, Ha (vs := [.ro len cells, .sc (.int .i64 left)]) hh (by simp only [zaI, Yj, AiY]; rfl) ht, F8, zam]
 simp only
 rw [Ns, C1]
 by_cases h : left < w
 ·have e : Yc w left = -1 := by rw [Yc, if_pos h]
  rw [e, if_pos (by decide), hA, szA, Als h]
 ·have e : Yc w left = left - w := by rw [Yc, if_neg h]
  rw [e, if_neg (by simpa using (show ¬ left - (w : Int) < 0 by omega)), hK (by omega) (by omega), szA, szA, AnR h]
theorem AnS {left : Int} (h0 : 0 ≤ left) : some (AV.sc (.int .i64 left)) = szA 0 left := by
 rw [szA, Yc, if_neg (by omega)]
 simp
abbrev Ae (s : ByteArray) : AV := .ro s.size (Ba s)
abbrev Ey (l : List Int) : AV := .ro l.length (l.map fun z => .sc (.int .i64 z))
abbrev Et (l : List ByteArray) : AV := .ro l.length (l.map fun s => .sc (.string s))
abbrev Bl {α : Type} (enc : α → List AV) (l : List α) : AV := .ro l.length (l.map enc).flatten
def okS (s : ByteArray) : Prop := s.size ≤ 9223372036854775807
theorem Zp {f : Nat → AV → Prop} {α : Type} (e : α → Value) (hf : ∀ t v, f t (.sc v)) : ∀ (ts : List Nat) (l : List α), ts.length = l.length → Fv f ts (l.map fun x => .sc (e x))
 | [], [], _ => trivial
 | t :: ts, x :: l, h => ⟨hf _ _, Zp e hf ts l (by simpa using h)⟩
 | [], _ :: _, h => by simp at h
 | _ :: _, [], h => by simp at h
theorem Me {α : Type} {ty d : Nat} (e : α → Value) (hty : ∃ i j, Ak ty = some i ∧ Ak i.elem = some j ∧ j.size = 1 ∧ j.cty.length = 1) (l : List α) : Hq Ak E0.tp (d + 2) ty (.ro l.length (l.map fun x => .sc (e x))) := by
 obtain ⟨i, j, h1, h2, h3, h4⟩ := hty
 exact ⟨i, j, h1, h2, by simp [h3], Zp e (fun _ _ => trivial) _ l (by simp [h4])⟩
theorem G4 {d ty : Nat} (hty : ∃ i j, Ak ty = some i ∧ Ak i.elem = some j ∧ j.size = 1 ∧ j.cty.length = 1) (s : ByteArray) : Hq Ak E0.tp (d + 2) ty (Ae s) := by
 have := Me (d := d) (fun b : UInt8 => .int .u8 b.toNat) hty s.data.toList
 have e : s.data.toList.length = s.size := by simp
 rw [e] at this
 exact this
theorem Hr {α : Type} {ty d w : Nat} {cty : List Nat} {enc : α → List AV} (hw : ∀ x, (enc x).length = w) (hty : ∃ i j, Ak ty = some i ∧ Ak i.elem = some j ∧ j.size = w ∧ j.cty = cty) (he : ∀ x, Fv (Hq Ak E0.tp d) cty (enc x)) (l : List α) : Hq Ak E0.tp (d + 1) ty (Bl enc l) := by
 obtain ⟨i, j, h1, h2, h3, rfl⟩ := hty
 exact ⟨i, j, h1, h2, by rw [Xz hw, h3], Ts l fun x _ => he x⟩
theorem Ai5 {α : Type} {enc : α → List AV} {ok : α → Prop} {n t e : Nat} {cs : List AV} (hi : ∃ i, Ak t = some i ∧ i.isB = false ∧ i.ik = none ∧ i.isStr = false ∧ i.sl = true ∧ i.elem = e) (hel : ∀ n cs, okT Ak n e cs → ∃ x, cs = enc x ∧ ok x) (h : okT Ak n t cs) :
  ∃ l : List α, cs = [Bl enc l] ∧ l.length ≤ 9223372036854775807 ∧ ∀ x ∈ l, ok x := by
 cases n with
 | zero => cases h
 | succ n =>
  obtain ⟨i, h1, h2, h3, h4, h5, rfl⟩ := hi
  obtain ⟨i', hi', h⟩ := h
  rw [h1] at hi'
  obtain rfl := Option.some.inj hi'
  simp only [h2, h3, h4, h5] at h
  obtain ⟨rows, rfl, hl, hr⟩ := h
  have hm : maxLen = 9223372036854775807 := by decide
  rw [hm] at hl
  have key : ∀ rows : List (List AV), (∀ r ∈ rows, okT Ak n i.elem r) → ∃ l : List α, rows = l.map enc ∧ ∀ x ∈ l, ok x := by
   intro rows
   induction rows with
   | nil => intro _; exact ⟨[], rfl, fun x h => by cases h⟩
   | cons r rows ih =>
    intro h
    obtain ⟨l, h1, h2⟩ := ih fun r hr => h r (zav _ hr)
    obtain ⟨x, hx, hox⟩ := hel n r (h r za1)
    exact ⟨x :: l, by rw [h1, hx]; rfl, fun y hy => by rcases zb9.1 hy with rfl | hy; exact hox; exact h2 y hy⟩
  obtain ⟨l, rfl, h2⟩ := key rows hr
  exact ⟨l, by simp, by simpa using hl, h2⟩
theorem Af7 {n : Nat} {cs : List AV} (h : okT Ak n 4 cs) : ∃ b : Bool, cs = [.sc (.bool b)] := by
 cases n with
 | zero => cases h
 | succ n =>
  obtain ⟨i, hi, h⟩ := h
  obtain rfl := Option.some.inj (show some _ = some i from hi)
  exact h
theorem Af8 {n : Nat} {cs : List AV} (h : okT Ak n 5 cs) : ∃ b : UInt8, cs = [.sc (.int .u8 b.toNat)] := by
 cases n with
 | zero => cases h
 | succ n =>
  obtain ⟨i, hi, h⟩ := h
  obtain rfl := Option.some.inj (show some _ = some i from hi)
  obtain ⟨z, rfl, hw⟩ := (show ∃ z, cs = [.sc (.int .u8 z)] ∧ (Lit.int .u8 z).wf = true from h)
  have hz : 0 ≤ z ∧ z < 256 := by
   have hw' : IntKind.u8.min ≤ z ∧ z ≤ IntKind.u8.max := by simpa [Lit.wf] using hw
   have e1 : IntKind.u8.min = 0 := by decide
   have e2 : IntKind.u8.max = 255 := by decide
   rw [e1, e2] at hw'
   omega
  refine ⟨UInt8.ofNat z.toNat, ?_⟩
  have : (UInt8.ofNat z.toNat).toNat = z.toNat := by simp [UInt8.toNat_ofNat']; omega
  rw [this, Int.toNat_of_nonneg hz.1]
theorem Sb {α : Type} (e : α → AV) (l : List α) : (l.map fun x => [e x]).flatten = l.map e := by
 induction l with
 | nil => rfl
 | cons x l ih => rw [zat, za3, ih]; rfl
theorem Xj {n t : Nat} {cs : List AV} (hi : ∃ i, Ak t = some i ∧ i.isB = false ∧ i.ik = none ∧ i.isStr = false ∧ i.sl = true ∧ i.elem = 5) (h : okT Ak n t cs) : ∃ s : ByteArray, cs = [Ae s] ∧ okS s := by
 obtain ⟨l, rfl, h1, _⟩ := Ai5 (α := UInt8) (enc := fun b => [.sc (.int .u8 b.toNat)]) (ok := fun _ => True) hi (fun n cs h => by obtain ⟨b, h⟩ := Af8 h; exact ⟨b, h, trivial⟩) h
 refine ⟨⟨l.toArray⟩, ?_, ?_⟩
 ·rw [Bl, Sb]
  simp [Ae, Ba]
  rfl
 ·exact h1
theorem AcP {n t : Nat} {cs : List AV} {fs : List (Nat × Nat)} (hi : ∃ i, Ak t = some i ∧ i.isB = false ∧ i.ik = none ∧ i.isStr = false ∧ i.sl = false ∧ i.isAgg = true ∧ i.fields = fs) (h : okT Ak n t cs) : ∃ m, Ai4 (okT Ak m) fs cs := by
 cases n with
 | zero => cases h
 | succ n =>
  obtain ⟨i, h1, h2, h3, h4, h5, h6, rfl⟩ := hi
  obtain ⟨i', hi', h⟩ := h
  rw [h1] at hi'
  obtain rfl := Option.some.inj hi'
  simp only [h2, h3, h4, h5, h6] at h
  exact ⟨n, h⟩
end
section
open Go
theorem Ja : ∃ i j, Ak 22 = some i ∧ Ak i.elem = some j ∧ j.size = 1 ∧ j.cty.length = 1 := ⟨_, _, rfl, rfl, rfl, rfl⟩
theorem N1 (n : Nat) (hn : 1048576 < n) (s : ByteArray) (h : s.size ≤ 1048576) : Cb E0 (n + 1) 22 32 [Ae s] = some (Ae s) := by
 have e : s.data.toList.length = s.size := by simp
 have h0 := Alt (n := n) (bytes := 1) (fun b : UInt8 => .int .u8 b.toNat) (.sc (.int .u8 0)) (fun _ => rfl) Ja (fun k => Wf (PR n AV) n k) (fun k m a o i H => rfl) (fun a H k => AmE n a H k) (by decide) s.data.toList (by rw [e]; exact h) hn
 rw [e] at h0
 exact h0
theorem Np (n : Nat) (hn : 1048576 < n) (tb : Nat) (s : ByteArray) (h : s.size ≤ 1048576) : Cb E0 (n + 1) tb 35 [Ae s, Ae s] = some (.sc (.bool true)) := by
 have e : s.data.toList.length = s.size := by simp
 have h0 := Aae (n := n) (fun b : UInt8 => .int .u8 b.toNat) (fun x γ k => AoZ _ k) (fun k => Wg (PR n AV) n k) (fun k m a b i H => rfl) (fun a b H k => AmH n a b H k) s.data.toList (by rw [e]; exact h) hn tb
 rw [e] at h0
 exact h0
theorem AfH (n : Nat) (ty : Nat) (s : ByteArray) (hmax : s.size ≤ 9223372036854775807) (left : Int) (h0 : 0 ≤ left) (h1 : left ≤ 1048576) : Cb E0 (n + 1) ty 47 [Ae s, .sc (.int .i64 left)] = some (.sc (.int .i64 (Yc s.size left))) :=
 AnT (n := n) (fun a b H k => AmL n a b H k) s.size _ hmax left h0 h1 ty
theorem Adb : ∃ i j, Ak 57 = some i ∧ Ak i.elem = some j ∧ j.size = 1 ∧ j.cty.length = 1 := ⟨_, _, rfl, rfl, rfl, rfl⟩
theorem Agh (n : Nat) (hn : 1048576 < n) (tb : Nat) (s : List Int) (h : s.length ≤ 1048576) : Cb E0 (n + 1) tb 75 [Ey s, Ey s] = some (.sc (.bool true)) :=
 Aae (n := n) (fun z : Int => .int .i64 z) (fun x γ k => Oy _ k) (fun k => Ws (PR n AV) n k) (fun k m a b i H => rfl) (fun a b H k => Ank n a b H k) s h hn tb
theorem T3 : ∃ i j, Ak 56 = some i ∧ Ak i.elem = some j ∧ j.size = 1 ∧ j.cty.length = 1 := ⟨_, _, rfl, rfl, rfl, rfl⟩
theorem AaZ (n : Nat) (hn : 1048576 < n) (tb : Nat) (s : List ByteArray) (h : s.length ≤ 1048576) : Cb E0 (n + 1) tb 74 [Et s, Et s] = some (.sc (.bool true)) :=
 Aae (n := n) (fun s : ByteArray => .string s) (fun x γ k => Tq _ k) (fun k => Wr (PR n AV) n k) (fun k m a b i H => rfl) (fun a b H k => Anj n a b H k) s h hn tb
structure WantV where
 fFilter : ByteArray
 fQos : Int
def Bu (x : WantV) : List AV := .sc (.string x.fFilter) :: .sc (.int .i64 x.fQos) :: []
def It (x : WantV) : Nat := x.fFilter.size + 0
theorem Gy (x : WantV) : (Bu x).length = 2 := rfl
theorem Wu (x : WantV) : (Bu x).all Lh = true := rfl
def Aac : List Nat := [9, 3]
theorem Aa0 (d : Nat) (x : WantV) : Fv (Hq Ak E0.tp (d + 1)) Aac (Bu x) := ⟨trivial, ⟨trivial, trivial⟩⟩
theorem Alu : ∃ i j, Ak 55 = some i ∧ Ak i.elem = some j ∧ j.size = 2 ∧ j.cty = Aac := ⟨_, _, rfl, rfl, rfl, rfl⟩
theorem Agi (n : Nat) (hn : 1048576 < n) (tb : Nat) (x : WantV) (h : It x ≤ 1048576) : Cb E0 (n + 1) tb 114 [.agg (Bu x), .agg (Bu x)] = some (.sc (.bool true)) := by
 rw [At, Aj6, f114]
 simp only [Kw, Hy, Gb, Eu, Id, Pe, D6]
 rw [M5 _ _ _ (Wu x), M5 _ _ _ (Wu x)]
 simp only [zax, zai, zan, zaq, za0, Nat.reduceAdd]
 refine Nq (v := .string x.fFilter) rfl rfl (fun k => Tq _ k) ?_
 refine Nq (v := .int .i64 x.fQos) rfl rfl (fun k => Oy _ k) ?_
 rfl
theorem Aeo (n : Nat) (hn : 1048576 < n) (tb : Nat) (l : List WantV) (h : Pa It l ≤ 1048576) : Cb E0 (n + 2) tb 73 [Bl Bu l, Bl Bu l] = some (.sc (.bool true)) := by
 have e := Qj It l
 exact Aba (n := n + 1) Bu Gy (by decide) Wu rfl (fun k => Wq (PR (n + 1) AV) (n + 1) k) (fun k m a b i H => rfl) (fun a b H k => Ani (n + 1) a b H k) l (fun x hx => Agi n hn _ x (by have := Vm (wt := It) hx; omega)) (by omega) (by omega) tb
structure PacketV where
 fType : Int
 fDup : Bool
 fQos : Int
 fRetain : Bool
 fId : Int
 fTopic : ByteArray
 fBody : ByteArray
 fClient : ByteArray
 fLevel : Int
 fClean : Bool
 fKeep : Int
 fHasWill : Bool
 fWTopic : ByteArray
 fWBody : ByteArray
 fWQos : Int
 fWRetain : Bool
 fHasUser : Bool
 fUser : ByteArray
 fHasPass : Bool
 fPass : ByteArray
 fCode : Int
 fPresent : Bool
 fWants : List WantV
 fNames : List ByteArray
 fCodes : List Int
def Ag (x : PacketV) : List AV := .sc (.int .i64 x.fType) :: .sc (.bool x.fDup) :: .sc (.int .i64 x.fQos) :: .sc (.bool x.fRetain) :: .sc (.int .i64 x.fId) :: .sc (.string x.fTopic) :: Ae x.fBody :: .sc (.string x.fClient) :: .sc (.int .i64 x.fLevel) :: .sc (.bool x.fClean) :: .sc (.int .i64 x.fKeep) :: .sc (.bool x.fHasWill) :: .sc (.string x.fWTopic) :: Ae x.fWBody :: .sc (.int .i64 x.fWQos) :: .sc (.bool x.fWRetain) :: .sc (.bool x.fHasUser) :: .sc (.string x.fUser) :: .sc (.bool x.fHasPass) :: Ae x.fPass :: .sc (.int .i64 x.fCode) :: .sc (.bool x.fPresent) :: Bl Bu x.fWants :: Et x.fNames :: Ey x.fCodes :: []
def Cf (x : PacketV) : Nat := x.fTopic.size + (x.fBody.size + (x.fClient.size + (x.fWTopic.size + (x.fWBody.size + (x.fUser.size + (x.fPass.size + (Pa It x.fWants + (Pa zbx x.fNames + (x.fCodes.length + 0)))))))))
theorem Gi (x : PacketV) : (Ag x).length = 25 := rfl
theorem Dg (x : PacketV) : (Ag x).all Lh = true := rfl
def Qm : List Nat := [3, 4, 3, 4, 3, 9, 22, 9, 3, 4, 3, 4, 9, 22, 3, 4, 4, 9, 4, 22, 3, 4, 55, 56, 57]
theorem Ij (d : Nat) (x : PacketV) : Fv (Hq Ak E0.tp (d + 2)) Qm (Ag x) := ⟨trivial, ⟨trivial, ⟨trivial, ⟨trivial, ⟨trivial, ⟨trivial, ⟨G4 (d := d + 0) Ja x.fBody, ⟨trivial, ⟨trivial, ⟨trivial, ⟨trivial, ⟨trivial, ⟨trivial, ⟨G4 (d := d + 0) Ja x.fWBody, ⟨trivial, ⟨trivial, ⟨trivial, ⟨trivial, ⟨trivial, ⟨G4 (d := d + 0) Ja x.fPass, ⟨trivial, ⟨trivial, ⟨Hr (d := d + 1) Gy Alu (Aa0 (d + 0)) x.fWants, ⟨Me (d := d + 0) (fun s : ByteArray => .string s) T3 x.fNames, ⟨Me (d := d + 0) (fun z : Int => .int .i64 z) Adb x.fCodes, trivial⟩⟩⟩⟩⟩⟩⟩⟩⟩⟩⟩⟩⟩⟩⟩⟩⟩⟩⟩⟩⟩⟩⟩⟩⟩
theorem Jm : ∃ i j, Ak 33 = some i ∧ Ak i.elem = some j ∧ j.size = 25 ∧ j.cty = Qm := ⟨_, _, rfl, rfl, rfl, rfl⟩
theorem Aco (n : Nat) (hn : 1048576 < n) (tb : Nat) (x : PacketV) (h : Cf x ≤ 1048576) : Cb E0 (n + 3) tb 34 [.agg (Ag x), .agg (Ag x)] = some (.sc (.bool true)) := by
 rw [At, AmG, f34]
 simp only [Kw, Hy, Gb, Eu, Id, Pe, D6]
 rw [M5 _ _ _ (Dg x), M5 _ _ _ (Dg x)]
 simp only [zax, zai, zan, zaq, za0, Nat.reduceAdd]
 refine Nq (v := .int .i64 x.fType) rfl rfl (fun k => Oy _ k) ?_
 refine Aad (b := x.fDup) rfl rfl ?_
 refine Nq (v := .int .i64 x.fQos) rfl rfl (fun k => Oy _ k) ?_
 refine Aad (b := x.fRetain) rfl rfl ?_
 refine Nq (v := .int .i64 x.fId) rfl rfl (fun k => Oy _ k) ?_
 refine Nq (v := .string x.fTopic) rfl rfl (fun k => Tq _ k) ?_
 refine V6 rfl rfl rfl (Np (n + 1) (by omega) _ x.fBody (by unfold Cf at h; omega)) ?_
 refine Nq (v := .string x.fClient) rfl rfl (fun k => Tq _ k) ?_
 refine Nq (v := .int .i64 x.fLevel) rfl rfl (fun k => Oy _ k) ?_
 refine Aad (b := x.fClean) rfl rfl ?_
 refine Nq (v := .int .i64 x.fKeep) rfl rfl (fun k => Oy _ k) ?_
 refine Aad (b := x.fHasWill) rfl rfl ?_
 refine Nq (v := .string x.fWTopic) rfl rfl (fun k => Tq _ k) ?_
 refine V6 rfl rfl rfl (Np (n + 1) (by omega) _ x.fWBody (by unfold Cf at h; omega)) ?_
 refine Nq (v := .int .i64 x.fWQos) rfl rfl (fun k => Oy _ k) ?_
 refine Aad (b := x.fWRetain) rfl rfl ?_
 refine Aad (b := x.fHasUser) rfl rfl ?_
 refine Nq (v := .string x.fUser) rfl rfl (fun k => Tq _ k) ?_
 refine Aad (b := x.fHasPass) rfl rfl ?_
 refine V6 rfl rfl rfl (Np (n + 1) (by omega) _ x.fPass (by unfold Cf at h; omega)) ?_
 refine Nq (v := .int .i64 x.fCode) rfl rfl (fun k => Oy _ k) ?_
 refine Aad (b := x.fPresent) rfl rfl ?_
 refine V6 rfl rfl rfl (Aeo (n + 0) (by omega) _ x.fWants (by unfold Cf at h; omega)) ?_
 refine V6 rfl rfl rfl (AaZ (n + 1) (by omega) _ x.fNames (by unfold Cf at h; have := Qj zbx x.fNames; omega)) ?_
 refine V6 rfl rfl rfl (Agh (n + 1) (by omega) _ x.fCodes (by unfold Cf at h; omega)) ?_
 rfl
theorem Pn (n : Nat) (hn : 1048576 < n) (tb : Nat) (l : List PacketV) (h : Pa Cf l ≤ 1048576) : Cb E0 (n + 4) tb 22 [Bl Ag l, Bl Ag l] = some (.sc (.bool true)) := by
 have e := Qj Cf l
 exact Aba (n := n + 3) Ag Gi (by decide) Dg rfl (fun k => Wc (PR (n + 3) AV) (n + 3) k) (fun k m a b i H => rfl) (fun a b H k => Am6 (n + 3) a b H k) l (fun x hx => Aco n hn _ x (by have := Vm (wt := Cf) hx; omega)) (by omega) (by omega) tb
structure G9 where
 fHeld : ByteArray
 fBad : Bool
def Bf (x : G9) : List AV := Ae x.fHeld :: .sc (.bool x.fBad) :: []
def Ip (x : G9) : Nat := x.fHeld.size + 0
def Ab1 (x : G9) : Prop := okS x.fHeld ∧ True
theorem Gs (x : G9) : (Bf x).length = 2 := rfl
theorem G2 (x : G9) : (Bf x).all Lh = true := rfl
def V1 : List Nat := [22, 4]
theorem Ux : ∃ i, Ak 32 = some i ∧ i.cty = V1 := ⟨_, rfl, rfl⟩
theorem Ju (d : Nat) (x : G9) : Fv (Hq Ak E0.tp (d + 2)) V1 (Bf x) := ⟨G4 (d := d + 0) Ja x.fHeld, ⟨trivial, trivial⟩⟩
theorem AkW {n : Nat} {cs : List AV} (h : okT Ak n 24 cs) : ∃ x : G9, cs = Bf x ∧ Ab1 x := by
 obtain ⟨m, hf⟩ := AcP (fs := [(0, 22), (1, 4)]) ⟨_, rfl, rfl, rfl, rfl, rfl, rfl, rfl⟩ h
 obtain ⟨a0, b0, rfl, h0, hf⟩ := hf
 obtain ⟨v0, rfl, k0⟩ := Xj ⟨_, rfl, rfl, rfl, rfl, rfl, rfl⟩ h0
 obtain ⟨a1, b1, rfl, h1, hf⟩ := hf
 obtain ⟨v1, rfl⟩ := Af7 h1
 subst hf
 exact ⟨⟨v0, v1⟩, rfl, k0, trivial⟩
def Apw : List AV := [.nl, (.sc (.bool false))]
theorem Vj (n : Nat) (hn : 1048576 < n) (x : G9) (h : Ip x ≤ 1048576) : Cb E0 (n + 2) 32 18 [.agg (Bf x)] = some (.agg (Bf x)) := by
 rw [At, Am4, f18]
 simp only [Kw, Pd, Hy, Gb, Km, Xw]
 rw [M5 _ _ _ (G2 x)]
 simp only [zax, zai, zan, zaq, za0, Nat.reduceAdd]
 refine Apq (T := V1) (C := Bf x) (Z := Apw) (o' := 1) rfl rfl rfl rfl rfl (N1 (n + 0) (by omega) x.fHeld (by unfold Ip at h; omega)) rfl ?_
 refine Apr (v := .bool x.fBad) (o' := 2) rfl rfl rfl rfl rfl ?_
 exact AnQ rfl rfl rfl (G2 x) Ux (Ju 5 x)
theorem U7 (n : Nat) (hn : 1048576 < n) (tb : Nat) (x : G9) (h : Ip x ≤ 1048576) : Cb E0 (n + 2) tb 21 [.agg (Bf x), .agg (Bf x)] = some (.sc (.bool true)) := by
 rw [At, Am5, f21]
 simp only [Kw, Hy, Gb, Eu, Id, Pe, D6]
 rw [M5 _ _ _ (G2 x), M5 _ _ _ (G2 x)]
 simp only [zax, zai, zan, zaq, za0, Nat.reduceAdd]
 refine V6 rfl rfl rfl (Np (n + 0) (by omega) _ x.fHeld (by unfold Ip at h; omega)) ?_
 refine Aad (b := x.fBad) rfl rfl ?_
 rfl
theorem Alr (n : Nat) (hn : 1048576 < n) (ty : Nat) (x : G9) (hx : Ab1 x) (left : Int) (h0 : 0 ≤ left) (h1 : left ≤ 1048576) : Cb E0 (n + 2) ty 15 [.agg (Bf x), .sc (.int .i64 left)] = szA (Ip x) left := by
 obtain ⟨k0, _⟩ := hx
 unfold Ip
 rw [At, Am3, f15]
 simp only [Kw, Hy, Gb, Hz, Eu, D6]
 rw [M5 _ _ _ (G2 x)]
 simp only [zax, zai, zan, zaq, za0, Nat.reduceAdd]
 refine Aps rfl h0 h1 rfl (AfH (n + 0) _ x.fHeld k0 _ h0 h1) rfl fun h0 h1 => ?_
 exact AnS h0
end
section
open Go
variable {β : Type} {n : Nat} {H : Ab} {r : Option β}
theorem G7 : ([] : List AV).mapM (C5 H 8) = some [] := rfl
theorem Co {x v : AV} {xs vs : List AV} (h : Vw H x v) (hs : xs.mapM (C5 H 8) = some vs) : (x :: xs).mapM (C5 H 8) = some (v :: vs) := by
 simp only [zaI, h.now, hs, zbh, zaP, zad]
theorem Cm {i : Nat} {b : Iu} (h : H[i]? = some b) (X : List Iu) : (H ++ X)[i]? = some b := by
 rw [zal (zac.1 h).1]
 exact h
theorem Kp {i w : Nat} {cs : List AV} {K : AV → Option β} (hi : H[i]? = some ⟨cs, true, true⟩) (hw : cs.length = w) (h : K (.agg cs) = r) : Bx true w (.ptr i 0) H (fun x => K x) = r := by
 have e : As H i 0 w = some cs := by
  simp only [As, hi, if_true, zaN, za0, ← hw, zao, zaJ]
 rw [ldT e]
 exact h
theorem Ma {ty f : Nat} {args vs : List AV} {v : Value} {K : KO β} (hh : Ek f = false) (hv : args.mapM (C5 H 8) = some vs) (ht : Cb E0 n ty f vs = some (.sc v)) (h : K (.sc v) H = r) : (PR n β).call ty (.fn f [] []) args H (fun x H => K x H) = r := by
 rw [Ha hh hv ht, F8, zam]
 exact h
theorem AoX {ty f W : Nat} {args vs : List AV} {left : Int} {A : Ab → Option β} {K : KO β} (hh : Ek f = false) (hv : args.mapM (C5 H 8) = some vs) (ht : Cb E0 n ty f vs = some (.sc (.int .i64 (Yc W left)))) (h0 : 0 ≤ left) (hA : A H = r) (h : (W : Int) ≤ left → K (.sc (.int .i64 (left - W))) H = r) :
  (PR n β).call ty (.fn f [] []) args H (fun t H => Bz .lss t (.sc (.int .i64 0)) fun t' => C8 t' (A H) (K t H)) = r := by
 rw [Ha hh hv ht, F8, zam]
 simp only
 rw [Ns, C1]
 by_cases hw : left < W
 ·have e : Yc W left = -1 := by rw [Yc, if_pos hw]
  rw [e, if_pos (by decide)]
  exact hA
 ·have e : Yc W left = left - W := by rw [Yc, if_neg hw]
  rw [e, if_neg (by simpa using (show ¬ left - (W : Int) < 0 by omega))]
  exact h (by omega)
theorem Al5 (a b : Int) (k : AV → Option β) : Bz .eql (.sc (.int .i64 a)) (.sc (.int .i64 b)) k = k (.sc (.bool (a == b))) := rfl
theorem Ama (a b : Int) (k : AV → Option β) : Bz .neq (.sc (.int .i64 a)) (.sc (.int .i64 b)) k = k (.sc (.bool (a != b))) := rfl
theorem Zi (a b : Int) (k : AV → Option β) : Bz .leq (.sc (.int .i64 a)) (.sc (.int .i64 b)) k = k (.sc (.bool (decide (a ≤ b)))) := rfl
theorem AlX (a b : Int) (k : AV → Option β) : Bz .gtr (.sc (.int .i64 a)) (.sc (.int .i64 b)) k = k (.sc (.bool (decide (a > b)))) := rfl
theorem Adi (a b : Int) (k : AV → Option β) : Bz .add (.sc (.int .i64 a)) (.sc (.int .i64 b)) k = k (.sc (.int .i64 (IntKind.i64.wrap (a + b)))) := rfl
theorem AoY (a b : Int) (k : AV → Option β) : Bz .mul (.sc (.int .i64 a)) (.sc (.int .i64 b)) k = k (.sc (.int .i64 (IntKind.i64.wrap (a * b)))) := rfl
theorem ApX (a b : ByteArray) (k : AV → Option β) : Bz .neq (.sc (.string a)) (.sc (.string b)) k = k (.sc (.bool (!(a.toList == b.toList)))) := rfl
theorem ApW (a b : Bool) (k : AV → Option β) : Nw .neq (.sc (.bool a)) (.sc (.bool b)) k = k (.sc (.bool (!(a == b)))) := rfl
theorem W5 (s : ByteArray) (k : AV → Option β) : Xu (.sc (.string s)) k = k (.sc (.int .i64 s.size)) := rfl
theorem Apj (ty : Nat) (H : Ab) (v : Value) : A4 Ak E0.tp ty H (.sc v) = some (.sc v) := rfl
end
section
open Go
section
variable {β : Type} {n : Nat} {H : Ab} {r : Option β} {K : AV → Option β} {KH : KO β}
theorem AbS {cs : List AV} (hf : cs.all Lh = true) (h : ∀ i, i = H.length → (H ++ [⟨cs, true, true⟩])[i]? = some ⟨cs, true, true⟩ → KH (.ptr i 0) (H ++ [⟨cs, true, true⟩]) = r) : Xr (.agg cs) H (fun x H => KH x H) = r := by
 rw [M5 cs H _ hf]
 exact h _ rfl (by rw [zaj (zao _), zbe]; rfl)
theorem B0 {o id off : Nat} (h : K (.ptr id (off + o)) = r) : Dh o (.ptr id off) (fun x => K x) = r := h
theorem Ec {i off : Nat} {cs : List AV} {c : AV} (hi : H[i]? = some ⟨cs, true, true⟩) (hl : off < cs.length) (hc : (cs.drop off).take 1 = [c]) (h : K c = r) : Bx false 1 (.ptr i off) H (fun x => K x) = r := by
 have e : As H i off 1 = some [c] := by
  simp only [As, hi, if_true]
  rw [if_pos (by omega), hc]
 rw [ldF e]
 exact h
theorem Dx {op : BinOp} {x y v : AV} (e : ∀ k : AV → Option β, Bz op x y k = k v) (h : K v = r) : Bz op x y (fun t => K t) = r := (e _).trans h
theorem O5 {op : BinOp} {x y v : AV} (e : ∀ k : AV → Option β, Nw op x y k = k v) (h : K v = r) : Nw op x y (fun t => K t) = r := (e _).trans h
theorem Z2 {b : Bool} (h : K (.sc (.bool (!b))) = r) : pUn .not (.sc (.bool b)) (fun t => K t) = r := h
theorem Ajc {s : ByteArray} (h : K (.sc (.int .i64 s.size)) = r) : Xu (.sc (.string s)) (fun t => K t) = r := h
theorem N3 {m : Nat} {cs : List AV} (h : K (.sc (.int .i64 m)) = r) : Ik (.ro m cs) (fun t => K t) = r := h
theorem Ac {g : Prop} (b : Bool) (ht : b = true → g) (hf : b = false → g) : g := by
 cases h : b
 ·exact hf h
 ·exact ht h
theorem Q7 {b : Bool} {x y : Option β} (hb : b = true) (h : x = r) : C8 (.sc (.bool b)) x y = r := by subst hb; exact h
theorem T6 {b : Bool} {x y : Option β} (hb : b = false) (h : y = r) : C8 (.sc (.bool b)) x y = r := by subst hb; exact h
theorem Bs {b : Bool} {m : (KO β) → Option β} (hb : b = true) (h : m (fun x H => KH x H) = r) : Fg (.sc (.bool b)) true H m (fun x H => KH x H) = r := by subst hb; exact h
theorem Br {b : Bool} {m : (KO β) → Option β} (hb : b = false) (h : KH (.sc undef) H = r) : Fg (.sc (.bool b)) true H m (fun x H => KH x H) = r := by subst hb; exact h
theorem I0 {b : Bool} {m : (KO β) → Option β} (hb : b = false) (h : m (fun x H => KH x H) = r) : Fg (.sc (.bool b)) false H m (fun x H => KH x H) = r := by subst hb; exact h
theorem J5 {b : Bool} {m : (KO β) → Option β} (hb : b = true) (h : KH (.sc undef) H = r) : Fg (.sc (.bool b)) false H m (fun x H => KH x H) = r := by subst hb; exact h
theorem w_u {t : Bool} {m : (KO β) → Option β} (h : KH (.sc undef) H = r) : Fg (.sc undef) t H m (fun x H => KH x H) = r := h
theorem Adc {b : Bool} {x y : AV} (hb : b = true) (h : K x = r) : M1 (.sc (.bool b)) x y (fun t => K t) = r := by
 subst hb
 cases x <;> cases y <;> exact h
theorem AbT {b : Bool} {x y : AV} (hb : b = false) (h : K y = r) : M1 (.sc (.bool b)) x y (fun t => K t) = r := by
 subst hb
 cases x <;> cases y <;> exact h
def J4 {α : Type} (p : α → α → Bool) : List α → List α → Bool
 | x :: a, y :: b => if p x y then J4 p a b else false
 | _, _ => true
theorem L8 {α : Type} {w : Nat} (enc : α → List AV) (hw : ∀ x, (enc x).length = w) (h0 : 0 < w) (pk : α → AV) (LOAD : AV → (AV → Option β) → Option β) (hld : ∀ x rest k, LOAD (.rp (enc x ++ rest)) k = k (pk x)) (NE : AV → AV → (AV → Option β) → Option β) (pr : α → α → Bool) (hne : ∀ x y k, NE (pk x) (pk y) k = k (.sc (.bool (!(pr x y)))))
  (l q : List α) (hlq : l.length = q.length) (hlen : l.length ≤ 1048576) (L : Nat → AV → Option β) (KF KT : Option β)
  (hL : ∀ m i, L (m + 1) i = Bz .lss i (.sc (.int .i64 l.length)) fun t14 => C8 t14 (Dj w (Bl enc l) i fun t19 => LOAD t19 fun t20 => Dj w (Bl enc q) i fun t23 => LOAD t23 fun t24 => NE t20 t24 fun t25 => C8 t25 KF (Bz .add i (.sc (.int .i64 1)) fun t16 => L m t16)) KT) :
  ∀ (s t pl pq : List α) (m : Nat), l = pl ++ s → q = pq ++ t → pl.length = pq.length → s.length < m → L m (.sc (.int .i64 pl.length)) = if J4 pr s t then KT else KF
 | [], t, pl, pq, m + 1, hl, hq, hpp, hm => by
  rw [zam] at hl
  subst hl
  rw [hL, Hg, C1]
  cases t <;> simp [J4]
 | x :: s, [], pl, pq, m + 1, hl, hq, hpp, hm => by
  have h1 := congrArg List.length hl
  have h2 := congrArg List.length hq
  simp only [zae, zan, zax] at h1 h2
  omega
 | x :: s, y :: t, pl, pq, m + 1, hl, hq, hpp, hm => by
  have hlt : pl.length < l.length := by rw [hl]; simp
  rw [hL, Hg, C1, if_pos (by simpa using hlt)]
  have hel := fun k => Ado (β := β) hw h0 pl x s k
  rw [← hl] at hel
  have heq := fun k => Ado (β := β) hw h0 pq y t k
  rw [← hq, ← hpp] at heq
  rw [hel, hld, heq, hld, hne, C1, J4]
  cases hpx : pr x y
  ·simp
  ·simp only [zau, zaa, if_false, if_true]
   rw [Hf _ _ (by omega)]
   have ih := L8 enc hw h0 pk LOAD hld NE pr hne l q hlq hlen L KF KT hL s t (pl ++ [x]) (pq ++ [y]) m (by rw [hl]; simp) (by rw [hq]; simp) (by simp [hpp]) (by simpa using hm)
   rw [zae, zas] at ih
   exact ih
def V4 (z : Int) : List AV := [.sc (.int .i64 z)]
def V5 (s : ByteArray) : List AV := [.sc (.string s)]
theorem Lu (l : List Int) : Ey l = Bl V4 l := by
 rw [Bl, show (V4) = fun z => [AV.sc (.int .i64 z)] from rfl, Sb]
theorem L0 (l : List ByteArray) : Et l = Bl V5 l := by
 rw [Bl, show (V5) = fun z => [AV.sc (.string z)] from rfl, Sb]
theorem ldI (z : Int) (rest : List AV) (H : Ab) (k : AV → Option β) : Bx false 1 (.rp (V4 z ++ rest)) H k = k (.sc (.int .i64 z)) := P2 _ _ _ _
theorem ldS (z : ByteArray) (rest : List AV) (H : Ab) (k : AV → Option β) : Bx false 1 (.rp (V5 z ++ rest)) H k = k (.sc (.string z)) := P2 _ _ _ _
def eqI (x y : Int) : Bool := x == y
def Td (x y : ByteArray) : Bool := x.toList == y.toList
def Hd {α : Type} (p : α → α → Bool) (a b : List α) : Bool := if a.length = b.length then J4 p a b else false
theorem neI (x y : Int) (k : AV → Option β) : Bz .neq (.sc (.int .i64 x)) (.sc (.int .i64 y)) k = k (.sc (.bool (!(eqI x y)))) := rfl
theorem neS (x y : ByteArray) (k : AV → Option β) : Bz .neq (.sc (.string x)) (.sc (.string y)) k = k (.sc (.bool (!(Td x y)))) := rfl
theorem Adk (qs : List Nat) (cs ds : List AV) (b : Bool) (h : Mu qs cs ds = some b) (k : AV → Option β) : Ra .neq qs (.agg cs) (.agg ds) k = k (.sc (.bool (!b))) := by
 simp only [Ra, h, zad]
theorem Cx {X : Option β} (e : Bool) {K : Bool → Option β} (h1 : ∀ b, b = e → X = K b) (h2 : ∀ b, b = e → K b = r) : X = r := (h1 e rfl).trans (h2 e rfl)
theorem E3 {c v b : Bool} {y : AV} (hc : c = true) (hv : v = b) (h : K (.sc (.bool b)) = r) : M1 (.sc (.bool c)) (.sc (.bool v)) y (fun t => K t) = r := by
 subst hc
 subst hv
 cases y <;> exact h
theorem E2 {c v b : Bool} {x : AV} (hc : c = false) (hv : v = b) (h : K (.sc (.bool b)) = r) : M1 (.sc (.bool c)) x (.sc (.bool v)) (fun t => K t) = r := by
 subst hc
 subst hv
 cases x <;> exact h
theorem Nu {b c v : Bool} (hb : b = (c && v)) (h : c = true) : v = b := by rw [hb, h]; rfl
theorem Nt {b c v : Bool} (hb : b = (c && v)) (h : c = false) : false = b := by rw [hb, h]; rfl
theorem mOT {b c v : Bool} (hb : b = (c || v)) (h : c = true) : true = b := by rw [hb, h]; rfl
theorem mOF {b c v : Bool} (hb : b = (c || v)) (h : c = false) : v = b := by rw [hb, h]; rfl
theorem T7 {ty : Nat} {b b' : Bool} (h : b = b') : A4 Ak E0.tp ty H (.sc (.bool b)) = some (.sc (.bool b')) := by subst h; rfl
theorem AfO {ty : Nat} {f : FuncId} {caps args vs : List AV} {t : AV} {k : KO β} (hh : Ek f = false) (hv : (args ++ caps).mapM (C5 H 8) = some vs) (ht : Cb E0 n ty f vs = some t) :
  (PR n β).call ty (.fn f [] caps) args H k = k (Bk Ak E0.tp H.length ty t).1 (H ++ (Bk Ak E0.tp H.length ty t).2) := by
 show Ms E0 (Dy E0 n) ty f ([] ++ args ++ caps) H k = _
 simp only [Ms, Zu hh, AbB hh, zai, zaa, if_false, AaS, hv, zad]
 have ht : T2 E0 (Dy E0 n) ty f vs = some t := ht
 rw [ht]
 rfl
theorem AlZ (s : ByteArray) (i : Nat) (b : UInt8) (k : AV → Option β) (h : s.data.toList[i]? = some b) : AfB (.sc (.string s)) (.sc (.int .i64 i)) k = k (.sc (.int .u8 b.toNat)) := by
 have hlt : i < s.size := by
  have := (zac.1 h).1
  simpa using this
 have hb : s[i]'hlt = b := by
  have := (zac.1 h).2
  simp only [Array.getElem_toList] at this
  exact this
 simp only [AfB, asI, asS, zad, zbg]
 rw [dif_pos ⟨by omega, hlt⟩, hb]
theorem nT {b : Bool} (h : b = false) : (!b) = true := by rw [h]; rfl
theorem nF {b : Bool} (h : b = true) : (!b) = false := by rw [h]; rfl
end
end
section
open Go
def Eg (x lo hi : Int) : Bool := decide (lo ≤ x) && decide (x ≤ hi)
theorem Sm (n : Nat) (ty : Nat) (x : Int) (lo : Int) (hi : Int) : Cb E0 (n + 1) ty 81 [.sc (.int .i64 x), .sc (.int .i64 lo), .sc (.int .i64 hi)] = some (.sc (.bool (Eg x lo hi))) := by
 rw [At, Ann, f81]
 try simp only [Kw, Pd, Hy, Gb, Km, Eu, Id, K7, Pe, D6, Fo, Pr.gT, Pr.gF, Pr.hT, Pr.hF, Pr.kT, Pr.kF, Gx, Jo, Hz, I5, Ob, Nj, Jg, Kl, Mo, Qk, Pc, Oa, Mn]
 refine Dx (v := sb (decide (x ≥ lo))) (fun k => rfl) ?_
 apply Cx ((decide (x ≥ lo)) && (decide (x ≤ hi)))
 intro b1 q1
 refine Ac ((decide (x ≥ lo))) (fun h1 => ?_) fun h1 => ?_
 exact Bs h1 (Bs h1 (Bs h1 (Dx (v := sb (decide (x ≤ hi))) (fun k => rfl) (E3 h1 (Nu q1 h1) rfl))))
 exact Br h1 (Br h1 (Br h1 (E2 h1 (Nt q1 h1) rfl)))
 intro b1 q1
 exact T7 (by first | (simp_all [Eg]; done) | (rw [zbF]; simp [Eg] at *; omega))
theorem Lq (n : Nat) (ty : Nat) (x : Int) (lo : Int) (hi : Int) : Cb E0 (n + 1) ty 98 [.sc (.int .i64 x), .sc (.int .i64 lo), .sc (.int .i64 hi)] = some (.sc (.bool (Eg x lo hi))) := by
 rw [At, An1, f98]
 try simp only [Kw, Pd, Hy, Gb, Km, Eu, Id, K7, Pe, D6, Fo, Pr.gT, Pr.gF, Pr.hT, Pr.hF, Pr.kT, Pr.kF, Gx, Jo, Hz, I5, Ob, Nj, Jg, Kl, Mo, Qk, Pc, Oa, Mn]
 refine Dx (v := sb (decide (x ≥ lo))) (fun k => rfl) ?_
 apply Cx ((decide (x ≥ lo)) && (decide (x ≤ hi)))
 intro b1 q1
 refine Ac ((decide (x ≥ lo))) (fun h1 => ?_) fun h1 => ?_
 exact Bs h1 (Bs h1 (Bs h1 (Dx (v := sb (decide (x ≤ hi))) (fun k => rfl) (E3 h1 (Nu q1 h1) rfl))))
 exact Br h1 (Br h1 (Br h1 (E2 h1 (Nt q1 h1) rfl)))
 intro b1 q1
 exact T7 (by first | (simp_all [Eg]; done) | (rw [zbF]; simp [Eg] at *; omega))
theorem Aat (n : Nat) (ty : Nat) (s t : ByteArray) : Cb E0 (n + 1) ty 65 [Ae s, Ae t] = some (.sc (.bool (s.toList == t.toList))) := by
 rw [At, Ana, f65]
 have e : ∀ u : ByteArray, Dn [] 1 (.ro u.size (Ba u)) = some (Ba u) := by
  intro u
  simp [Dn, Es]
 have eb : ∀ u : ByteArray, (Ba u).mapM Kx = some u.data.toList := fun u => K8 _
 simp only [Mn, Eu, O8, e, eb, zad, Bz, Yq]
 simp
theorem Kn (n : Nat) (ty : Nat) (s t : ByteArray) : Cb E0 (n + 1) ty 71 [Ae s, Ae t] = some (.sc (.bool (s.toList == t.toList))) := by
 rw [At, Ang, f71]
 have e : ∀ u : ByteArray, Dn [] 1 (.ro u.size (Ba u)) = some (Ba u) := by
  intro u
  simp [Dn, Es]
 have eb : ∀ u : ByteArray, (Ba u).mapM Kx = some u.data.toList := fun u => K8 _
 simp only [Mn, Eu, O8, e, eb, zad, Bz, Yq]
 simp
end
section
open Go
theorem Aoi : ∀ X : Fin 256, bits .and .i64 ((X.val : Nat) : Int) 31 = ((X.val % 32 : Nat) : Int) := by decide +kernel
theorem Aoh : ∀ X : Fin 256, bits .and .i64 ((X.val : Nat) : Int) 15 = ((X.val % 16 : Nat) : Int) := by decide +kernel
theorem Aoj : ∀ X : Fin 256, bits .and .i64 ((X.val : Nat) : Int) 7 = ((X.val % 8 : Nat) : Int) := by decide +kernel
def Tz (d : Nat × Nat) (i : Nat) : AV := if d.1 = 65533 ∧ d.2 = 1 then .tup [.sc (.int .i64 0), .sc (.int .i64 0), .sc (.bool false)] else .tup [.sc (.int .i64 d.1), .sc (.int .i64 ((i + d.2 : Nat) : Int)), .sc (.bool true)]
def Ac9 : AV := .tup [.sc (.int .i64 0), .sc (.int .i64 0), .sc (.bool false)]
theorem Al4 (s : ByteArray) (i : Nat) (h : i < s.size) (H : Ab) (k : AV → Option AV) : (Dj 1 (Ae s) (.sc (.int .i64 i)) fun t => Bx false 1 t H k) = k (.sc (.int .u8 (s.data.toList.getD i 0).toNat)) := by
 rw [Ot 1 _ _ i _ h (by rw [Es]; omega)]
 have hl : i < s.data.toList.length := by simpa using h
 have hd : (Ba s).drop (i * 1) = .sc (.int .u8 (s.data.toList.getD i 0).toNat) :: (Ba s).drop (i + 1) := by
  rw [zby, zaD (by rw [Es]; omega)]
  congr 1
  simp [Ba, zb1, h]
 rw [hd, P2]
section loop
variable (n : Nat) (k : AV → Ab → Option AV) (H : Ab) (s : ByteArray)
theorem Lv (m at' N v i : Nat) (least : Int) (hi : i ≤ N) (hb : at' + i < s.size) (hN : N ≤ 3) (hv : v < 100000000) (hs : s.size ≤ 1048576) :
  Jr (PR n AV) n k (m + 1) (Ae s) (si at') (si N) (si least) (si v) (si i) H =
   if (s.data.toList.getD (at' + i) 0).toNat / 64 = 2 then Jr (PR n AV) n k m (Ae s) (si at') (si N) (si least) (si ((v * 64 + (s.data.toList.getD (at' + i) 0).toNat % 64 : Nat) : Int)) (si ((i + 1 : Nat) : Int)) H else k Ac9 H := by
 obtain ⟨y, hy⟩ : ∃ y, (s.data.toList.getD (at' + i) 0).toNat = y := ⟨_, rfl⟩
 have hylt : y < 256 := by rw [← hy]; exact (s.data.toList.getD (at' + i) 0).toNat_lt
 have hba := Al4 s (at' + i) hb H
 rw [hy] at hba ⊢
 rw [Jr]
 simp only [Eu, D6, I5, Gb, Oa, Fo, Pr.gT, Pr.gF, Pr.hT, Pr.hF, Pr.kT, Pr.kF, Gx]
 rw [Zi, C1, if_pos (by simp; omega), Adi, ← Int.natCast_add, Ic _ (by omega) (by omega), hba]
 simp only [Xs, asI, zad]
 rw [Ic _ (by omega) (by omega), Ns]
 by_cases h1 : y < 128
 refine J5 (by simp; omega) (J5 (by simp; omega) (Adc (by simp; omega) ?_))
 rw [if_neg (by omega)]
 rfl
 refine I0 (by simp; omega) (I0 (by simp; omega) ?_)
 rw [AlX]
 refine AbT (by simp; omega) ?_
 by_cases h2 : y ≤ 191
 rw [C1, if_neg (by simp; omega), if_pos (by omega), AoY, show (v : Int) * 64 = ((v * 64 : Nat) : Int) by omega, Ic _ (by omega) (by omega), Adi, ← Int.natCast_add, Ic _ (by omega) (by omega), Uw _ _ _ (by omega) (by omega), Hf _ _ (by omega)]
 congr 3
 omega
 rw [C1, if_pos (by simp; omega), if_neg (by omega)]
 rfl
theorem X2 (n' : Nat) (hnn : n = n' + 1) (m at' N v least : Nat) (hN : N ≤ 3) (hv : v < 100000000) (ha : at' ≤ 1048576) :
  Jr (PR n AV) n k (m + 1) (Ae s) (si at') (si N) (si least) (si v) (si ((N + 1 : Nat) : Int)) H =
   if v ≥ least ∧ (v < 55296 ∨ (57344 ≤ v ∧ v ≤ 1114111)) then k (.tup [si v, si ((at' + (N + 1) : Nat) : Int), bT]) H else k Ac9 H := by
 subst hnn
 rw [Jr]
 simp only [Eu, D6, I5, Gb, Oa, Fo, Pr.gT, Pr.gF, Pr.hT, Pr.hF, Pr.kT, Pr.kF, Gx]
 rw [Zi, C1, if_neg (by simp; omega), Ns]
 by_cases h1 : v < least
 have e : decide ((v : Int) < (least : Int)) = true := by simp; omega
 refine J5 e (J5 e (Adc e (J5 rfl (J5 rfl (Adc rfl (Q7 rfl ?_))))))
 rw [if_neg (by omega)]
 rfl
 have e : decide ((v : Int) < (least : Int)) = false := by simp; omega
 refine I0 e (I0 e (Dx (v := sb (decide ((v : Int) > 1114111))) (fun k => rfl) (AbT e ?_)))
 by_cases h2 : v > 1114111
 have e2 : decide ((v : Int) > 1114111) = true := by simp; omega
 refine J5 e2 (J5 e2 (Adc e2 (Q7 rfl ?_)))
 rw [if_neg (by omega)]
 rfl
 have e2 : decide ((v : Int) > 1114111) = false := by simp; omega
 refine I0 e2 (I0 e2 (Ma rfl (Co (Iv _ _) (Co (Iv _ _) (Co (Iv _ _) G7))) (Sm n' _ v 55296 57343) (AbT e2 ?_)))
 by_cases h3 : 55296 ≤ v ∧ v ≤ 57343
 refine Q7 (by simp [Eg]; omega) ?_
 rw [if_neg (by omega)]
 rfl
 refine T6 (by simp [Eg]; omega) ?_
 have e5 : ((at' : Int) + 1 + (N : Int)) = ((at' + (N + 1) : Nat) : Int) := by omega
 rw [if_pos (by omega), Adi, Ic _ (by omega) (by omega), Adi, Ic _ (by omega) (by omega), e5]
 rfl
end loop
theorem Ff (H : Ab) (a b c : Value) : A4 Ak E0.tp 110 H (.tup [.sc a, .sc b, .sc c]) = some (.tup [.sc a, .sc b, .sc c]) := rfl
set_option maxHeartbeats 1600000 in
theorem Alh (n : Nat) (hn : 1048576 < n) (s : ByteArray) (i : Nat) (hs : s.size ≤ 1048576) (hi : i < s.size) : Cb E0 (n + 2) 110 143 [Ae s, .sc (.int .i64 i)] = some (Tz (Lib.decodeL (s.data.toList.drop i)) i) := by
 have hg : ∀ j, (s.data.toList.drop i).getD j 0 = s.data.toList.getD (i + j) 0 := fun j => by simp [zb1, zba]
 have hL : (s.data.toList.drop i).length = s.size - i := by simp
 have hg0 : (s.data.toList.drop i).getD 0 0 = s.data.toList.getD i 0 := hg 0
 rw [Lib.decodeL_N, hL, hg0, hg 1, hg 2, hg 3]
 obtain ⟨x, hx⟩ : ∃ x, (s.data.toList.getD i 0).toNat = x := ⟨_, rfl⟩
 have hxl : x < 256 := by rw [← hx]; exact (s.data.toList.getD i 0).toNat_lt
 obtain ⟨y1, hy1⟩ : ∃ x, (s.data.toList.getD (i + 1) 0).toNat = x := ⟨_, rfl⟩
 obtain ⟨y2, hy2⟩ : ∃ x, (s.data.toList.getD (i + 2) 0).toNat = x := ⟨_, rfl⟩
 obtain ⟨y3, hy3⟩ : ∃ x, (s.data.toList.getD (i + 3) 0).toNat = x := ⟨_, rfl⟩
 have b1 : y1 < 256 := by rw [← hy1]; exact (s.data.toList.getD (i + 1) 0).toNat_lt
 have b2 : y2 < 256 := by rw [← hy2]; exact (s.data.toList.getD (i + 2) 0).toNat_lt
 have b3 : y3 < 256 := by rw [← hy3]; exact (s.data.toList.getD (i + 3) 0).toNat_lt
 have hba := Al4 s i hi []
 rw [hx] at hba
 rw [hx, hy1, hy2, hy3]
 have fails : Lib.decodeN (s.size - i) x y1 y2 y3 = (65533, 1) → some Ac9 = some (Tz (Lib.decodeN (s.size - i) x y1 y2 y3) i) := fun h => by rw [h]; rfl
 have goes : ∀ v w, Lib.decodeN (s.size - i) x y1 y2 y3 = (v, w) → (w = 1 → v < 128) → some (.tup [si v, si ((i + w : Nat) : Int), bT]) = some (Tz (Lib.decodeN (s.size - i) x y1 y2 y3) i) := fun v w h hw => by
  rw [h, Tz, if_neg (by intro h; simp only at h; omega)]
 rw [At, AjO, f143]
 simp only [Eu, D6, I5, Gb, Oa, Fo, Pr.gT, Pr.gF, Pr.hT, Pr.hF, Pr.kT, Pr.kF, Gx, Jo]
 have e0 : decide ((i : Int) < 0) = false := by simp
 rw [Ns]
 refine I0 e0 (I0 e0 (I0 e0 (N3 (I0 e0 (Dx (v := .sc (.bool (decide ((i : Int) ≥ (s.size : Int))))) (fun k => rfl) (AbT e0 (T6 (by simp; omega) ?_)))))))
 rw [hba]
 simp only [Xs, asI, zad]
 rw [Ic _ (by omega) (by omega), Ns]
 by_cases c1 : x < 128
 refine Q7 (by simp; omega) ?_
 rw [Hf _ _ (by omega)]
 exact (Ff _ _ _ _).trans (goes x 1 (by rw [Lib.decodeN, if_pos c1]) (fun _ => c1))
 refine T6 (by simp; omega) ?_
 obtain ⟨q, rfl⟩ : ∃ q, n = q + 4 := ⟨n - 4, by omega⟩
 apply Cx (decide ((x : Int) ≥ 192) && decide ((x : Int) < 224))
 intro b hb
 refine Dx (v := sb (decide ((x : Int) ≥ 192))) (fun k => rfl) (Ac (decide ((x : Int) ≥ 192)) (fun h => ?_) fun h => ?_)
 exact Bs h (Bs h (Dx (v := sb (decide ((x : Int) < 224))) (fun k => rfl) (E3 h (Nu hb h) rfl)))
 exact Br h (Br h (E2 h (Nt hb h) rfl))
 intro b0 hb0
 by_cases d0 : 192 ≤ x ∧ x < 224
 refine Q7 (by rw [hb0]; simp; omega) (Dx (v := .sc (.int .i64 ((x % 32 : Nat) : Int))) (fun k => by show k (.sc (.int .i64 (bits .and .i64 (x : Int) 31))) = _; rw [Aoi ⟨x, hxl⟩]) (N3 (Dx (v := .sc (.int .i64 ((s.size : Int) - 1))) (fun k => Uw _ _ _ (by omega) (by omega)) (Dx (v := .sc (.int .i64 ((s.size : Int) - 1 - 1))) (fun k => Uw _ _ _ (by omega) (by omega)) (Dx (v := .sc (.bool (decide ((i : Int) > (s.size : Int) - 1 - 1)))) (fun k => rfl) ?_)))))
 by_cases c3 : i + 1 < s.size
 ·refine T6 (by simp; omega) ?_
  have r1 := Lv (q + 4 + 1) (fun x H => A4 Ak E0.tp 110 H x) [] s (q + 4) i 1 (x % 32) 1 128 (by omega) (by omega) (by omega) (by omega) hs
  rw [hy1] at r1
  refine r1.trans ?_
  by_cases k1 : y1 / 64 = 2
  rotate_left
  rw [if_neg k1]
  exact (Ff _ _ _ _).trans (fails (by unfold Lib.decodeN; rw [if_neg c1, if_neg (by omega), if_neg (by omega), if_neg (by omega)]))
  rw [if_pos k1]
  refine (X2 (q + 4 + 1) (fun x H => A4 Ak E0.tp 110 H x) [] s (q + 4) rfl (q + 3) i 1 ((x % 32) * 64 + y1 % 64) 128 (by omega) (by omega) (by omega)).trans ?_
  have hv : (x % 32) * 64 + y1 % 64 = x % 32 * 64 + y1 % 64 := by omega
  rw [hv]
  split
  exact (Ff _ _ _ _).trans (goes _ 2 (by unfold Lib.decodeN; rw [if_neg c1, if_pos (by omega), if_pos (by omega)]) (by omega))
  exact (Ff _ _ _ _).trans (fails (by unfold Lib.decodeN; rw [if_neg c1, if_pos (by omega), if_neg (by omega)]))
 exact Q7 (by simp; omega) ((Ff _ _ _ _).trans (fails (by unfold Lib.decodeN; rw [if_neg c1, if_neg (by omega), if_neg (by omega), if_neg (by omega)])))
 refine T6 (by rw [hb0]; simp; omega) ?_
 apply Cx (decide ((x : Int) ≥ 224) && decide ((x : Int) < 240))
 intro b hb
 refine Dx (v := sb (decide ((x : Int) ≥ 224))) (fun k => rfl) (Ac (decide ((x : Int) ≥ 224)) (fun h => ?_) fun h => ?_)
 exact Bs h (Bs h (Dx (v := sb (decide ((x : Int) < 240))) (fun k => rfl) (E3 h (Nu hb h) rfl)))
 exact Br h (Br h (E2 h (Nt hb h) rfl))
 intro b1 hb1
 by_cases d1 : 224 ≤ x ∧ x < 240
 refine Q7 (by rw [hb1]; simp; omega) (Dx (v := .sc (.int .i64 ((x % 16 : Nat) : Int))) (fun k => by show k (.sc (.int .i64 (bits .and .i64 (x : Int) 15))) = _; rw [Aoh ⟨x, hxl⟩]) (N3 (Dx (v := .sc (.int .i64 ((s.size : Int) - 1))) (fun k => Uw _ _ _ (by omega) (by omega)) (Dx (v := .sc (.int .i64 ((s.size : Int) - 1 - 2))) (fun k => Uw _ _ _ (by omega) (by omega)) (Dx (v := .sc (.bool (decide ((i : Int) > (s.size : Int) - 1 - 2)))) (fun k => rfl) ?_)))))
 by_cases c3 : i + 2 < s.size
 ·refine T6 (by simp; omega) ?_
  have r1 := Lv (q + 4 + 1) (fun x H => A4 Ak E0.tp 110 H x) [] s (q + 4) i 2 (x % 16) 1 2048 (by omega) (by omega) (by omega) (by omega) hs
  rw [hy1] at r1
  refine r1.trans ?_
  by_cases k1 : y1 / 64 = 2
  rotate_left
  rw [if_neg k1]
  exact (Ff _ _ _ _).trans (fails (by unfold Lib.decodeN; rw [if_neg c1, if_neg (by omega), if_neg (by omega), if_neg (by omega)]))
  rw [if_pos k1]
  have r2 := Lv (q + 4 + 1) (fun x H => A4 Ak E0.tp 110 H x) [] s (q + 3) i 2 ((x % 16) * 64 + y1 % 64) 2 2048 (by omega) (by omega) (by omega) (by omega) hs
  rw [hy2] at r2
  refine r2.trans ?_
  by_cases k2 : y2 / 64 = 2
  rotate_left
  rw [if_neg k2]
  exact (Ff _ _ _ _).trans (fails (by unfold Lib.decodeN; rw [if_neg c1, if_neg (by omega), if_neg (by omega), if_neg (by omega)]))
  rw [if_pos k2]
  refine (X2 (q + 4 + 1) (fun x H => A4 Ak E0.tp 110 H x) [] s (q + 4) rfl (q + 2) i 2 (((x % 16) * 64 + y1 % 64) * 64 + y2 % 64) 2048 (by omega) (by omega) (by omega)).trans ?_
  have hv : ((x % 16) * 64 + y1 % 64) * 64 + y2 % 64 = x % 16 * 4096 + y1 % 64 * 64 + y2 % 64 := by omega
  rw [hv]
  split
  exact (Ff _ _ _ _).trans (goes _ 3 (by unfold Lib.decodeN; rw [if_neg c1, if_neg (by omega), if_pos (by omega), if_pos (by omega)]) (by omega))
  exact (Ff _ _ _ _).trans (fails (by unfold Lib.decodeN; rw [if_neg c1, if_neg (by omega), if_pos (by omega), if_neg (by omega)]))
 exact Q7 (by simp; omega) ((Ff _ _ _ _).trans (fails (by unfold Lib.decodeN; rw [if_neg c1, if_neg (by omega), if_neg (by omega), if_neg (by omega)])))
 refine T6 (by rw [hb1]; simp; omega) ?_
 apply Cx (decide ((x : Int) ≥ 240) && decide ((x : Int) < 248))
 intro b hb
 refine Dx (v := sb (decide ((x : Int) ≥ 240))) (fun k => rfl) (Ac (decide ((x : Int) ≥ 240)) (fun h => ?_) fun h => ?_)
 exact Bs h (Bs h (Dx (v := sb (decide ((x : Int) < 248))) (fun k => rfl) (E3 h (Nu hb h) rfl)))
 exact Br h (Br h (E2 h (Nt hb h) rfl))
 intro b2 hb2
 by_cases d2 : 240 ≤ x ∧ x < 248
 refine Q7 (by rw [hb2]; simp; omega) (Dx (v := .sc (.int .i64 ((x % 8 : Nat) : Int))) (fun k => by show k (.sc (.int .i64 (bits .and .i64 (x : Int) 7))) = _; rw [Aoj ⟨x, hxl⟩]) (N3 (Dx (v := .sc (.int .i64 ((s.size : Int) - 1))) (fun k => Uw _ _ _ (by omega) (by omega)) (Dx (v := .sc (.int .i64 ((s.size : Int) - 1 - 3))) (fun k => Uw _ _ _ (by omega) (by omega)) (Dx (v := .sc (.bool (decide ((i : Int) > (s.size : Int) - 1 - 3)))) (fun k => rfl) ?_)))))
 by_cases c3 : i + 3 < s.size
 ·refine T6 (by simp; omega) ?_
  have r1 := Lv (q + 4 + 1) (fun x H => A4 Ak E0.tp 110 H x) [] s (q + 4) i 3 (x % 8) 1 65536 (by omega) (by omega) (by omega) (by omega) hs
  rw [hy1] at r1
  refine r1.trans ?_
  by_cases k1 : y1 / 64 = 2
  rotate_left
  rw [if_neg k1]
  exact (Ff _ _ _ _).trans (fails (by unfold Lib.decodeN; rw [if_neg c1, if_neg (by omega), if_neg (by omega), if_neg (by omega)]))
  rw [if_pos k1]
  have r2 := Lv (q + 4 + 1) (fun x H => A4 Ak E0.tp 110 H x) [] s (q + 3) i 3 ((x % 8) * 64 + y1 % 64) 2 65536 (by omega) (by omega) (by omega) (by omega) hs
  rw [hy2] at r2
  refine r2.trans ?_
  by_cases k2 : y2 / 64 = 2
  rotate_left
  rw [if_neg k2]
  exact (Ff _ _ _ _).trans (fails (by unfold Lib.decodeN; rw [if_neg c1, if_neg (by omega), if_neg (by omega), if_neg (by omega)]))
  rw [if_pos k2]
  have r3 := Lv (q + 4 + 1) (fun x H => A4 Ak E0.tp 110 H x) [] s (q + 2) i 3 (((x % 8) * 64 + y1 % 64) * 64 + y2 % 64) 3 65536 (by omega) (by omega) (by omega) (by omega) hs
  rw [hy3] at r3
  refine r3.trans ?_
  by_cases k3 : y3 / 64 = 2
  rotate_left
  rw [if_neg k3]
  exact (Ff _ _ _ _).trans (fails (by unfold Lib.decodeN; rw [if_neg c1, if_neg (by omega), if_neg (by omega), if_neg (by omega)]))
  rw [if_pos k3]
  refine (X2 (q + 4 + 1) (fun x H => A4 Ak E0.tp 110 H x) [] s (q + 4) rfl (q + 1) i 3 ((((x % 8) * 64 + y1 % 64) * 64 + y2 % 64) * 64 + y3 % 64) 65536 (by omega) (by omega) (by omega)).trans ?_
  have hv : (((x % 8) * 64 + y1 % 64) * 64 + y2 % 64) * 64 + y3 % 64 = x % 8 * 262144 + y1 % 64 * 4096 + y2 % 64 * 64 + y3 % 64 := by omega
  rw [hv]
  split
  exact (Ff _ _ _ _).trans (goes _ 4 (by unfold Lib.decodeN; rw [if_neg c1, if_neg (by omega), if_neg (by omega), if_pos (by omega), if_pos (by omega)]) (by omega))
  exact (Ff _ _ _ _).trans (fails (by unfold Lib.decodeN; rw [if_neg c1, if_neg (by omega), if_neg (by omega), if_pos (by omega), if_neg (by omega)]))
 exact Q7 (by simp; omega) ((Ff _ _ _ _).trans (fails (by unfold Lib.decodeN; rw [if_neg c1, if_neg (by omega), if_neg (by omega), if_neg (by omega)])))
 exact T6 (by rw [hb2]; simp; omega) ((Ff _ _ _ _).trans (fails (by unfold Lib.decodeN; rw [if_neg c1, if_neg (by omega), if_neg (by omega), if_neg (by omega)])))
theorem Zf (N ty : Nat) (a b c : Value) : Bk Ak E0.tp N ty (.tup [.sc a, .sc b, .sc c]) = (.tup [.sc a, .sc b, .sc c], []) := rfl
theorem AfQ (s : ByteArray) : Vw [⟨Ba s, true, false⟩] (.sl 0 0 s.size 1) (Ae s) := fun X => by
 have e2 : As ([⟨Ba s, true, false⟩] ++ X) 0 0 (s.size * 1) = some (Ba s) := by
  have hl := Es s
  show (if (0 + s.size * 1 ≤ (Ba s).length) then some (((Ba s).drop 0).take (s.size * 1)) else none) = _
  rw [if_pos (by omega), zaN, zby, ← hl, zaJ]
 rw [S9, e2, zad]
 have e3 : (Ba s).mapM (C5 ([⟨Ba s, true, false⟩] ++ X) 7) = some (Ba s) := by
  rw [Acf]
  exact AdO _
 rw [e3]
 rfl
theorem O6 {vs : List AV} {i : Nat} {x : AV} {K : AV → Option AV} {r : Option AV} (hx : vs[i]? = some x) (h : K x = r) : Sw (.tup vs) i (fun t => K t) = r := by
 show (vs[i]?).bind _ = r
 rw [hx]
 exact h
theorem V0 (n : Nat) (hn : 1048576 < n) (k : AV → Ab → Option AV) (s : ByteArray) (hs : s.size ≤ 60) : ∀ (b m pos c : Nat), s.size ≤ pos + b → pos ≤ s.size → c ≤ pos → b < m →
  ∃ r : Int, Qo (PR (n + 2) AV) (n + 2) k m (.sl 0 0 s.size 1) (si c) (si pos) [⟨Ba s, true, false⟩] = k (si r) [⟨Ba s, true, false⟩] ∧ (Qf b (s.data.toList.drop pos) = true → 0 ≤ r) ∧ (Qf b (s.data.toList.drop pos) = false → r = -1)
 | b, m + 1, pos, c, hb, hp, hc, hm => by
  rw [Qo]
  simp only [Jo, Eu, D6, Adg, Pe, Fo, Pr.gT, Pr.gF, Pr.hT, Pr.hF, Pr.kT, Pr.kF, Gx]
  have hlen : ∀ k : AV → Option AV, Ik (.sl 0 0 s.size 1) k = k (si s.size) := fun _ => rfl
  rw [hlen, Hg, C1]
  by_cases hlt : pos < s.size
  rw [if_pos (by simpa using hlt)]
  obtain ⟨b, rfl⟩ : ∃ b', b = b' + 1 := ⟨b - 1, by omega⟩
  have hne : s.data.toList.drop pos ≠ [] := by
   intro h
   have := congrArg List.length h
   simp at this
   omega
  have hw := Lib.decodeL_width (s.data.toList.drop pos)
  have hle := Lib.decodeL_le (s.data.toList.drop pos) hne
  have hll : (s.data.toList.drop pos).length = s.size - pos := by simp
  rw [hll] at hle
  rw [Qf, if_neg hne]
  generalize hd : Lib.decodeL (s.data.toList.drop pos) = d at hw hle ⊢
  have ht := Alh n hn s pos (by omega) hlt
  rw [hd] at ht
  rw [Ha (vs := [Ae s, .sc (.int .i64 pos)]) rfl (Co (AfQ s) (Co (Iv _ _) G7)) ht]
  by_cases hf : d.1 = 65533 ∧ d.2 = 1
  rw [Tz, if_pos hf, Zf, zam, if_pos hf]
  refine ⟨-1, ?_, (fun h => by cases h), (fun _ => rfl)⟩
  refine O6 rfl (O6 rfl (O6 rfl (Z2 (J5 rfl (J5 rfl (Adc rfl (Q7 rfl ?_)))))))
  rfl
  rw [Tz, if_neg hf, Zf, zam, if_neg hf]
  by_cases hz : d.1 = 0
  rw [if_pos hz]
  refine ⟨-1, ?_, (fun h => by cases h), (fun _ => rfl)⟩
  refine O6 rfl (O6 rfl (O6 rfl (Z2 (I0 rfl (I0 rfl (Dx (v := .sc (.bool ((d.1 : Int) == 0))) (fun k => rfl) (AbT rfl (Q7 (by simp [hz]) ?_))))))))
  rfl
  rw [if_neg hz, zbq]
  obtain ⟨r, h1, h2, h3⟩ := V0 n hn k s hs b m (pos + d.2) (c + 1) (by omega) (by omega) (by omega) (by omega)
  refine ⟨r, ?_, h2, h3⟩
  refine O6 rfl (O6 rfl (O6 rfl (Z2 (I0 rfl (I0 rfl (Dx (v := .sc (.bool ((d.1 : Int) == 0))) (fun k => rfl) (AbT rfl (T6 (by simp; omega) ?_))))))))
  rw [Hf _ _ (by omega)]
  exact h1
  rw [if_neg (by simpa using hlt)]
  have hnil : s.data.toList.drop pos = [] := by
   apply zbm
   simp
   omega
  refine ⟨c, rfl, fun _ => by omega, fun h => ?_⟩
  rw [hnil] at h
  cases b <;> simp [Qf] at h
theorem Am0 (n : Nat) (hn : 1048576 < n) (ty : Nat) (s : ByteArray) : ∃ r : Int, Cb E0 (n + 3) ty 115 [.sc (.string s)] = some (.sc (.int .i64 r)) ∧ (Bv s = true → 0 ≤ r) ∧ (Bv s = false → r = -1) := by
 rw [At, Aj7, f115]
 simp only [Hz, Eu, D6, Aji]
 unfold Bv
 by_cases h : s.size ≤ 60
 obtain ⟨r, h1, h2, h3⟩ := V0 n hn (fun x H => A4 Ak E0.tp ty H x) s h s.size (n + 2) 0 0 (by omega) (by omega) (by omega) (by omega)
 refine ⟨r, ?_, ?_, ?_⟩
 refine Ajc (Dx (v := .sc (.bool (decide ((s.size : Int) > 60)))) (fun k => rfl) (T6 (by simp; omega) ?_))
 simp only [Xt, asS, zad]
 rw [if_pos (by omega)]
 exact h1
 intro hv
 refine h2 ?_
 simpa [h] using hv
 intro hv
 refine h3 ?_
 simpa [h] using hv
 refine ⟨-1, ?_, (fun hv => by simp [h] at hv), (fun _ => rfl)⟩
 refine Ajc (Dx (v := .sc (.bool (decide ((s.size : Int) > 60)))) (fun k => rfl) (Q7 (by simp; omega) ?_))
 rfl
theorem N0 (n : Nat) (hn : 1048576 < n) (ty : Nat) (s : ByteArray) : Cb E0 (n + 4) ty 80 [.sc (.string s)] = some (.sc (.bool (Bv s))) := by
 rw [At, Anm, f80]
 simp only [Eu]
 obtain ⟨r, h1, h2, h3⟩ := Am0 n hn 3 s
 refine Ma rfl (Co (Iv _ _) G7) h1 (Dx (v := sb (decide (r ≥ 0))) (fun k => rfl) (T7 ?_))
 cases hv : Bv s
 rw [h3 hv]
 rfl
 simpa using h2 hv
theorem Aiz {β : Type} {n : Nat} {H : Ab} {r : Option β} {ty f : Nat} {g : Nat → List AV → Option AV} {args vs : List AV} {v : Value} {K : KO β} (hg : E0.ext f = some g) (hv : args.mapM (C5 H 8) = some vs) (ht : g ty vs = some (.sc v)) (h : K (.sc v) H = r) : (PR n β).call ty (.fn f [] []) args H (fun x H => K x H) = r := by
 rw [AbY hg hv ht, F8, zam]
 exact h
theorem Qs (ty : Nat) (s : ByteArray) (hs : okS s) : Aag ty [.sc (.string s)] = some (.sc (.bool (Bv s))) := by
 have hm : maxLen = 9223372036854775807 := by decide
 show (if s.size ≤ maxLen then _ else _) = _
 rw [hm, if_pos (show s.size ≤ 9223372036854775807 from hs)]
end
section
open Go
section own
variable {ti : Nat → Option TI} {tp : Nat → Option (List Nat)}
theorem Gj {f : Nat → AV → Option (AV × List Nat)} {t : Nat} {ts : List Nat} {x : AV} {xs : List AV} {p : List AV × List Nat} (h : Di f (t :: ts) (x :: xs) = some p) :
  ∃ a b, f t x = some a ∧ Di f ts xs = some b ∧ p = (a.1 :: b.1, a.2 ++ b.2) := by
 simp only [Di, zab] at h
 obtain ⟨a, h1, b, h2, h3⟩ := h
 exact ⟨a, b, h1, h2, (Option.some.inj h3).symm⟩
theorem Iw {f : Nat → AV → Option (AV × List Nat)} {ts : List Nat} {p : List AV × List Nat} (h : Di f ts [] = some p) : ts = [] ∧ p = ([], []) := by
 cases ts with
 | nil => exact ⟨rfl, (Option.some.inj h).symm⟩
 | cons t ts => simp [Di] at h
theorem Xm {f : Nat → AV → Option (AV × List Nat)} : ∀ {ts : List Nat} {xs : List AV} {p : List AV × List Nat}, Di f ts xs = some p → ts.length = xs.length ∧ p.1.length = xs.length
 | ts, [], p, h => by
  obtain ⟨rfl, rfl⟩ := Iw h
  exact ⟨rfl, rfl⟩
 | [], _ :: _, p, h => by simp [Di] at h
 | t :: ts, x :: xs, p, h => by
  obtain ⟨a, b, h1, h2, rfl⟩ := Gj h
  obtain ⟨e1, e2⟩ := Xm h2
  simp [e1, e2]
theorem P9 {f : Nat → AV → Option (AV × List Nat)} : ∀ {ts us : List Nat} {xs ys : List AV} {p q : List AV × List Nat}, Di f ts xs = some p → Di f us ys = some q → Di f (ts ++ us) (xs ++ ys) = some (p.1 ++ q.1, p.2 ++ q.2)
 | ts, us, [], ys, p, q, h, h' => by
  obtain ⟨rfl, rfl⟩ := Iw h
  exact h'
 | [], _, _ :: _, _, _, _, h, _ => by simp [Di] at h
 | t :: ts, us, x :: xs, ys, p, q, h, h' => by
  obtain ⟨a, b, h1, h2, rfl⟩ := Gj h
  have ih := P9 h2 h'
  rw [zaq, zaq, Di, h1, zad, ih]
  simp
theorem Hj {f f' : Nat → AV → Option (AV × List Nat)} : ∀ {ts : List Nat} {xs : List AV} {p : List AV × List Nat}, (∀ t x a, f t x = some a → (∀ i ∈ a.2, i ∈ p.2) → f' t x = some a) → Di f ts xs = some p → Di f' ts xs = some p
 | ts, [], p, _, h => by
  obtain ⟨rfl, rfl⟩ := Iw h
  rfl
 | [], _ :: _, p, _, h => by simp [Di] at h
 | t :: ts, x :: xs, p, hf, h => by
  obtain ⟨a, b, h1, h2, rfl⟩ := Gj h
  have e1 := hf t x a h1 fun i hi => za8 _ hi
  have e2 := Hj (f' := f') (fun t x a' h hi => hf t x a' h fun i hi' => zaE _ (hi i hi')) h2
  rw [Di, e1, zad, e2]
  rfl
theorem F5 {H H' : Ab} : ∀ (d ty : Nat) (x : AV) (p : AV × List Nat), Cz ti tp H d ty x = some p → (∀ i ∈ p.2, H'[i]? = H[i]?) → Cz ti tp H' d ty x = some p
 | 0, _, _, _, h, _ => by simp [Cz] at h
 | d + 1, ty, x, p, h, hs => by
  cases x with
  | sc v => exact h
  | nl => exact h
  | sl id off n z =>
   rw [I8] at h ⊢
   simp only [zab] at h
   obtain ⟨i, h1, j, h2, h3⟩ := h
   split at h3
   case isFalse => cases h3
   rename_i hz
   split at h3
   case isFalse => cases h3
   rename_i ha
   simp only [zab] at h3
   obtain ⟨cs, h4, q, h5, h6⟩ := h3
   obtain rfl := (Option.some.inj h6).symm
   have hid := hs id za1
   have e1 : Jj H' id = true := by simpa only [Jj, hid] using ha
   have e2 : As H' id off (n * z) = some cs := by simpa only [As, hid] using h4
   have e3 := Hj (f' := Cz ti tp H' d) (fun t x a h hi => F5 d t x a h fun i' hi' => hs i' (zav _ (hi i' hi'))) h5
   simp only [h1, h2, zad, hz, if_true, e1, e3]
   rw [hz] at e2
   rw [e2]
   simp only [zad, e3]
  | agg cs =>
   rw [Jv] at h ⊢
   simp only [zab] at h
   obtain ⟨i, h1, q, h2, h3⟩ := h
   obtain rfl := (Option.some.inj h3).symm
   have e3 := Hj (f' := Cz ti tp H' d) (fun t x a h hi => F5 d t x a h fun i' hi' => hs i' (hi i' hi')) h2
   rw [h1, zad, e3]
   rfl
  | tup cs =>
   rw [Kq] at h ⊢
   simp only [zab] at h
   obtain ⟨i, h1, q, h2, h3⟩ := h
   obtain rfl := (Option.some.inj h3).symm
   have e3 := Hj (f' := Cz ti tp H' d) (fun t x a h hi => F5 d t x a h fun i' hi' => hs i' (hi i' hi')) h2
   rw [h1, zad, e3]
   rfl
  | _ => simp [Cz] at h
theorem Ss {f : Nat → AV → Option (AV × List Nat)} {N : Nat} : ∀ {ts : List Nat} {xs : List AV} {p : List AV × List Nat}, (∀ t x a, f t x = some a → ∀ i ∈ a.2, i < N) → Di f ts xs = some p → ∀ i ∈ p.2, i < N
 | ts, [], p, _, h => by
  obtain ⟨rfl, rfl⟩ := Iw h
  intro i hi
  cases hi
 | [], _ :: _, p, _, h => by simp [Di] at h
 | t :: ts, x :: xs, p, hf, h => by
  obtain ⟨a, b, h1, h2, rfl⟩ := Gj h
  intro i hi
  rcases zaQ.1 hi with hi | hi
  ·exact hf t x a h1 i hi
  ·exact Ss hf h2 i hi
theorem Qb {H : Ab} : ∀ (d ty : Nat) (x : AV) (p : AV × List Nat), Cz ti tp H d ty x = some p → ∀ i ∈ p.2, i < H.length
 | 0, _, _, _, h => by simp [Cz] at h
 | d + 1, ty, x, p, h => by
  cases x with
  | sc v =>
   obtain rfl := (Option.some.inj h).symm
   intro i hi
   cases hi
  | nl =>
   obtain rfl := (Option.some.inj h).symm
   intro i hi
   cases hi
  | sl id off n z =>
   rw [I8] at h
   simp only [zab] at h
   obtain ⟨i, h1, j, h2, h3⟩ := h
   split at h3
   case isFalse => cases h3
   split at h3
   case isFalse => cases h3
   rename_i ha
   simp only [zab] at h3
   obtain ⟨cs, h4, q, h5, h6⟩ := h3
   obtain rfl := (Option.some.inj h6).symm
   intro i' hi'
   rcases zb9.1 hi' with rfl | hi'
   ·unfold Jj at ha
    cases hg : H[i']? with
    | none => rw [hg] at ha; cases ha
    | some b => exact (zac.1 hg).1
   ·exact Ss (fun t x a h => Qb d t x a h) h5 i' hi'
  | agg cs =>
   rw [Jv] at h
   simp only [zab] at h
   obtain ⟨i, h1, q, h2, h3⟩ := h
   obtain rfl := (Option.some.inj h3).symm
   exact Ss (fun t x a h => Qb d t x a h) h2
  | tup cs =>
   rw [Kq] at h
   simp only [zab] at h
   obtain ⟨i, h1, q, h2, h3⟩ := h
   obtain rfl := (Option.some.inj h3).symm
   exact Ss (fun t x a h => Qb d t x a h) h2
  | _ => simp [Cz] at h
end own
def OwnC (d : Nat) (H : Ab) (ts : List Nat) (raw cells : List AV) (ids : List Nat) : Prop := Di (Cz Ak E0.tp H d) ts raw = some (cells, ids)
theorem OwnC.frame {d : Nat} {H H' : Ab} {ts : List Nat} {raw cells : List AV} {ids : List Nat} (h : OwnC d H ts raw cells ids) (hs : ∀ i ∈ ids, H'[i]? = H[i]?) : OwnC d H' ts raw cells ids :=
 Hj (fun t x a h hi => F5 d t x a h fun i hi' => hs i (hi i hi')) h
theorem OwnC.lt {d : Nat} {H : Ab} {ts : List Nat} {raw cells : List AV} {ids : List Nat} (h : OwnC d H ts raw cells ids) : ∀ i ∈ ids, i < H.length := Ss (fun t x a h => Qb d t x a h) h
theorem OwnC.grow {d : Nat} {H : Ab} {ts : List Nat} {raw cells : List AV} {ids : List Nat} (h : OwnC d H ts raw cells ids) (X : List Iu) : OwnC d (H ++ X) ts raw cells ids :=
 h.frame fun i hi => zal (h.lt i hi)
theorem OwnC.append {d : Nat} {H : Ab} {ts us : List Nat} {raw raw' cells cells' : List AV} {ids ids' : List Nat} (h : OwnC d H ts raw cells ids) (h' : OwnC d H us raw' cells' ids') : OwnC d H (ts ++ us) (raw ++ raw') (cells ++ cells') (ids ++ ids') := P9 h h'
theorem OwnC.len {d : Nat} {H : Ab} {ts : List Nat} {raw cells : List AV} {ids : List Nat} (h : OwnC d H ts raw cells ids) : ts.length = raw.length ∧ cells.length = raw.length := Xm h
def OwnS (d : Nat) (H : Ab) (w : Nat) (cty : List Nat) (x : AV) (k : Nat) (cells : List AV) : Prop :=
 (x = .nl ∧ k = 0 ∧ cells = []) ∨ ∃ id raw ids, x = .sl id 0 k w ∧ H[id]? = some ⟨raw, true, true⟩ ∧ raw.length = k * w ∧ OwnC d H (zak k cty).flatten raw cells ids ∧ (id :: ids).Nodup
theorem OwnS.nil (d : Nat) (H : Ab) (w : Nat) (cty : List Nat) : OwnS d H w cty .nl 0 [] := .inl ⟨rfl, rfl, rfl⟩
theorem OwnS.grow {d : Nat} {H : Ab} {w : Nat} {cty : List Nat} {x : AV} {k : Nat} {cells : List AV} (h : OwnS d H w cty x k cells) (X : List Iu) : OwnS d (H ++ X) w cty x k cells := by
 rcases h with h | ⟨id, raw, ids, h1, h2, h3, h4, h5⟩
 ·exact .inl h
 ·exact .inr ⟨id, raw, ids, h1, by rw [zal (zac.1 h2).1]; exact h2, h3, h4.grow X, h5⟩
variable {β : Type} {n : Nat} {r : Option β}
theorem AiJ (A : Ab) (b b' : Iu) (R : Ab) : (A ++ b :: R).set A.length b' = A ++ b' :: R := by
 rw [List.set_append_right _ _ (zao _), zbe]
 rfl
theorem Ti (A : Ab) (b : Iu) (R : Ab) : (A ++ b :: R)[A.length]? = some b := by
 rw [zaj (zao _), zbe]
 rfl
theorem Ajl {d : Nat} {H X : Ab} {w bytes : Nat} {cty : List Nat} {x : AV} {k : Nat} {cells er ec : List AV} {eids : List Nat} {K : KO β} (hx : OwnS d H w cty x k cells) (hw : er.length = w) (hl : er.all A2 = true)
  (he : OwnC d (H ++ X) cty er ec eids) (hn : eids.Nodup) (hge : ∀ i ∈ eids, H.length ≤ i) (hb : (k + 1) * bytes ≤ 140737488355328)
  (h : ∀ x' H', OwnS d H' w cty x' (k + 1) (cells ++ ec) → K x' H' = r) :
  G5 1 w er true (H ++ X) (fun y G => Lk w bytes x y G K) = r := by
 have hy : ∀ G : Ab, Dn (G ++ [⟨er, true, true⟩]) w (.sl G.length 0 1 w) = some er := by
  intro G
  simp only [Dn, if_true, Nat.one_mul, As, Ti G _ [], za0, hw, zao, zaN]
  rw [← hw, zaJ]
 have hell : (H ++ X).length ∉ eids := fun hm => Nat.lt_irrefl _ (he.lt _ hm)
 rcases hx with ⟨rfl, rfl, rfl⟩ | ⟨id, raw, ids, rfl, h2, h3, h4, h5⟩
 ·simp only [G5, Lk, Jn, zad, hy]
  rw [show Dn (H ++ X ++ [⟨er, true, true⟩]) w .nl = some [] from rfl]
  simp only [zad, Tn]
  rw [if_pos hb, if_pos hl]
  refine h _ _ (.inr ⟨_, er, eids, rfl, ?_, by simp [hw], ?_, ?_⟩)
  ·rw [zaj (zao _), zbe]
   rfl
  ·simp only [za0, List.replicate_one, za3, zbA, zam, zai]
   exact (he.grow _).grow _
  ·rw [zbr]
   refine ⟨fun hm => ?_, hn⟩
   have := he.lt _ hm
   simp at this
   omega
 ·have hid : id < H.length := (zac.1 h2).1
  have hg : (H ++ X ++ [(⟨er, true, true⟩ : Iu)])[id]? = some ⟨raw, true, true⟩ := by
   rw [zaf, zal hid]
   exact h2
  have hcx : Dn (H ++ X ++ [⟨er, true, true⟩]) w (.sl id 0 k w) = some raw := by
   simp only [Dn, if_true, As, hg, za0, h3, zao, zaN]
   rw [← h3, zaJ]
  simp only [G5, Lk, Jn, zad, hy, hcx, Tn, hg, if_true]
  rw [if_pos hb, if_pos hl]
  have hn5 := zbr.1 h5
  have hne : ∀ i ∈ ids, i ≠ id := fun i hi e => hn5.1 (e ▸ hi)
  have hne2 : ∀ i ∈ eids, i ≠ id := fun i hi e => by
   have := hge i hi
   omega
  refine h _ _ (.inr ⟨_, raw ++ er, ids ++ eids, rfl, ?_, by simp [h3, hw, zb3], ?_, ?_⟩)
  ·rw [zaj (zao _), zbe]
   rfl
  ·have e : (zak (k + 1) cty).flatten = (zak k cty).flatten ++ cty := by
    rw [List.replicate_succ', zbd]
    simp
   rw [e]
   refine OwnC.append ?_ ?_
   ·refine OwnC.grow (OwnC.frame (H := H ++ X ++ [⟨er, true, true⟩]) ((h4.grow X).grow _) fun i hi => ?_) _
    rw [zbJ (fun e => hne i hi e.symm)]
   ·refine OwnC.grow (OwnC.frame (H := H ++ X ++ [⟨er, true, true⟩]) (he.grow _) fun i hi => ?_) _
    rw [zbJ (fun e => hne2 i hi e.symm)]
  ·rw [zbr]
   refine ⟨fun hm => ?_, ?_⟩
   ·rcases zaQ.1 hm with hm | hm
    ·have := h4.lt _ hm
     simp at this
     omega
    ·have := he.lt _ hm
     simp at this
     omega
   ·rw [zbf]
    refine ⟨hn5.2, hn, fun a ha b hb e => ?_⟩
    have h1 := h4.lt a ha
    have h2 := hge b hb
    omega
theorem AkY {d : Nat} {H : Ab} {w tyS k : Nat} {cty : List Nat} {x : AV} {cells : List AV} (hty : ∃ i j, Ak tyS = some i ∧ Ak i.elem = some j ∧ j.size = w ∧ j.cty = cty) (h : OwnS d H w cty x k cells) : ∃ ids, Cz Ak E0.tp H (d + 1) tyS x = some (.ro k cells, ids) ∧ ids.Nodup := by
 rcases h with ⟨rfl, rfl, rfl⟩ | ⟨id, raw, ids, rfl, h2, h3, h4, h5⟩
 ·exact ⟨[], rfl, List.nodup_nil⟩
 ·obtain ⟨i, j, e1, e2, rfl, rfl⟩ := hty
  refine ⟨id :: ids, ?_, h5⟩
  rw [I8]
  have ha : Jj H id = true := by simp only [Jj, h2]
  have hr : As H id 0 (k * j.size) = some raw := by
   simp only [As, h2, if_true, za0, h3, zao, zaN]
   rw [← h3, zaJ]
  have h4' : Di (Cz Ak E0.tp H d) (zak k j.cty).flatten raw = some (cells, ids) := h4
  simp only [e1, e2, zad, if_true, ha, hr, h4']
end
section
open Go
def Ht (s : ByteArray) : Bool := Bv s && !(s.toList == (⟨#[]⟩ : ByteArray).toList) && !(Iz s 43) && !(Iz s 35) && decide (((Be s).length : Int) ≤ 6)
section
variable {β : Type} {n : Nat} {H : Ab} {r : Option β}
theorem AdN {ty f len : Nat} {args vs cells : List AV} {K : KO β} (hh : Ek f = false) (hv : args.mapM (C5 H 8) = some vs) (ht : Cb E0 n ty f vs = some (.ro len cells)) (h : ∀ N X sz, K (.sl N 0 len sz) (H ++ X) = r) : (PR n β).call ty (.fn f [] []) args H (fun x H => K x H) = r := by
 rw [Ha hh hv ht]
 exact h _ _ _
theorem Aja {b b' : Bool} (h : b = b') : some (AV.sc (.bool b)) = some (AV.sc (.bool b')) := by rw [h]
theorem Ajb {id off m w : Nat} {K : AV → Option β} (h : K (.sc (.int .i64 m)) = r) : Ik (.sl id off m w) (fun t => K t) = r := h
end
section has
variable (n : Nat) (k : AV → Ab → Option AV) (H : Ab)
theorem Abm (s : ByteArray) (b : UInt8) (hs : s.size ≤ 1048576) : ∀ (r pre : List UInt8) (m : Nat), s.data.toList = pre ++ r → r.length < m →
  Og (PR n AV) n k m (ss s) (su b.toNat) (si pre.length) H = k (sb (r.any fun c => c == b)) H
 | [], pre, m + 1, hl, hm => by
  have h1 : s.size = pre.length := by
   have := congrArg List.length hl
   simpa using this
  rw [Og]
  simp only [Hz, Eu, D6]
  rw [W5, Hg, h1, C1, if_neg (by simp)]
  rfl
 | c :: r, pre, m + 1, hl, hm => by
  have h1 : s.size = pre.length + r.length + 1 := by
   have := congrArg List.length hl
   simpa [zaH] using this
  rw [Og]
  simp only [Hz, Eu, D6, Ob]
  rw [W5, Hg, C1, if_pos (by simp; omega), AlZ s pre.length c _ (by rw [hl]; simp)]
  have he : ∀ K : AV → Option AV, Bz .eql (su (c.toNat : Int)) (su (b.toNat : Int)) K = K (sb (c == b)) := by
   intro K
   show K (.sc (.bool ((c.toNat : Int) == (b.toNat : Int)))) = _
   congr 3
   rw [zbF, beq_iff_eq, beq_iff_eq, Int.ofNat_inj, UInt8.toNat_inj]
  rw [he, C1, zbI]
  cases hcb : (c == b)
  rw [if_neg (by simp), Hf _ _ (by omega)]
  have ih := Abm s b hs r (pre ++ [c]) m (by rw [hl]; simp) (by simpa using hm)
  rw [zae, zas] at ih
  rw [ih]
  rfl
  rw [if_pos rfl]
  rfl
end has
theorem AoR (n : Nat) (hn : 1048576 < n) (ty : Nat) (s : ByteArray) (b : UInt8) (hs : s.size ≤ 1048576) : Cb E0 (n + 1) ty 127 [.sc (.string s), .sc (.int .u8 b.toNat)] = some (.sc (.bool (Iz s b))) := by
 rw [At, AjA, f127]
 have key := Abm n (fun x H => A4 Ak E0.tp ty H x) [] s b hs s.data.toList [] n rfl (by simp; omega)
 simp only [zax, zaX] at key
 rw [key]
 rfl
theorem AlY (n : Nat) (hn : 1048576 < n) (ty : Nat) (s : ByteArray) (hs : s.size ≤ 1048576) : Cb E0 (n + 1) ty 127 [.sc (.string s), .sc (.int .u8 43)] = some (.sc (.bool (Iz s 43))) := AoR n hn ty s 43 hs
theorem Aif (n : Nat) (hn : 1048576 < n) (ty : Nat) (s : ByteArray) (hs : s.size ≤ 1048576) : Cb E0 (n + 1) ty 127 [.sc (.string s), .sc (.int .u8 35)] = some (.sc (.bool (Iz s 35))) := AoR n hn ty s 35 hs
theorem Alq : ∃ i j, Ak 56 = some i ∧ Ak i.elem = some j ∧ j.size = 1 ∧ j.cty = [i.elem] := ⟨_, _, rfl, rfl, rfl, rfl⟩
def Alp (l : List UInt8) : AV := .sc (.string (ofL l))
theorem Ab0 (s : ByteArray) (P cur r : List UInt8) (h : s.data.toList = P ++ (cur ++ r)) : s.extract P.length (P.length + cur.length) = ofL cur := by
 have : (s.extract P.length (P.length + cur.length)).data.toList = cur := by
  rw [ByteArray.data_extract, Array.toList_extract, List.extract, h]
  rw [za5 (zao _), zaW, zai, zbv, List.take_append_of_le_length (zao _), zaJ]
 rw [← Abz (s.extract _ _), this]
theorem Zj {H : Ab} {x : AV} {cnt : Nat} {cells : List AV} {K : AV → Ab → Option AV} {r : Option AV} (s : ByteArray) (P cur rest : List UInt8) (hl : s.data.toList = P ++ (cur ++ rest)) (hs : s.size ≤ 1048576) (hx : OwnS 7 H 1 [9] x cnt cells) (hc : cnt ≤ 1048577)
  (h : ∀ x' H', OwnS 7 H' 1 [9] x' (cnt + 1) (cells ++ [Alp cur]) → K x' H' = r) :
  (Qz (ss s) (some (si P.length)) (some (si ((P.length + cur.length : Nat) : Int))) fun t27 => (Ji [sE] [(0, 1, t27)]).bind fun ct28 => G5 1 1 ct28 true H fun t28 H => Lk 1 16 x t28 H K) = r := by
 have hsz : P.length + cur.length ≤ s.size := by
  have := congrArg List.length hl
  simp at this
  omega
 simp only [Qz, asS, K2, asI, zad]
 rw [if_pos (by omega)]
 simp only [zbg]
 rw [Ab0 s P cur rest hl]
 have hf : Ji [sE] [(0, 1, ss (ofL cur))] = some [ss (ofL cur)] := rfl
 rw [hf, zad]
 have key := Ajl (H := H) (X := []) (bytes := 16) (er := [ss (ofL cur)]) (ec := [Alp cur]) (eids := []) (K := K) (r := r) hx rfl rfl rfl List.nodup_nil (fun i hi => by cases hi) (by omega) h
 rw [zam] at key
 exact key
theorem W6 (n : Nat) (s : ByteArray) (hs : s.size ≤ 1048576) : ∀ (r P cur : List UInt8) (m : Nat) (x : AV) (H : Ab) (cnt : Nat) (cells : List AV), s.data.toList = P ++ (cur ++ r) → r.length + 1 < m → OwnS 7 H 1 [9] x cnt cells → cnt ≤ P.length →
  Le (PR n AV) n (fun x H => A4 Ak E0.tp 56 H x) m (ss s) x (si P.length) (si ((P.length + cur.length : Nat) : Int)) H = some (.ro (cnt + (lvL cur r).length) (cells ++ (lvL cur r).map Alp))
 | [], P, cur, m + 2, x, H, cnt, cells, hl, hm, hx, hc => by
  have h1 : s.size = P.length + cur.length := by
   have := congrArg List.length hl
   simpa using this
  rw [Le]
  simp only [Hz, Eu, D6, Fo, Pr.gT, Pr.gF, Pr.hT, Pr.hF, Pr.kT, Pr.kF, Gx, Jg, Mo, Kl, Pc, Ob]
  rw [W5, Zi, C1, if_pos (by simp; omega), W5, Al5]
  have he : (((P.length + cur.length : Nat) : Int) == (s.size : Int)) = true := by simp; omega
  refine J5 he (J5 he (J5 he (J5 he (Adc he (Q7 rfl (Zj s P cur [] hl hs hx (by omega) fun x' H' hx' => ?_))))))
  rw [Hf _ _ (by omega), Hf _ _ (by omega)]
  rw [Le]
  simp only [Hz, Eu, D6]
  rw [W5, Zi, C1, if_neg (by simp; omega)]
  obtain ⟨i, j, e1, e2, e3, e4⟩ := Alq
  obtain ⟨ids, ho, hno⟩ := AkY (d := 7) (tyS := 56) (w := 1) (cty := [9]) ⟨_, _, rfl, rfl, rfl, rfl⟩ hx'
  rw [A4, ho, zad, if_pos hno]
  rfl
 | c :: r, P, cur, m + 1, x, H, cnt, cells, hl, hm, hx, hc => by
  have h1 : s.size = P.length + cur.length + r.length + 1 := by
   have := congrArg List.length hl
   simp at this
   omega
  have hidx : s.data.toList[P.length + cur.length]? = some c := by
   rw [hl, ← zaf, ← zae, zaj (zao _), zbe]
   rfl
  rw [Le]
  simp only [Hz, Eu, D6, Fo, Pr.gT, Pr.gF, Pr.hT, Pr.hF, Pr.kT, Pr.kF, Gx, Jg, Mo, Kl, Pc, Ob]
  rw [W5, Zi, C1, if_pos (by simp; omega), W5, Al5]
  have he : (((P.length + cur.length : Nat) : Int) == (s.size : Int)) = false := by simp; omega
  refine I0 he (I0 he (I0 he ?_))
  rw [AlZ s (P.length + cur.length) c _ hidx]
  refine I0 he (Dx (v := sb (c == 47)) (fun K => ?_) ?_)
  show K (.sc (.bool ((c.toNat : Int) == (47 : Int)))) = _
  congr 3
  rw [zbF, beq_iff_eq, beq_iff_eq, show (47 : Int) = (((47 : UInt8).toNat : Nat) : Int) from rfl, Int.ofNat_inj, UInt8.toNat_inj]
  refine AbT he ?_
  rw [lvL]
  by_cases h47 : c = 47
  refine Q7 (by simp [h47]) (Zj s P cur (c :: r) hl hs hx (by omega) fun x' H' hx' => ?_)
  rw [Hf _ _ (by omega), Hf _ _ (by omega), if_pos h47]
  have ih := W6 n s hs r (P ++ cur ++ [c]) [] m x' H' (cnt + 1) (cells ++ [Alp cur]) (by rw [hl]; simp) (by simpa using hm) hx' (by simp; omega)
  simp only [zae, zax, zas, zaR] at ih
  rw [ih]
  simp [zaH, zbM]
  refine T6 (by simpa using h47) ?_
  rw [Hf _ _ (by omega), if_neg h47]
  have ih := W6 n s hs r P (cur ++ [c]) m x H cnt cells (by rw [hl]; simp) (by simpa using hm) hx hc
  rw [zae, zas, ← zaH] at ih
  exact ih
theorem Ut (n : Nat) (hn : 1048577 < n) (s : ByteArray) (hs : s.size ≤ 1048576) : Cb E0 (n + 1) 56 128 [.sc (.string s)] = some (.ro (Be s).length ((Be s).map fun x => .sc (.string x))) := by
 rw [At, AjB, f128]
 have key := W6 n s hs s.data.toList [] [] n .nl [] 0 [] rfl (by simp; omega) (OwnS.nil _ _ _ _) (by simp)
 simp only [zax, zaX, za0, zai] at key
 rw [key, Be, zbQ, zbT]
 rfl
theorem Ui (n : Nat) (s : ByteArray) (hs : s.size ≤ 1048576) : Cb E0 (n + 1) 56 137 [.sc (.string s)] = some (.ro (Be s).length ((Be s).map fun x => .sc (.string x))) := by
 rw [At, AjI, f137]
 have hg : Te 56 [ss s, .sc (.string ⟨#[47]⟩)] = some (.ro (Be s).length ((Be s).map fun x => ss x)) := by
  unfold Te
  exact if_pos ⟨rfl, rfl, by omega⟩
 rw [AbY (g := Te) rfl (Co (Iv _ _) (Co (Iv _ _) G7)) hg]
 refine AdT [] _ _ ?_
 refine ⟨_, _, rfl, rfl, by simp, ?_⟩
 have := Ts (f := Hq Ak E0.tp 7) (cty := [9]) (enc := fun x : ByteArray => [ss x]) (Be s) (fun x _ => ⟨trivial, trivial⟩)
 rw [Sb] at this
 exact this
theorem Y3 (ty : Nat) (s : ByteArray) (hs : s.size ≤ 1048576) : V7 ty [.sc (.string s), .sc (.string ⟨#[43, 35]⟩)] = some (.sc (.bool (vPH s))) := by
 unfold V7
 exact if_pos ⟨rfl, by omega⟩
end
section
open Go
section
variable {ti : Nat → Option TI} {tp : Nat → Option (List Nat)} {H : Ab}
theorem Qa {d d' : Nat} (hd : ∀ ty x t I, Cz ti tp H d ty x = some (t, I) → Hq ti tp d' ty t → Cz ti tp H d' ty x = some (t, I)) : ∀ (ts : List Nat) (xs cells : List AV) (I : List Nat), Di (Cz ti tp H d) ts xs = some (cells, I) → Fv (Hq ti tp d') ts cells → Di (Cz ti tp H d') ts xs = some (cells, I)
 | ts, [], cells, I, h, _ => by
  obtain ⟨rfl, e⟩ := Iw h
  cases e
  rfl
 | [], _ :: _, _, _, h, _ => by simp [Di] at h
 | t :: ts, x :: xs, cells, I, h, ho => by
  obtain ⟨a, b, h1, h2, e⟩ := Gj h
  cases e
  have e1 := hd t x a.1 a.2 h1 ho.1
  have e2 := Qa hd ts xs b.1 b.2 h2 ho.2
  rw [Di, e1, zad, e2]
  rfl
theorem Jw : ∀ (d d' ty : Nat) (x t : AV) (I : List Nat), Cz ti tp H d ty x = some (t, I) → Hq ti tp d' ty t → Cz ti tp H d' ty x = some (t, I)
 | 0, _, _, _, _, _, h, _ => by simp [Cz] at h
 | d + 1, 0, _, _, _, _, _, ho => by cases ho
 | d + 1, d' + 1, ty, x, t, I, h, ho => by
  cases x with
  | sc v =>
   obtain ⟨rfl, rfl⟩ : AV.sc v = t ∧ [] = I := by simpa [Cz] using h
   rfl
  | nl =>
   obtain ⟨rfl, rfl⟩ : AV.ro 0 [] = t ∧ [] = I := by simpa [Cz] using h
   rfl
  | sl id off n z =>
   rw [I8] at h ⊢
   simp only [zab] at h
   obtain ⟨i, h1, j, h2, h3⟩ := h
   split at h3
   case isFalse => cases h3
   rename_i hz
   split at h3
   case isFalse => cases h3
   rename_i ha
   simp only [zab] at h3
   obtain ⟨cs, h4, q, h5, h6⟩ := h3
   obtain ⟨rfl, rfl⟩ : AV.ro n q.1 = t ∧ id :: q.2 = I := by simpa using h6
   obtain ⟨i', j', g1, g2, g3, g4⟩ := ho
   rw [h1] at g1
   cases g1
   rw [h2] at g2
   cases g2
   have e3 := Qa (fun ty x t I h ho => Jw d d' ty x t I h ho) _ _ _ _ h5 g4
   rw [hz] at h4
   simp only [h1, h2, zad, hz, if_true, ha, h4, e3]
  | agg cs =>
   rw [Jv] at h ⊢
   simp only [zab] at h
   obtain ⟨i, h1, q, h2, h3⟩ := h
   obtain ⟨rfl, rfl⟩ : AV.agg q.1 = t ∧ q.2 = I := by simpa using h3
   obtain ⟨i', g1, g2⟩ := ho
   rw [h1] at g1
   cases g1
   have e3 := Qa (fun ty x t I h ho => Jw d d' ty x t I h ho) _ _ _ _ h2 g2
   rw [h1, zad, e3]
   rfl
  | tup cs =>
   rw [Kq] at h ⊢
   simp only [zab] at h
   obtain ⟨i, h1, q, h2, h3⟩ := h
   obtain ⟨rfl, rfl⟩ : AV.tup q.1 = t ∧ q.2 = I := by simpa using h3
   obtain ⟨i', g1, g2⟩ := ho
   rw [h1] at g1
   cases g1
   have e3 := Qa (fun ty x t I h ho => Jw d d' ty x t I h ho) _ _ _ _ h2 g2
   rw [h1, zad, e3]
   rfl
  | _ => simp [Cz] at h
theorem Zt {d : Nat} (hd : ∀ ty x t I, Cz ti tp H d ty x = some (t, I) → C5 H d x = some t) : ∀ (ts : List Nat) (xs cells : List AV) (I : List Nat), Di (Cz ti tp H d) ts xs = some (cells, I) → xs.mapM (C5 H d) = some cells
 | ts, [], cells, I, h => by
  obtain ⟨rfl, e⟩ := Iw h
  cases e
  rfl
 | [], _ :: _, _, _, h => by simp [Di] at h
 | t :: ts, x :: xs, cells, I, h => by
  obtain ⟨a, b, h1, h2, e⟩ := Gj h
  cases e
  simp only [zaI, hd t x a.1 a.2 h1, Zt hd ts xs b.1 b.2 h2, zbh, zaP, zad]
theorem Qc : ∀ (d ty : Nat) (x t : AV) (I : List Nat), Cz ti tp H d ty x = some (t, I) → C5 H d x = some t
 | 0, _, _, _, _, h => by simp [Cz] at h
 | d + 1, ty, x, t, I, h => by
  have ih := Zt (ti := ti) (tp := tp) (H := H) (d := d) (fun ty x t I h => Qc d ty x t I h)
  cases x with
  | sc v =>
   obtain ⟨rfl, rfl⟩ : AV.sc v = t ∧ [] = I := by simpa [Cz] using h
   rfl
  | nl =>
   obtain ⟨rfl, rfl⟩ : AV.ro 0 [] = t ∧ [] = I := by simpa [Cz] using h
   rfl
  | sl id off n z =>
   rw [I8] at h
   simp only [zab] at h
   obtain ⟨i, h1, j, h2, h3⟩ := h
   split at h3
   case isFalse => cases h3
   split at h3
   case isFalse => cases h3
   simp only [zab] at h3
   obtain ⟨cs, h4, q, h5, h6⟩ := h3
   obtain ⟨rfl, rfl⟩ : AV.ro n q.1 = t ∧ id :: q.2 = I := by simpa using h6
   rw [S9, h4, zad, ih _ _ _ _ h5]
   rfl
  | agg cs =>
   rw [Jv] at h
   simp only [zab] at h
   obtain ⟨i, h1, q, h2, h3⟩ := h
   obtain ⟨rfl, rfl⟩ : AV.agg q.1 = t ∧ q.2 = I := by simpa using h3
   rw [N2, ih _ _ _ _ h2]
   rfl
  | tup cs =>
   rw [Kq] at h
   simp only [zab] at h
   obtain ⟨i, h1, q, h2, h3⟩ := h
   obtain ⟨rfl, rfl⟩ : AV.tup q.1 = t ∧ q.2 = I := by simpa using h3
   show (cs.mapM (C5 H d)).bind _ = _
   rw [ih _ _ _ _ h2]
   rfl
  | _ => simp [Cz] at h
theorem Nv {f g : Nat → AV → Prop} (hfg : ∀ t x, f t x → g t x) : ∀ {ts : List Nat} {cs : List AV}, Fv f ts cs → Fv g ts cs
 | [], [], h => h
 | _ :: ts, _ :: cs, h => ⟨hfg _ _ h.1, Nv hfg h.2⟩
theorem Sr : ∀ (d ty : Nat) (x : AV), Hq ti tp d ty x → Hq ti tp (d + 1) ty x
 | 0, _, _, h => by cases h
 | d + 1, ty, x, h => by
  cases x with
  | sc v => trivial
  | ro n cells =>
   obtain ⟨i, j, h1, h2, h3, h4⟩ := h
   exact ⟨i, j, h1, h2, h3, Nv (Sr d) h4⟩
  | agg cs =>
   obtain ⟨i, h1, h2⟩ := h
   exact ⟨i, h1, Nv (Sr d) h2⟩
  | tup cs =>
   obtain ⟨i, h1, h2⟩ := h
   exact ⟨i, h1, Nv (Sr d) h2⟩
  | _ => cases h
theorem Bh {d d' ty : Nat} {x : AV} (h : Hq ti tp d ty x) (hd : d ≤ d') : Hq ti tp d' ty x := by
 induction hd with
 | refl => exact h
 | step _ ih => exact Sr _ _ _ ih
theorem AkV {d d' : Nat} {ts : List Nat} {cs : List AV} (h : Fv (Hq ti tp d) ts cs) (hd : d ≤ d') : Fv (Hq ti tp d') ts cs := Nv (fun _ _ h => Bh h hd) h
end
inductive Ck where
 | blk (id : Nat) (cs : List AV) (a : Bool)
 | own (x : AV) (ty : Nat) (t : AV)
 | shr (x : AV) (ty : Nat) (t : AV) (y : AV) (ty' : Nat) (t' : AV)
 | shs (x : AV) (ty : Nat) (t : AV) (ys : List (AV × Nat × AV))
def CkOk (H : Ab) (c : Ck) (I : List Nat) : Prop :=
 match c with
 | .blk id cs a => I = [id] ∧ H[id]? = some ⟨cs, true, a⟩
 | .own x ty t => A2 x = true ∧ Hq Ak E0.tp 6 ty t ∧ Cz Ak E0.tp H 6 ty x = some (t, I)
 | .shr x ty t y ty' t' => (A2 x = true ∧ Hq Ak E0.tp 6 ty t ∧ Cz Ak E0.tp H 6 ty x = some (t, I)) ∧ Hq Ak E0.tp 6 ty' t' ∧ ∃ J, Cz Ak E0.tp H 6 ty' y = some (t', J) ∧ ∀ i ∈ J, i ∈ I
 | .shs x ty t ys => (A2 x = true ∧ Hq Ak E0.tp 6 ty t ∧ Cz Ak E0.tp H 6 ty x = some (t, I)) ∧ ∀ q ∈ ys, Hq Ak E0.tp 6 q.2.1 q.2.2 ∧ ∃ J, Cz Ak E0.tp H 6 q.2.1 q.1 = some (q.2.2, J) ∧ ∀ i ∈ J, i ∈ I
def SepI (H : Ab) : List Ck → List Nat → Prop
 | [], I => I = []
 | c :: L, I => ∃ J R, I = J ++ R ∧ CkOk H c J ∧ SepI H L R
def Sep (H : Ab) (L : List Ck) : Prop := ∃ I, SepI H L I ∧ I.Nodup
inductive Pk : List Ck → Ck → List Ck → Prop
 | here {c : Ck} {L : List Ck} : Pk (c :: L) c L
 | there {a c : Ck} {L L' : List Ck} : Pk L c L' → Pk (a :: L) c (a :: L')
section
variable {H H' : Ab} {L L' L1 L2 : List Ck} {c : Ck} {I J R : List Nat}
theorem B4 : Sep H [] := ⟨[], rfl, List.nodup_nil⟩
theorem CkOk.frame (h : CkOk H c I) (hs : ∀ i ∈ I, H'[i]? = H[i]?) : CkOk H' c I := by
 cases c with
 | blk id cs a =>
  obtain ⟨rfl, h2⟩ := h
  exact ⟨rfl, by rw [hs id (by simp)]; exact h2⟩
 | own x ty t => exact ⟨h.1, h.2.1, F5 6 ty x _ h.2.2 hs⟩
 | shr x ty t y ty' t' =>
  obtain ⟨⟨h1, h2, h3⟩, h4, J, h5, h6⟩ := h
  exact ⟨⟨h1, h2, F5 6 ty x _ h3 hs⟩, h4, J, F5 6 ty' y _ h5 fun i hi => hs i (h6 i hi), h6⟩
 | shs x ty t ys =>
  obtain ⟨⟨h1, h2, h3⟩, h4⟩ := h
  exact ⟨⟨h1, h2, F5 6 ty x _ h3 hs⟩, fun q hq => by
   obtain ⟨g1, J, g2, g3⟩ := h4 q hq
   exact ⟨g1, J, F5 6 _ _ _ g2 fun i hi => hs i (g3 i hi), g3⟩⟩
theorem CkOk.lt (h : CkOk H c I) : ∀ i ∈ I, i < H.length := by
 cases c with
 | blk id cs a =>
  obtain ⟨rfl, h2⟩ := h
  intro i hi
  rw [zbu] at hi
  subst hi
  exact (zac.1 h2).1
 | own x ty t => exact Qb 6 ty x _ h.2.2
 | shr x ty t y ty' t' => exact Qb 6 ty x _ h.1.2.2
 | shs x ty t ys => exact Qb 6 ty x _ h.1.2.2
theorem SepI.frame : ∀ {L : List Ck} {I : List Nat}, SepI H L I → (∀ i ∈ I, H'[i]? = H[i]?) → SepI H' L I
 | [], I, h, _ => h
 | c :: L, I, h, hs => by
  obtain ⟨J, R, rfl, h1, h2⟩ := h
  exact ⟨J, R, rfl, h1.frame fun i hi => hs i (za8 _ hi), h2.frame fun i hi => hs i (zaE _ hi)⟩
theorem SepI.lt : ∀ {L : List Ck} {I : List Nat}, SepI H L I → ∀ i ∈ I, i < H.length
 | [], I, h => by
  cases (show I = [] from h)
  intro i hi
  cases hi
 | c :: L, I, h => by
  obtain ⟨J, R, rfl, h1, h2⟩ := h
  intro i hi
  rcases zaQ.1 hi with hi | hi
  ·exact h1.lt i hi
  ·exact h2.lt i hi
theorem SepI.grow (h : SepI H L I) (X : List Iu) : SepI (H ++ X) L I := h.frame fun i hi => zal (h.lt i hi)
theorem Sep.grow (h : Sep H L) (X : List Iu) : Sep (H ++ X) L := by
 obtain ⟨I, h1, h2⟩ := h
 exact ⟨I, h1.grow X, h2⟩
theorem Sep.new {X : List Iu} (hs : Sep H L) (hc : CkOk (H ++ X) c J) (hJ : J.Nodup) (hge : ∀ i ∈ J, H.length ≤ i) : Sep (H ++ X) (c :: L) := by
 obtain ⟨I, h1, h2⟩ := hs
 refine ⟨J ++ I, ⟨J, I, rfl, hc, h1.grow X⟩, zbf.2 ⟨hJ, h2, fun a ha b hb e => ?_⟩⟩
 have := h1.lt b hb
 have := hge a ha
 omega
theorem Pk.sepI : ∀ {L L' : List Ck} {c : Ck} {I : List Nat}, Pk L c L' → SepI H L I → ∃ J R, CkOk H c J ∧ SepI H L' R ∧ I.Perm (J ++ R)
 | _, _, _, _, .here, h => by
  obtain ⟨J, R, rfl, h1, h2⟩ := h
  exact ⟨J, R, h1, h2, zbH.refl _⟩
 | _, _, _, _, .there p, h => by
  obtain ⟨J, R, rfl, h1, h2⟩ := h
  obtain ⟨J', R', g1, g2, g3⟩ := p.sepI h2
  refine ⟨J', J ++ R', g1, ⟨J, R', rfl, h1, g2⟩, ?_⟩
  refine (zbH.append_left J g3).trans ?_
  rw [← zaf, ← zaf]
  exact zbH.append_right R' List.perm_append_comm
theorem Sep.pick (h : Sep H L) (p : Pk L c L') : Sep H (c :: L') := by
 obtain ⟨I, h1, h2⟩ := h
 obtain ⟨J, R, g1, g2, g3⟩ := p.sepI h1
 exact ⟨J ++ R, ⟨J, R, rfl, g1, g2⟩, g3.nodup_iff.1 h2⟩
theorem Sep.tail (h : Sep H (c :: L)) : Sep H L := by
 obtain ⟨I, ⟨J, R, rfl, h1, h2⟩, h3⟩ := h
 exact ⟨R, h2, (zbf.1 h3).2.1⟩
theorem Sep.blk {id : Nat} {cs : List AV} {a : Bool} (h : Sep H L) (p : Pk L (.blk id cs a) L') : H[id]? = some ⟨cs, true, a⟩ := by
 obtain ⟨I, ⟨J, R, rfl, h1, h2⟩, h3⟩ := h.pick p
 exact h1.2
theorem Sep.put {id : Nat} {cs : List AV} {a : Bool} (h : Sep H L) (p : Pk L (.blk id cs a) L') (cs' : List AV) (a' : Bool) : Sep (H.set id ⟨cs', true, a'⟩) (.blk id cs' a' :: L') := by
 obtain ⟨I, ⟨J, R, rfl, ⟨rfl, h1⟩, h2⟩, h3⟩ := h.pick p
 have hn := (zbr.1 h3).1
 have hl := (zac.1 h1).1
 refine ⟨[id] ++ R, ⟨[id], R, rfl, ⟨rfl, by rw [List.getElem?_set_self hl]⟩, h2.frame fun i hi => ?_⟩, h3⟩
 rw [zbJ]
 rintro rfl
 exact hn hi
theorem Sep.own {x t : AV} {ty : Nat} (h : Sep H L) (p : Pk L (.own x ty t) L') : A2 x = true ∧ Hq Ak E0.tp 6 ty t ∧ ∃ I, Cz Ak E0.tp H 6 ty x = some (t, I) ∧ I.Nodup := by
 obtain ⟨I, ⟨J, R, rfl, ⟨h0, h1, h1'⟩, h2⟩, h3⟩ := h.pick p
 exact ⟨h0, h1, J, h1', (zbf.1 h3).1⟩
theorem Sep.seen {x t y t' : AV} {ty ty' : Nat} (h : Sep H L) (p : Pk L (.shr x ty t y ty' t') L') : Hq Ak E0.tp 6 ty' t' ∧ ∃ I, Cz Ak E0.tp H 6 ty' y = some (t', I) := by
 obtain ⟨I, ⟨J, R, rfl, ⟨h0, h1, J', h1', h3⟩, h2⟩, h4⟩ := h.pick p
 exact ⟨h1, J', h1'⟩
theorem Sep.toShs {x t : AV} {ty : Nat} (h : Sep H L) (p : Pk L (.own x ty t) L') : Sep H (.shs x ty t [] :: L') := by
 obtain ⟨I, ⟨J, R, rfl, h0, h2⟩, h3⟩ := h.pick p
 exact ⟨J ++ R, ⟨J, R, rfl, ⟨h0, fun q hq => by cases hq⟩, h2⟩, h3⟩
theorem Sep.ofShs {x t : AV} {ty : Nat} {ys : List (AV × Nat × AV)} (h : Sep H L) (p : Pk L (.shs x ty t ys) L') : Sep H (.own x ty t :: L') := by
 obtain ⟨I, ⟨J, R, rfl, ⟨h0, _⟩, h2⟩, h3⟩ := h.pick p
 exact ⟨J ++ R, ⟨J, R, rfl, h0, h2⟩, h3⟩
theorem Sep.seenS {x t : AV} {ty k : Nat} {ys : List (AV × Nat × AV)} {q : AV × Nat × AV} (h : Sep H L) (p : Pk L (.shs x ty t ys) L') (hk : ys[k]? = some q) : Hq Ak E0.tp 6 q.2.1 q.2.2 ∧ ∃ I, Cz Ak E0.tp H 6 q.2.1 q.1 = some (q.2.2, I) := by
 obtain ⟨I, ⟨J, R, rfl, ⟨h0, h1⟩, h2⟩, h4⟩ := h.pick p
 obtain ⟨g1, J', g2, _⟩ := h1 q (List.mem_of_getElem? hk)
 exact ⟨g1, J', g2⟩
theorem Sep.forget {x t y t' : AV} {ty ty' : Nat} (h : Sep H L) (p : Pk L (.shr x ty t y ty' t') L') : Sep H (.own x ty t :: L') := by
 obtain ⟨I, ⟨J, R, rfl, ⟨h0, _⟩, h2⟩, h4⟩ := h.pick p
 exact ⟨J ++ R, ⟨J, R, rfl, h0, h2⟩, h4⟩
theorem Sep.nl {ty : Nat} (h : Sep H L) (hty : ∃ i j, Ak ty = some i ∧ Ak i.elem = some j) : Sep H (.own .nl ty (.ro 0 []) :: L) := by
 obtain ⟨I, h1, h2⟩ := h
 obtain ⟨i, j, e1, e2⟩ := hty
 exact ⟨[] ++ I, ⟨[], I, rfl, ⟨rfl, ⟨i, j, e1, e2, by simp, by simp [Fv]⟩, rfl⟩, h1⟩, h2⟩
inductive OwnR : List Ck → List AV → List Nat → List AV → List Ck → Prop
 | nil {L : List Ck} : OwnR L [] [] [] L
 | sc {L L' : List Ck} {v : Value} {raw cells : List AV} {ty : Nat} {tys : List Nat} : OwnR L raw tys cells L' → OwnR L (.sc v :: raw) (ty :: tys) (.sc v :: cells) L'
 | nl {L L' : List Ck} {raw cells : List AV} {ty : Nat} {tys : List Nat} : OwnR L raw tys cells L' → OwnR L (.nl :: raw) (ty :: tys) (.ro 0 [] :: cells) L'
 | own {L L1 L' : List Ck} {x t : AV} {raw cells : List AV} {ty : Nat} {tys : List Nat} : Pk L (.own x ty t) L1 → OwnR L1 raw tys cells L' → OwnR L (x :: raw) (ty :: tys) (t :: cells) L'
 | agg {L L1 L' : List Ck} {cs ts raw cells : List AV} {ty : Nat} {tys cty : List Nat} : (∃ i, Ak ty = some i ∧ i.cty = cty) → OwnR L cs cty ts L1 → OwnR L1 raw tys cells L' → OwnR L (.agg cs :: raw) (ty :: tys) (.agg ts :: cells) L'
theorem OwnR.sound : ∀ {L L' : List Ck} {raw cells : List AV} {tys : List Nat} {I : List Nat}, OwnR L raw tys cells L' → SepI H L I → ∀ d, Fv (Hq Ak E0.tp d) tys cells → ∃ J R, Di (Cz Ak E0.tp H d) tys raw = some (cells, J) ∧ SepI H L' R ∧ I.Perm (J ++ R)
 | _, _, _, _, _, I, .nil, h, d, _ => ⟨[], I, rfl, h, zbH.refl _⟩
 | _, _, _, _, _, I, .sc q, h, d + 1, ho => by
  obtain ⟨J, R, h1, h2, h3⟩ := q.sound h (d + 1) ho.2
  refine ⟨J, R, ?_, h2, h3⟩
  rw [Di, Aa3, zad, h1]
  rfl
 | _, _, _, _, _, I, .nl q, h, d + 1, ho => by
  obtain ⟨J, R, h1, h2, h3⟩ := q.sound h (d + 1) ho.2
  refine ⟨J, R, ?_, h2, h3⟩
  rw [Di, show Cz Ak E0.tp H (d + 1) _ .nl = some (.ro 0 [], []) from rfl, zad, h1]
  rfl
 | _, _, _, _, _, I, .own p q, h, d, ho => by
  obtain ⟨J1, R1, g1, g2, g3⟩ := p.sepI h
  obtain ⟨J, R, h1, h2, h3⟩ := q.sound g2 d ho.2
  have e := Jw 6 d _ _ _ _ g1.2.2 ho.1
  refine ⟨J1 ++ J, R, ?_, h2, ?_⟩
  ·rw [Di, e, zad, h1]
   rfl
  ·refine g3.trans ?_
   rw [zaf]
   exact zbH.append_left J1 h3
 | _, _, _, _, _, I, .agg hty p q, h, d + 1, ho => by
  obtain ⟨i, e1, rfl⟩ := hty
  obtain ⟨i', g1, g2⟩ := ho.1
  rw [e1] at g1
  cases g1
  obtain ⟨J1, R1, a1, a2, a3⟩ := p.sound h (d + 1) (AkV g2 (Nat.le_succ d))
  obtain ⟨J, R, h1, h2, h3⟩ := q.sound a2 (d + 1) ho.2
  have a1' := Qa (fun ty x t I h ho => Jw (d + 1) d ty x t I h ho) _ _ _ _ a1 g2
  refine ⟨J1 ++ J, R, ?_, h2, ?_⟩
  ·rw [Di, Jv, e1, zad, a1', zad, zad, h1]
   rfl
  ·refine a3.trans ?_
   rw [zaf]
   exact zbH.append_left J1 h3
 | _, _, _, _, _, I, .sc q, h, 0, ho => by cases ho.1
 | _, _, _, _, _, I, .nl q, h, 0, ho => by cases ho.1
 | _, _, _, _, _, I, .agg _ p q, h, 0, ho => by cases ho.1
end
end
section
open Go
theorem Cl {a0 x : Ck} {L : List Ck} : Pk (a0 :: x :: L) x (a0 :: L) := .there (.here)
theorem Fy {a0 a1 x : Ck} {L : List Ck} : Pk (a0 :: a1 :: x :: L) x (a0 :: a1 :: L) := .there (.there (.here))
theorem Ls {a0 a1 a2 x : Ck} {L : List Ck} : Pk (a0 :: a1 :: a2 :: x :: L) x (a0 :: a1 :: a2 :: L) := .there (.there (.there (.here)))
theorem Mm {a0 a1 a2 a3 x : Ck} {L : List Ck} : Pk (a0 :: a1 :: a2 :: a3 :: x :: L) x (a0 :: a1 :: a2 :: a3 :: L) := .there (.there (.there (.there (.here))))
theorem U5 {a0 a1 a2 a3 a4 x : Ck} {L : List Ck} : Pk (a0 :: a1 :: a2 :: a3 :: a4 :: x :: L) x (a0 :: a1 :: a2 :: a3 :: a4 :: L) := .there (.there (.there (.there (.there (.here)))))
theorem Yw {a0 a1 a2 a3 a4 a5 x : Ck} {L : List Ck} : Pk (a0 :: a1 :: a2 :: a3 :: a4 :: a5 :: x :: L) x (a0 :: a1 :: a2 :: a3 :: a4 :: a5 :: L) := .there (.there (.there (.there (.there (.there (.here))))))
theorem zP7 {a0 a1 a2 a3 a4 a5 a6 x : Ck} {L : List Ck} : Pk (a0 :: a1 :: a2 :: a3 :: a4 :: a5 :: a6 :: x :: L) x (a0 :: a1 :: a2 :: a3 :: a4 :: a5 :: a6 :: L) := .there (.there (.there (.there (.there (.there (.there (.here)))))))
theorem zP8 {a0 a1 a2 a3 a4 a5 a6 a7 x : Ck} {L : List Ck} : Pk (a0 :: a1 :: a2 :: a3 :: a4 :: a5 :: a6 :: a7 :: x :: L) x (a0 :: a1 :: a2 :: a3 :: a4 :: a5 :: a6 :: a7 :: L) := .there (.there (.there (.there (.there (.there (.there (.there (.here))))))))
theorem zP9 {a0 a1 a2 a3 a4 a5 a6 a7 a8 x : Ck} {L : List Ck} : Pk (a0 :: a1 :: a2 :: a3 :: a4 :: a5 :: a6 :: a7 :: a8 :: x :: L) x (a0 :: a1 :: a2 :: a3 :: a4 :: a5 :: a6 :: a7 :: a8 :: L) := .there (.there (.there (.there (.there (.there (.there (.there (.there (.here)))))))))
theorem Aqh {a0 a1 a2 a3 a4 a5 a6 a7 a8 a9 x : Ck} {L : List Ck} : Pk (a0 :: a1 :: a2 :: a3 :: a4 :: a5 :: a6 :: a7 :: a8 :: a9 :: x :: L) x (a0 :: a1 :: a2 :: a3 :: a4 :: a5 :: a6 :: a7 :: a8 :: a9 :: L) := .there (.there (.there (.there (.there (.there (.there (.there (.there (.there (.here))))))))))
def Gd {β : Type} (G : Option β → Prop) (o : Option β) : Prop := G o
section
variable {β : Type} {n : Nat} {H : Ab} {L L' L1 L2 : List Ck} {G : Option β → Prop} {K : AV → Option β} {KH : KO β}
theorem Dp {a b : Option β} (e : a = b) (h : Gd G b) : Gd G a := by rw [e]; exact h
theorem Gv {cs : List AV} (hs : Sep H L) (h : ∀ i H', Sep H' (.blk i cs true :: L) → Gd G (KH (.ptr i 0) H')) : Gd G (Xw cs H fun x H => KH x H) :=
 h _ _ (hs.new (J := [H.length]) ⟨rfl, by rw [zaj (zao _), zbe]; rfl⟩ (by simp) (by simp))
theorem Bt {k w : Nat} {cs : List AV} {a : Bool} (hs : Sep H L) (h : ∀ i H', Sep H' (.blk i cs a :: L) → Gd G (KH (.sl i 0 k w) H')) : Gd G (G5 k w cs a H fun x H => KH x H) :=
 h _ _ (hs.new (J := [H.length]) ⟨rfl, by rw [zaj (zao _), zbe]; rfl⟩ (by simp) (by simp))
theorem Ka {x : AV} {cs : List AV} (hs : Sep H L) (hc : Ev x = some cs) (h : ∀ i H', Sep H' (.blk i cs true :: L) → Gd G (KH (.ptr i 0) H')) : Gd G (Xr x H fun x H => KH x H) := by
 refine Dp (b := Xw cs H fun x H => KH x H) ?_ (Gv hs h)
 show (Ev x).bind _ = _
 rw [hc]
 rfl
theorem Ez {cs : List AV} (h : cs.all Lh = true) : Ev (.agg cs) = some cs := Abi h
theorem Aj {cs : List AV} (h : cs.all A2 = true) : Ev (.agg cs) = some cs := by
 show (if cs.all A2 then some cs else none) = _
 rw [if_pos h]
theorem Aa {x : AV} {xs : List AV} (h : A2 x = true) (hs : xs.all A2 = true) : (x :: xs).all A2 = true := by
 rw [zaz, h, hs]
 rfl
theorem Ch {x : AV} (h : A2 x = true) : Ev x = some [x] := by
 cases x <;> simp_all [Ev, A2]
theorem Bd {i o : Nat} {cs : List AV} {a : Bool} {c : AV} (hs : Sep H L) (hp : Pk L (.blk i cs a) L1) (hc : cs[o]? = some c) (h : Gd G (K c)) : Gd G (Bx false 1 (.ptr i o) H fun x => K x) := by
 refine Dp ?_ h
 obtain ⟨hlt, he⟩ := zac.1 hc
 have e : As H i o 1 = some [c] := by
  simp only [As, hs.blk hp, if_true]
  rw [if_pos (by omega), zaD hlt, he]
  rfl
 exact ldF e _
theorem AoP {i o w : Nat} {cs ds : List AV} {a : Bool} (hs : Sep H L) (hp : Pk L (.blk i cs a) L1) (hl : o + w ≤ cs.length) (hc : (cs.drop o).take w = ds) (h : Gd G (K (.agg ds))) : Gd G (Bx true w (.ptr i o) H fun x => K x) := by
 refine Dp ?_ h
 have e : As H i o w = some ds := by
  simp only [As, hs.blk hp, if_true]
  rw [if_pos hl, hc]
 exact ldT e _
theorem Av {i w : Nat} {cs : List AV} {a : Bool} (hs : Sep H L) (hp : Pk L (.blk i cs a) L1) (hl : cs.length = w) (h : Gd G (K (.agg cs))) : Gd G (Bx true w (.ptr i 0) H fun x => K x) :=
 AoP hs hp (by omega) (by rw [zaN, ← hl, zaJ]) h
theorem Cd {i o w : Nat} {cs cs' ds : List AV} {a : Bool} {y : AV} {KS : Ab → Option β} (hs : Sep H L) (hp : Pk L (.blk i cs a) L1) (hy : Ev y = some ds) (hd : ds.length = w) (hl : o + w ≤ cs.length) (hc : Fh cs o ds = cs') (h : ∀ H', Sep H' (.blk i cs' a :: L1) → Gd G (KS H')) : Gd G (Ej w (.ptr i o) y H fun H => KS H) := by
 have hb := hs.blk hp
 refine Dp (Zz w i o y ⟨cs, true, a⟩ ds H _ hb hy hd hl rfl) ?_
 have := hs.put hp cs' a
 rw [← hc] at this
 exact h _ (by rw [← hc]; exact this)
theorem Fq {cells : List AV} {c : AV} (hc : cells[0]? = some c) (h : Gd G (K c)) : Gd G (Bx false 1 (.rp cells) H fun x => K x) := by
 cases cells with
 | nil => cases hc
 | cons x xs =>
  obtain rfl : x = c := by simpa using hc
  refine Dp (P2 x xs H _) h
theorem AlW {w : Nat} {cs rest : List AV} (hw : cs.length = w) (h : Gd G (K (.agg cs))) : Gd G (Bx true w (.rp (cs ++ rest)) H fun x => K x) := Dp (Abr w cs rest H _ hw) h
theorem C6 {o i off o' : Nat} (e : off + o = o') (h : Gd G (K (.ptr i o'))) : Gd G (Dh o (.ptr i off) fun x => K x) := by subst e; exact h
theorem Q9 {i : Nat} (h : Gd G (K (.ptr i 0))) : Gd G (Dh 0 (.ptr i 0) fun x => K x) := C6 rfl h
theorem gf1 {i : Nat} (h : Gd G (K (.ptr i 1))) : Gd G (Dh 1 (.ptr i 0) fun x => K x) := C6 rfl h
theorem Wy {i : Nat} (h : Gd G (K (.ptr i 2))) : Gd G (Dh 2 (.ptr i 0) fun x => K x) := C6 rfl h
theorem gf3 {i : Nat} (h : Gd G (K (.ptr i 3))) : Gd G (Dh 3 (.ptr i 0) fun x => K x) := C6 rfl h
theorem gf4 {i : Nat} (h : Gd G (K (.ptr i 4))) : Gd G (Dh 4 (.ptr i 0) fun x => K x) := C6 rfl h
theorem gf5 {i : Nat} (h : Gd G (K (.ptr i 5))) : Gd G (Dh 5 (.ptr i 0) fun x => K x) := C6 rfl h
theorem gf6 {i : Nat} (h : Gd G (K (.ptr i 6))) : Gd G (Dh 6 (.ptr i 0) fun x => K x) := C6 rfl h
theorem gf7 {i : Nat} (h : Gd G (K (.ptr i 7))) : Gd G (Dh 7 (.ptr i 0) fun x => K x) := C6 rfl h
theorem gf8 {i : Nat} (h : Gd G (K (.ptr i 8))) : Gd G (Dh 8 (.ptr i 0) fun x => K x) := C6 rfl h
theorem gf9 {i : Nat} (h : Gd G (K (.ptr i 9))) : Gd G (Dh 9 (.ptr i 0) fun x => K x) := C6 rfl h
theorem Ak1 {i : Nat} (h : Gd G (K (.ptr i 10))) : Gd G (Dh 10 (.ptr i 0) fun x => K x) := C6 rfl h
theorem Abl {i : Nat} (h : Gd G (K (.ptr i 11))) : Gd G (Dh 11 (.ptr i 0) fun x => K x) := C6 rfl h
theorem Ak2 {i : Nat} (h : Gd G (K (.ptr i 12))) : Gd G (Dh 12 (.ptr i 0) fun x => K x) := C6 rfl h
theorem Ak3 {i : Nat} (h : Gd G (K (.ptr i 13))) : Gd G (Dh 13 (.ptr i 0) fun x => K x) := C6 rfl h
theorem Ak4 {i : Nat} (h : Gd G (K (.ptr i 14))) : Gd G (Dh 14 (.ptr i 0) fun x => K x) := C6 rfl h
theorem Ak5 {i : Nat} (h : Gd G (K (.ptr i 15))) : Gd G (Dh 15 (.ptr i 0) fun x => K x) := C6 rfl h
theorem Yu {i : Nat} (h : Gd G (K (.ptr i 16))) : Gd G (Dh 16 (.ptr i 0) fun x => K x) := C6 rfl h
theorem Afz {i : Nat} (h : Gd G (K (.ptr i 17))) : Gd G (Dh 17 (.ptr i 0) fun x => K x) := C6 rfl h
theorem Se {i : Nat} (h : Gd G (K (.ptr i 18))) : Gd G (Dh 18 (.ptr i 0) fun x => K x) := C6 rfl h
theorem Yv {i : Nat} (h : Gd G (K (.ptr i 19))) : Gd G (Dh 19 (.ptr i 0) fun x => K x) := C6 rfl h
theorem Ak6 {i : Nat} (h : Gd G (K (.ptr i 20))) : Gd G (Dh 20 (.ptr i 0) fun x => K x) := C6 rfl h
theorem Ak7 {i : Nat} (h : Gd G (K (.ptr i 21))) : Gd G (Dh 21 (.ptr i 0) fun x => K x) := C6 rfl h
theorem Py {i : Nat} (h : Gd G (K (.ptr i 22))) : Gd G (Dh 22 (.ptr i 0) fun x => K x) := C6 rfl h
theorem Pz {i : Nat} (h : Gd G (K (.ptr i 23))) : Gd G (Dh 23 (.ptr i 0) fun x => K x) := C6 rfl h
theorem Q6 {i : Nat} (h : Gd G (K (.ptr i 24))) : Gd G (Dh 24 (.ptr i 0) fun x => K x) := C6 rfl h
theorem Vb {o : Nat} {cells : List AV} (h : Gd G (K (.rp (cells.drop o)))) : Gd G (Dh o (.rp cells) fun x => K x) := h
theorem Cy {id off : Nat} (h : Gd G (K (.ptr id off))) : Gd G (Ai7 (.ptr id off) fun t => K t) := h
theorem Gh {z cs z' r : List AV} {o n : Nat} {v : AV} {rest : List (Nat × Nat × AV)} (h : Ev v = some cs) (hl : cs.length = n) (ho : o + n ≤ z.length) (hz : Fh z o cs = z') (h2 : Ji z' rest = some r) : Ji z ((o, n, v) :: rest) = some r := by
 subst hz
 subst hl
 simp only [Ji, h, zad, if_true, if_pos ho]
 exact h2
theorem Aw {zs cs : List AV} {ps : List (Nat × Nat × AV)} {KL : List AV → Option β} (hf : Ji zs ps = some cs) (h : Gd G (KL cs)) : Gd G ((Ji zs ps).bind fun c => KL c) := by
 rw [hf]
 exact h
theorem A9 {i : Nat} {vs : List AV} {v : AV} (hv : vs[i]? = some v) (h : Gd G (K v)) : Gd G (Sw (.tup vs) i fun x => K x) := by
 refine Dp ?_ h
 show (vs[i]?).bind _ = _
 rw [hv]
 rfl
theorem Dd {m : Nat} {cs : List AV} (h : Gd G (K (.sc (.int .i64 m)))) : Gd G (Ik (.ro m cs) fun x => K x) := h
theorem AhX {s : ByteArray} (h : Gd G (K (.sc (.int .i64 s.size)))) : Gd G (Xu (.sc (.string s)) fun x => K x) := h
theorem AkL {d ty m : Nat} {x : AV} {cells : List AV} {I : List Nat} (h : Cz Ak E0.tp H d ty x = some (.ro m cells, I)) : Jn x = some m := by
 cases d with
 | zero => simp [Cz] at h
 | succ d =>
  cases x with
  | sc v => simp [Cz] at h
  | nl =>
   have := (Option.some.inj h)
   simp only [Prod.mk.injEq, AV.ro.injEq] at this
   rw [← this.1.1]
   rfl
  | sl id off n z =>
   rw [I8] at h
   simp only [zab] at h
   obtain ⟨i, h1, j, h2, h3⟩ := h
   split at h3
   case isFalse => cases h3
   split at h3
   case isFalse => cases h3
   simp only [zab] at h3
   obtain ⟨cs, h4, q, h5, h6⟩ := h3
   obtain ⟨h7, -⟩ : AV.ro n q.1 = .ro m cells ∧ _ := by simpa only [Prod.mk.injEq, Option.some.injEq] using h6
   cases h7
   rfl
  | agg cs =>
   rw [Jv] at h
   simp only [zab] at h
   obtain ⟨i, h1, q, h2, h3⟩ := h
   simp at h3
  | tup cs =>
   rw [Kq] at h
   simp only [zab] at h
   obtain ⟨i, h1, q, h2, h3⟩ := h
   simp at h3
  | _ => simp [Cz] at h
theorem Jt {x : AV} {ty m : Nat} {cells : List AV} (hs : Sep H L) (hp : Pk L (.own x ty (.ro m cells)) L1) (h : Gd G (K (.sc (.int .i64 m)))) : Gd G (Ik x fun x => K x) := by
 obtain ⟨_, _, I, e, _⟩ := hs.own hp
 have hl := AkL e
 refine Dp ?_ h
 have key : ∀ (x : AV), (∀ v, x ≠ .sc v) → Jn x = some m → Ik x K = K (.sc (.int .i64 m)) := by
  intro x hx hl
  cases x with
  | sc v => exact absurd rfl (hx v)
  | nl => cases hl; rfl
  | ro n cs => cases hl; rfl
  | sl a b c d => cases hl; rfl
  | _ => cases hl
 refine key x (fun v hv => ?_) hl
 subst hv
 simp [Cz] at e
theorem Q8 {op : BinOp} {x y v : AV} (e : ∀ k : AV → Option β, Bz op x y k = k v) (h : Gd G (K v)) : Gd G (Bz op x y fun t => K t) := Dp (e _) h
theorem Ce {a b : Int} (h : Gd G (K (.sc (.bool (decide (a = b)))))) : Gd G (Bz .eql (.sc (.int .i64 a)) (.sc (.int .i64 b)) fun t => K t) := h
theorem My {a b : Int} (h : Gd G (K (.sc (.bool (!decide (a = b)))))) : Gd G (Bz .neq (.sc (.int .i64 a)) (.sc (.int .i64 b)) fun t => K t) := h
theorem Dq {a b : Int} (h : Gd G (K (.sc (.bool (decide (a < b)))))) : Gd G (Bz .lss (.sc (.int .i64 a)) (.sc (.int .i64 b)) fun t => K t) := h
theorem AdC {a b : Int} (h : Gd G (K (.sc (.bool (decide (a ≤ b)))))) : Gd G (Bz .leq (.sc (.int .i64 a)) (.sc (.int .i64 b)) fun t => K t) := h
theorem D5 {a b : Int} (h : Gd G (K (.sc (.bool (decide (b < a)))))) : Gd G (Bz .gtr (.sc (.int .i64 a)) (.sc (.int .i64 b)) fun t => K t) := h
theorem AlV {a b : Int} (h : Gd G (K (.sc (.bool (decide (b ≤ a)))))) : Gd G (Bz .geq (.sc (.int .i64 a)) (.sc (.int .i64 b)) fun t => K t) := h
theorem Bq {a b : Int} (h0 : -9223372036854775808 ≤ a + b) (h1 : a + b ≤ 9223372036854775807) (h : Gd G (K (.sc (.int .i64 (a + b))))) : Gd G (Bz .add (.sc (.int .i64 a)) (.sc (.int .i64 b)) fun t => K t) := by
 refine Dp ?_ h
 show K (.sc (.int .i64 (IntKind.i64.wrap (a + b)))) = _
 rw [Ic _ h0 h1]
theorem Px {a b : Int} (h0 : -9223372036854775808 ≤ a - b) (h1 : a - b ≤ 9223372036854775807) (h : Gd G (K (.sc (.int .i64 (a - b))))) : Gd G (Bz .sub (.sc (.int .i64 a)) (.sc (.int .i64 b)) fun t => K t) := by
 refine Dp ?_ h
 show K (.sc (.int .i64 (IntKind.i64.wrap (a - b)))) = _
 rw [Ic _ h0 h1]
theorem Sd {a b : Int} (h0 : -9223372036854775808 ≤ a * b) (h1 : a * b ≤ 9223372036854775807) (h : Gd G (K (.sc (.int .i64 (a * b))))) : Gd G (Bz .mul (.sc (.int .i64 a)) (.sc (.int .i64 b)) fun t => K t) := by
 refine Dp ?_ h
 show K (.sc (.int .i64 (IntKind.i64.wrap (a * b)))) = _
 rw [Ic _ h0 h1]
theorem AhW {a b : ByteArray} (h : Gd G (K (.sc (.bool (a.toList == b.toList))))) : Gd G (Bz .eql (.sc (.string a)) (.sc (.string b)) fun t => K t) := h
theorem Th {a b : ByteArray} (h : Gd G (K (.sc (.bool (!(a.toList == b.toList)))))) : Gd G (Bz .neq (.sc (.string a)) (.sc (.string b)) fun t => K t) := h
theorem Cv {b : Bool} (h : Gd G (K (.sc (.bool (!b))))) : Gd G (pUn .not (.sc (.bool b)) fun t => K t) := h
theorem D1 {α : Sort _} {γ : Type} {G : Option γ → Prop} {x : α} {f : α → Option γ} (h : Gd G (f x)) : Gd G (D4 x f) := h
theorem Au {b : Bool} {x y : Option β} (hb : b = true) (h : Gd G x) : Gd G (C8 (.sc (.bool b)) x y) := by subst hb; exact h
theorem A6 {b : Bool} {x y : Option β} (hb : b = false) (h : Gd G y) : Gd G (C8 (.sc (.bool b)) x y) := by subst hb; exact h
theorem g_c {b : Bool} {x y : Option β} (h1 : b = true → Gd G x) (h2 : b = false → Gd G y) : Gd G (C8 (.sc (.bool b)) x y) := by
 cases b
 ·exact h2 rfl
 ·exact h1 rfl
theorem Ao {b t : Bool} {m : (KO β) → Option β} (hb : b = t) (h : Gd G (m fun x H => KH x H)) : Gd G (Fg (.sc (.bool b)) t H m fun x H => KH x H) := by
 subst hb
 cases b <;> exact h
theorem Am {b t : Bool} {m : (KO β) → Option β} (hb : b = !t) (h : Gd G (KH (.sc undef) H)) : Gd G (Fg (.sc (.bool b)) t H m fun x H => KH x H) := by
 subst hb
 cases t <;> exact h
theorem Hw {t : Bool} {m : (KO β) → Option β} (h : Gd G (KH (.sc undef) H)) : Gd G (Fg (.sc undef) t H m fun x H => KH x H) := h
theorem D7 {b : Bool} {x y : AV} (hb : b = true) (h : Gd G (K x)) : Gd G (M1 (.sc (.bool b)) x y fun t => K t) := by
 subst hb
 cases x <;> cases y <;> exact h
theorem D3 {b : Bool} {x y : AV} (hb : b = false) (h : Gd G (K y)) : Gd G (M1 (.sc (.bool b)) x y fun t => K t) := by
 subst hb
 cases x <;> cases y <;> exact h
inductive VwC (L : List Ck) : Nat → AV → AV → Prop
 | sc {d : Nat} {v : Value} : VwC L (d + 1) (.sc v) (.sc v)
 | nl {d : Nat} : VwC L (d + 1) .nl (.ro 0 [])
 | ro {d n : Nat} {cs : List AV} : VwC L (d + 1) (.ro n cs) (.ro n cs)
 | rp {d : Nat} {cs : List AV} : VwC L (d + 1) (.rp cs) (.rp cs)
 | own {d : Nat} {x t : AV} {ty : Nat} {L' : List Ck} : 6 ≤ d → Pk L (.own x ty t) L' → VwC L d x t
 | shr {d : Nat} {x t y t' : AV} {ty ty' : Nat} {L' : List Ck} : 6 ≤ d → Pk L (.shr x ty t y ty' t') L' → VwC L d y t'
 | shsE {d k : Nat} {x t y t' : AV} {ty ty' : Nat} {ys : List (AV × Nat × AV)} {L' : List Ck} : 6 ≤ d → Pk L (.shs x ty t ys) L' → ys[k]? = some (y, ty', t') → VwC L d y t'
 | shsO {d : Nat} {x t : AV} {ty : Nat} {ys : List (AV × Nat × AV)} {L' : List Ck} : 6 ≤ d → Pk L (.shs x ty t ys) L' → VwC L d x t
end
inductive VwL (L : List Ck) : Nat → List AV → List AV → Prop
 | nil {d : Nat} : VwL L d [] []
 | cons {d : Nat} {x t : AV} {xs ts : List AV} : VwC L d x t → VwL L d xs ts → VwL L d (x :: xs) (t :: ts)
 | agg {d : Nat} {cs ds xs ts : List AV} : VwL L d cs ds → VwL L (d + 1) xs ts → VwL L (d + 1) (.agg cs :: xs) (.agg ds :: ts)
 | aggF {d : Nat} {cs xs ts : List AV} : cs.all Lh = true → VwL L (d + 2) xs ts → VwL L (d + 2) (.agg cs :: xs) (.agg cs :: ts)
 | sl {d i k w : Nat} {cs ds xs ts : List AV} {a : Bool} {L' : List Ck} : Pk L (.blk i cs a) L' → cs.length = k * w → VwL L d cs ds → VwL L (d + 1) xs ts → VwL L (d + 1) (.sl i 0 k w :: xs) (.ro k ds :: ts)
 | slA {d i o k w : Nat} {cs ds xs ts : List AV} {a : Bool} {L' : List Ck} : Pk L (.blk i cs a) L' → o + k * w ≤ cs.length → VwL L d ((cs.drop o).take (k * w)) ds → VwL L (d + 1) xs ts → VwL L (d + 1) (.sl i o k w :: xs) (.ro k ds :: ts)
 | ptr {d i : Nat} {cs ds xs ts : List AV} {a : Bool} {L' : List Ck} : Pk L (.blk i cs a) L' → VwL L d cs ds → VwL L (d + 1) xs ts → VwL L (d + 1) (.ptr i 0 :: xs) (.rp ds :: ts)
 | fn {d f : Nat} {ps cs ps' cs' xs ts : List AV} : VwL L d ps ps' → VwL L d cs cs' → VwL L (d + 1) xs ts → VwL L (d + 1) (.fn f ps cs :: xs) (.fn f ps' cs' :: ts)
section
variable {β : Type} {n : Nat} {H : Ab} {L L' L1 L2 : List Ck} {G : Option β → Prop} {K : AV → Option β} {KH : KO β}
theorem VwC.sound (hs : Sep H L) {d : Nat} {x t : AV} (h : VwC L d x t) : C5 H d x = some t := by
 cases h with
 | sc => rfl
 | nl => rfl
 | ro => rfl
 | rp => rfl
 | own hd hp =>
  obtain ⟨_, h1, I, h2, _⟩ := hs.own hp
  exact Qc d _ _ _ I (Jw 6 d _ _ _ _ h2 (Bh h1 hd))
 | shr hd hp =>
  obtain ⟨h1, I, h2⟩ := hs.seen hp
  exact Qc d _ _ _ I (Jw 6 d _ _ _ _ h2 (Bh h1 hd))
 | shsE hd hp hk =>
  obtain ⟨h1, I, h2⟩ := hs.seenS hp hk
  exact Qc d _ _ _ I (Jw 6 d _ _ _ _ h2 (Bh h1 hd))
 | shsO hd hp =>
  obtain ⟨_, h1, I, h2, _⟩ := (hs.ofShs hp).own .here
  exact Qc d _ _ _ I (Jw 6 d _ _ _ _ h2 (Bh h1 hd))
theorem Kf {d : Nat} {x t : AV} {xs ts : List AV} (h : C5 H d x = some t) (hs : xs.mapM (C5 H d) = some ts) : (x :: xs).mapM (C5 H d) = some (t :: ts) := by
 simp only [zaI, h, hs, zbh, zaP, zad]
theorem VwL.sound (hs : Sep H L) : ∀ {d : Nat} {xs ts : List AV}, VwL L d xs ts → xs.mapM (C5 H d) = some ts
 | _, _, _, .nil => rfl
 | _, _, _, .cons h q => Kf (h.sound hs) (q.sound hs)
 | _, _, _, .agg h q => Kf (by rw [N2, h.sound hs]; rfl) (q.sound hs)
 | _, _, _, .aggF h q => Kf (by rw [N2, Aal h]; rfl) (q.sound hs)
 | _, _, _, .sl (i := i) (k := k) (w := w) (cs := cs) hp hl h q => Kf (by
   rw [S9]
   have hb := hs.blk hp
   have e : As H i 0 (k * w) = some cs := by
    simp only [As, hb, if_true, zaN, za0, ← hl, zao, zaJ]
   rw [e, zad, h.sound hs]
   rfl) (q.sound hs)
 | _, _, _, .slA (i := i) (o := o) (k := k) (w := w) (cs := cs) hp hl h q => Kf (by
   rw [S9]
   have hb := hs.blk hp
   have e : As H i o (k * w) = some ((cs.drop o).take (k * w)) := by
    simp only [As, hb, if_true, hl]
   rw [e, zad, h.sound hs]
   rfl) (q.sound hs)
 | _, _, _, .ptr (i := i) (cs := cs) hp h q => Kf (by
   have hb := hs.blk hp
   show ((H[i]?).bind fun b => (As H i 0 (b.cells.length - 0)).bind fun cs => (cs.mapM (C5 H _)).bind fun vs => some (AV.rp vs)) = _
   rw [hb, zad]
   have e : As H i 0 (cs.length - 0) = some cs := by
    simp only [As, hb, if_true, zaN, za0, Nat.sub_zero, zao, zaJ]
   show (As H i 0 (cs.length - 0)).bind _ = _
   rw [e, zad, h.sound hs]
   rfl) (q.sound hs)
 | _, _, _, .fn (d := d) (ps := ps) (cs := cs) h1 h2 q => Kf (by
   show ((ps.mapM (C5 H d)).bind fun us => (cs.mapM (C5 H d)).bind fun ws => some (AV.fn _ us ws)) = _
   rw [h1.sound hs, zad, h2.sound hs]
   rfl) (q.sound hs)
theorem Va {ty : Nat} {f : FuncId} {caps args vs : List AV} {t : AV} (hs : Sep H L) (hh : Ek f = false) (hv : VwL L 8 (args ++ caps) vs) (ht : Cb E0 n ty f vs = some t) (h : Gd G (KH (Bk Ak E0.tp H.length ty t).1 (H ++ (Bk Ak E0.tp H.length ty t).2))) : Gd G ((PR n β).call ty (.fn f [] caps) args H fun x H => KH x H) := Dp (AfO hh (hv.sound hs) ht) h
theorem Bm {ty : Nat} {f : FuncId} {args vs : List AV} {v : Value} (hs : Sep H L) (hh : Ek f = false) (hv : VwL L 8 args vs) (ht : Cb E0 n ty f vs = some (.sc v)) (h : Gd G (KH (.sc v) H)) : Gd G ((PR n β).call ty (.fn f [] []) args H fun x H => KH x H) := by
 refine Va hs hh (by rw [zam]; exact hv) ht ?_
 rw [F8, zam]
 exact h
theorem Abp {ty m : Nat} {cells : List AV} (hs : Sep H L) (hok : Hq Ak E0.tp 6 ty (.ro m cells)) : A2 (Bk Ak E0.tp H.length ty (.ro m cells)).1 = true ∧ Sep (H ++ (Bk Ak E0.tp H.length ty (.ro m cells)).2) (.own (Bk Ak E0.tp H.length ty (.ro m cells)).1 ty (.ro m cells) :: L) := by
 have hl : A2 (Bk Ak E0.tp H.length ty (.ro m cells)).1 = true := rfl
 refine ⟨hl, hs.new (J := List.range' H.length (Bk Ak E0.tp H.length ty (.ro m cells)).2.length) ⟨hl, hok, Su 6 ty _ H.length hok (Pb _ _)⟩ List.nodup_range' fun i hi => ?_⟩
 rw [List.mem_range'_1] at hi
 exact hi.1
theorem Bo {ty m : Nat} {f : FuncId} {args vs cells : List AV} (hs : Sep H L) (hh : Ek f = false) (hv : VwL L 8 args vs) (ht : Cb E0 n ty f vs = some (.ro m cells)) (hok : Hq Ak E0.tp 6 ty (.ro m cells)) (h : ∀ x H', A2 x = true → Sep H' (.own x ty (.ro m cells) :: L) → Gd G (KH x H')) : Gd G ((PR n β).call ty (.fn f [] []) args H fun x H => KH x H) := by
 refine Va hs hh (by rw [zam]; exact hv) ht ?_
 obtain ⟨h1, h2⟩ := Abp hs hok
 exact h _ _ h1 h2
def InsL (ts : List Nat) (cs : List AV) (Φ : List AV → List Ck → Prop) : Prop := ∀ (H : Ab) (L : List Ck), Sep H L → ∃ xs Lx, xs = (Ap Ak E0.tp H.length ts cs).1 ∧ Sep (H ++ (Ap Ak E0.tp H.length ts cs).2) (Lx ++ L) ∧ Φ xs Lx
theorem C2 {ts : List Nat} : InsL ts [] fun xs Lx => xs = [] ∧ Lx = [] := fun H L hs => ⟨[], [], rfl, by simpa [Ap] using hs, rfl, rfl⟩
theorem A1 {ts : List Nat} {v : Value} {cs : List AV} {Φ : List AV → List Ck → Prop} (h : InsL ts.tail cs Φ) : InsL ts (.sc v :: cs) fun xs Lx => ∃ ys, xs = .sc v :: ys ∧ Φ ys Lx := fun H L hs => by
 obtain ⟨ys, Ly, e1, e2, e3⟩ := h H L hs
 refine ⟨.sc v :: ys, Ly, ?_, ?_, ys, rfl, e3⟩
 ·simp only [Ap, F8, zax, zaR]
  rw [e1]
 ·simpa only [Ap, F8, zax, zaR, zai] using e2
theorem Hx {ts : List Nat} {m ty : Nat} {cells cs : List AV} {Φ : List AV → List Ck → Prop} (hty : ts.headD 0 = ty) (hok : Hq Ak E0.tp 6 ty (.ro m cells)) (h : InsL ts.tail cs Φ) : InsL ts (.ro m cells :: cs) fun xs Lx => ∃ x ys Ly, A2 x = true ∧ xs = x :: ys ∧ Lx = Ly ++ [.own x ty (.ro m cells)] ∧ Φ ys Ly := fun H L hs => by
 subst hty
 obtain ⟨h1, h2⟩ := Abp hs hok
 obtain ⟨ys, Ly, e1, e2, e3⟩ := h _ _ h2
 refine ⟨_ :: ys, Ly ++ [.own _ (ts.headD 0) (.ro m cells)], ?_, ?_, _, ys, Ly, h1, rfl, rfl, e3⟩
 ·simp only [Ap]
  rw [e1, zae]
 ·simp only [Ap]
  rw [zae, zaf] at e2
  rw [zaf]
  exact e2
theorem Vd {ts cty : List Nat} {cs rest : List AV} {Φ Ψ : List AV → List Ck → Prop} (hty : ∃ i, Ak (ts.headD 0) = some i ∧ i.cty = cty) (h1 : InsL cty cs Ψ) (h : InsL ts.tail rest Φ) : InsL ts (.agg cs :: rest) fun xs Lx => ∃ ys zs Ly Lz, xs = .agg ys :: zs ∧ Lx = Lz ++ Ly ∧ Ψ ys Ly ∧ Φ zs Lz := fun H L hs => by
 obtain ⟨i, hi, rfl⟩ := hty
 obtain ⟨ys, Ly, a1, a2, a3⟩ := h1 H L hs
 obtain ⟨zs, Lz, b1, b2, b3⟩ := h _ _ a2
 refine ⟨.agg ys :: zs, Lz ++ Ly, ?_, ?_, ys, zs, Ly, Lz, rfl, rfl, a3, b3⟩
 ·simp only [Ap, Ke, hi, zaG]
  rw [a1, b1, zae]
 ·simp only [Ap, Ke, hi, zaG]
  rw [zae, zaf] at b2
  rw [zaf]
  exact b2
theorem Lf {ty : Nat} {f : FuncId} {args vs cs : List AV} {cty : List Nat} {Φ : List AV → List Ck → Prop} (hs : Sep H L) (hh : Ek f = false) (hv : VwL L 8 args vs) (ht : Cb E0 n ty f vs = some (.agg cs)) (hty : ∃ i, Ak ty = some i ∧ i.cty = cty) (hi : InsL cty cs Φ) (h : ∀ xs Lx H', Φ xs Lx → Sep H' (Lx ++ L) → Gd G (KH (.agg xs) H')) : Gd G ((PR n β).call ty (.fn f [] []) args H fun x H => KH x H) := by
 refine Va hs hh (by rw [zam]; exact hv) ht ?_
 obtain ⟨i, e1, rfl⟩ := hty
 obtain ⟨xs, Lx, a1, a2, a3⟩ := hi H L hs
 rw [Ke, e1, zaG, ← a1]
 exact h _ _ _ a3 a2
theorem Do {ty : Nat} {f : FuncId} {args vs cs : List AV} {tys : List Nat} {Φ : List AV → List Ck → Prop} (hs : Sep H L) (hh : Ek f = false) (hv : VwL L 8 args vs) (ht : Cb E0 n ty f vs = some (.tup cs)) (hty : E0.tp ty = some tys) (hi : InsL tys cs Φ) (h : ∀ xs Lx H', Φ xs Lx → Sep H' (Lx ++ L) → Gd G (KH (.tup xs) H')) : Gd G ((PR n β).call ty (.fn f [] []) args H fun x H => KH x H) := by
 refine Va hs hh (by rw [zam]; exact hv) ht ?_
 obtain ⟨xs, Lx, a1, a2, a3⟩ := hi H L hs
 rw [Tk, hty, zaG, ← a1]
 exact h _ _ _ a3 a2
theorem Kz {ty : Nat} {f : FuncId} {caps args : List AV} (hh : E0.hm f = true) (he : E0.ext f = none) (h : Gd G (Dy E0 n β f (args ++ caps) H fun x H => KH x H)) : Gd G ((PR n β).call ty (.fn f [] caps) args H fun x H => KH x H) := by
 refine Dp ?_ h
 show Ms E0 (Dy E0 n) ty f ([] ++ args ++ caps) H _ = _
 simp only [Ms, he, hh, zai, if_true]
def Src (H : Ab) (L : List Ck) (sz : Nat) (cty : List Nat) (y : AV) (m : Nat) (cb : List AV) (L' : List Ck) : Prop :=
 ∀ I, SepI H L I → ∃ raw J R X, Jn y = some m ∧ Dn H sz y = some raw ∧ raw.all A2 = true ∧ raw.length = m * sz ∧ Di (Cz Ak E0.tp H 5) (zak m cty).flatten raw = some (cb, J) ∧ SepI H L' R ∧ I.Perm (J ++ (R ++ X))
def M9 : AV → Bool
 | .sc v => Mz v
 | _ => false
theorem Tl {l : List AV} (h : l.all M9 = true) : l.all A2 = true := by
 rw [za9] at h ⊢
 intro x hx
 have := h x hx
 cases x <;> simp_all [M9, A2]
theorem Zr {d : Nat} : ∀ {ts : List Nat} {l : List AV}, ts.length = l.length → l.all M9 = true → Di (Cz Ak E0.tp H (d + 1)) ts l = some (l, [])
 | [], [], _, _ => rfl
 | t :: ts, x :: l, h, hl => by
  rw [zaz, zag] at hl
  cases x with
  | sc v =>
   rw [Di, Aa3, zad, Zr (ts := ts) (l := l) (by simpa using h) hl.2]
   rfl
  | _ => simp [M9] at hl
 | [], _ :: _, h, _ => by simp at h
 | _ :: _, [], h, _ => by simp at h
theorem AiP {sz m : Nat} {cty : List Nat} {cells : List AV} (hc : cty.length = sz) (hl : cells.length = m * sz) (hf : cells.all M9 = true) : Src H L sz cty (.ro m cells) m cells L := fun I h => by
 refine ⟨cells, [], I, [], rfl, ?_, Tl hf, hl, Zr (by simp [hc, hl]) hf, h, by simp⟩
 show (if cells.length = m * sz then some cells else none) = _
 rw [if_pos hl]
theorem Vi {sz m i : Nat} {cty : List Nat} {raw cb : List AV} {a : Bool} (hp : Pk L (.blk i raw a) L1) (hl : raw.length = m * sz) (hf : raw.all A2 = true) (hr : OwnR L1 raw (zak m cty).flatten cb L2) (hok : Fv (Hq Ak E0.tp 5) (zak m cty).flatten cb) : Src H L sz cty (.sl i 0 m sz) m cb L2 := fun I h => by
 obtain ⟨J, R, ⟨rfl, h1⟩, h2, h3⟩ := hp.sepI h
 obtain ⟨J', R', g1, g2, g3⟩ := hr.sound h2 5 hok
 refine ⟨raw, J', R', [i], rfl, ?_, hf, hl, g1, g2, ?_⟩
 ·show (if sz = sz then As H i 0 (m * sz) else none) = _
  simp only [if_true, As, h1, za0, zaN, ← hl, zao, zaJ]
 ·refine h3.trans (List.perm_append_comm.trans ?_)
  rw [← zaf]
  exact zbH.append_right [i] g3
theorem Qy {d ty m : Nat} {x : AV} {cells : List AV} {I : List Nat} {i j : TI} (h1 : Ak ty = some i) (h2 : Ak i.elem = some j) (h : Cz Ak E0.tp H (d + 1) ty x = some (.ro m cells, I)) :
  (x = .nl ∧ m = 0 ∧ cells = [] ∧ I = []) ∨ ∃ id off raw J b, x = .sl id off m j.size ∧ I = id :: J ∧ H[id]? = some b ∧ b.live = true ∧ b.app = true ∧ As H id off (m * j.size) = some raw ∧ Di (Cz Ak E0.tp H d) (zak m j.cty).flatten raw = some (cells, J) := by
 cases x with
 | sc v => simp [Cz] at h
 | nl =>
  have := (Option.some.inj h)
  simp only [Prod.mk.injEq, AV.ro.injEq] at this
  obtain ⟨⟨rfl, rfl⟩, rfl⟩ := this
  exact .inl ⟨rfl, rfl, rfl, rfl⟩
 | sl id off n z =>
  rw [I8] at h
  simp only [h1, h2, zad] at h
  split at h
  case isFalse => cases h
  rename_i hz
  split at h
  case isFalse => cases h
  rename_i ha
  simp only [zab] at h
  obtain ⟨cs, h4, q, h5, h6⟩ := h
  simp only [Option.some.injEq, Prod.mk.injEq, AV.ro.injEq] at h6
  obtain ⟨⟨rfl, rfl⟩, rfl⟩ := h6
  subst hz
  obtain ⟨hl, b, hb, hlv, _, _⟩ := I9 h4
  have ha' : b.app = true := by simpa only [Jj, hb] using ha
  exact .inr ⟨id, off, cs, q.2, b, rfl, rfl, hb, hlv, ha', h4, h5⟩
 | agg cs =>
  rw [Jv] at h
  simp only [zab] at h
  obtain ⟨i, h1, q, h2, h3⟩ := h
  simp at h3
 | tup cs =>
  rw [Kq] at h
  simp only [zab] at h
  obtain ⟨i, h1, q, h2, h3⟩ := h
  simp at h3
 | _ => simp [Cz] at h
theorem AbM {sz m ty : Nat} {cty : List Nat} {y : AV} {cb : List AV} (hty : ∃ i j, Ak ty = some i ∧ Ak i.elem = some j ∧ j.size = sz ∧ j.cty = cty) (hp : Pk L (.own y ty (.ro m cb)) L2) (hf : cb.all M9 = true) : Src H L sz cty y m cb L := fun I h => by
 obtain ⟨i, j, e1, e2, rfl, rfl⟩ := hty
 obtain ⟨J, R, ⟨_, _, h1⟩, h2, h3⟩ := hp.sepI h
 rcases Qy e1 e2 h1 with ⟨rfl, rfl, rfl, rfl⟩ | ⟨id, off, raw, J', b, rfl, rfl, hb, hlv, ha, h4, h5⟩
 ·exact ⟨[], [], I, [], rfl, rfl, rfl, by simp, by simp [Di], h, by simp⟩
 ·have hl := (I9 h4).1
  have key : ∀ {ts : List Nat} {xs cells : List AV} {I : List Nat}, Di (Cz Ak E0.tp H 5) ts xs = some (cells, I) → cells.all M9 = true → xs = cells ∧ I = [] := by
   intro ts xs
   induction xs generalizing ts with
   | nil =>
    intro cells I h _
    obtain ⟨_, e⟩ := Iw h
    cases e
    exact ⟨rfl, rfl⟩
   | cons x xs ih =>
    intro cells I h hs
    cases ts with
    | nil => simp [Di] at h
    | cons t ts =>
     obtain ⟨a, b, h1, h2, e⟩ := Gj h
     cases e
     rw [zaz, zag] at hs
     obtain ⟨rfl, e2⟩ := ih h2 hs.2
     have hx : x = a.1 ∧ a.2 = [] := by
      obtain ⟨a1, a2⟩ := a
      cases a1 with
      | sc v =>
       have := Xo h1
       subst this
       have : (AV.sc v, ([] : List Nat)) = (.sc v, a2) := Option.some.inj h1
       cases this
       exact ⟨rfl, rfl⟩
      | _ => simp [M9] at hs
     refine ⟨by rw [hx.1], by rw [hx.2, e2]; rfl⟩
  obtain ⟨rfl, rfl⟩ := key h5 hf
  refine ⟨raw, [], I, [], rfl, ?_, Tl hf, hl, h5, h, by simp⟩
  show (if j.size = j.size then As H id off (m * j.size) else none) = _
  rw [if_pos rfl, h4]
theorem AhV {sz bytes k m ty : Nat} {cty : List Nat} {x y : AV} {ca cb : List AV} (hs : Sep H L) (hty : ∃ i j, Ak ty = some i ∧ Ak i.elem = some j ∧ j.size = sz ∧ j.cty = cty) (hx : Pk L (.own x ty (.ro k ca)) L1) (hy : Src H L1 sz cty y m cb L2) (hok : Fv (Hq Ak E0.tp 5) (zak m cty).flatten cb) (hb : (k + m) * bytes ≤ 140737488355328)
  (h : ∀ x' H', A2 x' = true → Sep H' (.own x' ty (.ro (k + m) (ca ++ cb)) :: L2) → (∃ id cx cy, x' = .sl id 0 (k + m) sz ∧ H'[id]? = some ⟨cx ++ cy, true, true⟩ ∧ Dn H sz y = some cy ∧ cx.length = k * sz) → Gd G (KH x' H')) : Gd G (Lk sz bytes x y H fun x H => KH x H) := by
 obtain ⟨i, j, e1, e2, rfl, rfl⟩ := hty
 obtain ⟨I, hI, hn⟩ := hs
 obtain ⟨J, R, ⟨hlx, hox, h1⟩, h2, h3⟩ := hx.sepI hI
 obtain ⟨raw, Jy, Ry, X, q1, q2, q3, q4, q5, q6, q7⟩ := hy R h2
 have hn' : (J ++ (Jy ++ (Ry ++ X))).Nodup := (h3.trans (zbH.append_left J q7)).nodup_iff.1 hn
 have hRlt : ∀ i ∈ Jy ++ Ry, i < H.length := fun z hz => by
  refine h2.lt z ?_
  refine q7.symm.mem_iff.1 ?_
  rw [← zaf]
  exact za8 _ hz
 have hok' : Hq Ak E0.tp 6 ty (.ro (k + m) (ca ++ cb)) := by
  obtain ⟨i', j', g1, g2, g3, g4⟩ := hox
  rw [e1] at g1
  cases g1
  rw [e2] at g2
  cases g2
  refine ⟨i, j, e1, e2, ?_, ?_⟩
  ·have := Ab2 hok
   have hq := Xm q5
   rw [zae, g3, hq.2, q4, zbK]
  ·rw [← zbo, zbd]
   exact P6 g4 hok
 have fin : ∀ (H1 : Ab) (cx : List AV) (Jx : List Nat), H1.length = H.length → cx.all A2 = true ∨ True → Di (Cz Ak E0.tp H1 5) (zak k j.cty).flatten cx = some (ca, Jx) → Di (Cz Ak E0.tp H1 5) (zak m j.cty).flatten raw = some (cb, Jy) → SepI H1 L2 Ry → (Jx ++ (Jy ++ (Ry ++ X))).Nodup → (∀ i ∈ Jx, i < H1.length) → cx.length = k * j.size →
   Sep (H1 ++ [⟨cx ++ raw, true, true⟩]) (.own (.sl H1.length 0 (k + m) j.size) ty (.ro (k + m) (ca ++ cb)) :: L2) := by
  intro H1 cx Jx hl1 _ a1 a2 a3 a4 a5 a6
  have hg : (H1 ++ [(⟨cx ++ raw, true, true⟩ : Iu)])[H1.length]? = some ⟨cx ++ raw, true, true⟩ := by
   rw [zaj (zao _), zbe]
   rfl
  have fr : ∀ z, z < H1.length → (H1 ++ [(⟨cx ++ raw, true, true⟩ : Iu)])[z]? = H1[z]? := fun z hz => zal hz
  have b1 := Hj (f' := Cz Ak E0.tp (H1 ++ [⟨cx ++ raw, true, true⟩]) 5) (fun t x a h hi => F5 5 t x a h fun z hz => fr z (a5 z (hi z hz))) a1
  have b2 := Hj (f' := Cz Ak E0.tp (H1 ++ [⟨cx ++ raw, true, true⟩]) 5) (fun t x a h hi => F5 5 t x a h fun z hz => fr z (by rw [hl1]; exact hRlt z (za8 _ (hi z hz)))) a2
  have b3 := a3.grow [⟨cx ++ raw, true, true⟩]
  have b4 := P9 b1 b2
  rw [← zbd, zbo] at b4
  refine ⟨(H1.length :: (Jx ++ Jy)) ++ Ry, ⟨H1.length :: (Jx ++ Jy), Ry, rfl, ⟨rfl, hok', ?_⟩, b3⟩, ?_⟩
  ·rw [I8]
   have ha : Jj (H1 ++ [⟨cx ++ raw, true, true⟩]) H1.length = true := by simp only [Jj, hg]
   have hrd : As (H1 ++ [⟨cx ++ raw, true, true⟩]) H1.length 0 ((k + m) * j.size) = some (cx ++ raw) := by
    have : (cx ++ raw).length = (k + m) * j.size := by rw [zae, a6, q4, zbK]
    simp only [As, hg, if_true, za0, zaN, ← this, zao, zaJ]
   simp only [e1, e2, zad, if_true, ha, hrd, b4]
  ·rw [zaq, zbr]
   have hn3 : (Jx ++ Jy ++ Ry).Nodup := by
    rw [zaf]
    have : (Jx ++ (Jy ++ Ry) ++ X).Nodup := by simpa only [zaf] using a4
    exact (zbf.1 this).1
   refine ⟨fun hm => ?_, hn3⟩
   rcases zaQ.1 hm with hm | hm
   ·rcases zaQ.1 hm with hm | hm
    ·exact Nat.lt_irrefl _ (a5 _ hm)
    ·have := hRlt _ (za8 _ hm)
     omega
   ·have := hRlt _ (zaE _ hm)
    omega
 rcases Qy e1 e2 h1 with ⟨rfl, rfl, rfl, rfl⟩ | ⟨id, off, cx, J', b, rfl, rfl, hb1, hlv, hap, h4, h5⟩
 ·have hc : Dn H j.size .nl = some [] := rfl
  refine Dp (b := KH (.sl H.length 0 (0 + m) j.size) (H ++ [⟨[] ++ raw, true, true⟩])) ?_ (h _ _ rfl (fin H [] [] rfl (.inr trivial) (by simp [Di]) q5 q6 (by simpa using hn') (by simp) (by simp)) ⟨_, [], raw, rfl, by rw [zaj (zao _), zbe]; rfl, q2, by simp⟩)
  have hl0 : Jn .nl = some 0 := rfl
  have hk0 : Tn H .nl = some H := rfl
  simp only [Lk, hl0, zad, q1, q2, hc, hk0]
  rw [if_pos hb, if_pos q3]
  rfl
 ·have hc : Dn H j.size (.sl id off k j.size) = some cx := by
   show (if j.size = j.size then As H id off (k * j.size) else none) = _
   rw [if_pos rfl, h4]
  have hk : Tn H (.sl id off k j.size) = some (H.set id { b with live := false }) := by
   show (H[id]?).bind (fun b => if b.app then some (H.set id { b with live := false }) else none) = _
   rw [hb1, zad, if_pos hap]
  have hn2 : (id :: (J' ++ (Jy ++ (Ry ++ X)))).Nodup := hn'
  have hnid := (zbr.1 hn2).1
  have hset : ∀ z, z ≠ id → (H.set id { b with live := false })[z]? = H[z]? := fun z hz => zbJ (fun e => hz e.symm)
  have c1 := Hj (f' := Cz Ak E0.tp (H.set id { b with live := false }) 5) (fun t x a h hi => F5 5 t x a h fun z hz => hset z (fun e => hnid (e ▸ za8 _ (hi z hz)))) h5
  have c2 := Hj (f' := Cz Ak E0.tp (H.set id { b with live := false }) 5) (fun t x a h hi => F5 5 t x a h fun z hz => hset z (fun e => hnid (e ▸ zaE _ (za8 _ (hi z hz))))) q5
  have c3 := q6.frame (H' := H.set id { b with live := false }) fun z hz => hset z (fun e => hnid (e ▸ zaE _ (zaE _ (za8 _ hz))))
  have hJlt : ∀ z ∈ J', z < H.length := fun z hz => Qb 6 ty _ _ h1 z (zav _ hz)
  refine Dp (b := KH (.sl (H.set id { b with live := false }).length 0 (k + m) j.size) (H.set id { b with live := false } ++ [⟨cx ++ raw, true, true⟩])) ?_ (h _ _ rfl (fin _ cx J' (by simp) (.inr trivial) c1 c2 c3 (zbr.1 hn2).2 (fun z hz => by rw [List.length_set]; exact hJlt z hz) (I9 h4).1) ⟨_, cx, raw, rfl, by rw [zaj (zao _), zbe]; rfl, q2, (I9 h4).1⟩)
  have hl0 : Jn (.sl id off k j.size) = some k := rfl
  simp only [Lk, hl0, zad, q1, q2, hc, hk]
  rw [if_pos hb, if_pos q3]
  rfl
theorem Abj {sz bytes k m ty : Nat} {cty : List Nat} {x y : AV} {ca cb : List AV} (hs : Sep H L) (hty : ∃ i j, Ak ty = some i ∧ Ak i.elem = some j ∧ j.size = sz ∧ j.cty = cty) (hx : Pk L (.own x ty (.ro k ca)) L1) (hy : Src H L1 sz cty y m cb L2) (hok : Fv (Hq Ak E0.tp 5) (zak m cty).flatten cb) (hb : (k + m) * bytes ≤ 140737488355328)
  (h : ∀ x' H', A2 x' = true → Sep H' (.own x' ty (.ro (k + m) (ca ++ cb)) :: L2) → Gd G (KH x' H')) : Gd G (Lk sz bytes x y H fun x H => KH x H) := AhV hs hty hx hy hok hb fun x' H' h1 h2 _ => h x' H' h1 h2
theorem B8 {G : Option AV → Prop} {o : Option AV} (h : Gd G o) : G o := h
theorem Bj {ty : Nat} {tys : List Nat} {raw cells : List AV} (hs : Sep H L) (hts : E0.tp ty = some tys) (hr : OwnR L raw tys cells L') (hok : Fv (Hq Ak E0.tp 7) tys cells) : A4 Ak E0.tp ty H (.tup raw) = some (.tup cells) := by
 obtain ⟨I, h1, h2⟩ := hs
 obtain ⟨J, R, g1, g2, g3⟩ := hr.sound h1 7 hok
 have hn := (zbf.1 (g3.nodup_iff.1 h2)).1
 rw [A4, Kq, hts, zad, g1, zad, zad, if_pos hn]
theorem Bp {ty : Nat} {cty : List Nat} {raw cells : List AV} (hs : Sep H L) (hty : ∃ i, Ak ty = some i ∧ i.cty = cty) (hr : OwnR L raw cty cells L') (hok : Fv (Hq Ak E0.tp 7) cty cells) : A4 Ak E0.tp ty H (.agg raw) = some (.agg cells) := by
 obtain ⟨i, e1, rfl⟩ := hty
 obtain ⟨I, h1, h2⟩ := hs
 obtain ⟨J, R, g1, g2, g3⟩ := hr.sound h1 7 hok
 have hn := (zbf.1 (g3.nodup_iff.1 h2)).1
 rw [A4, Jv, e1, zad, g1, zad, zad, if_pos hn]
theorem C3 {ty : Nat} {x t : AV} (hs : Sep H L) (hp : Pk L (.own x ty t) L') : A4 Ak E0.tp ty H x = some t := by
 obtain ⟨_, h1, I, h2, h3⟩ := hs.own hp
 rw [A4, Jw 6 8 ty x t I h2 (Bh h1 (by decide)), zad, if_pos h3]
theorem Al {G : Option AV → Prop} {ty : Nat} {x t : AV} (e : A4 Ak E0.tp ty H x = some t) (h : G (some t)) : Gd G (A4 Ak E0.tp ty H x) := by
 rw [e]
 exact h
end
theorem S8 {L : List Ck} {d : Nat} {a0 a1 : Value} {xs ts : List AV} (h : VwL L (d + 1) xs ts) : VwL L (d + 1) (.sc a0 :: .sc a1 :: xs) (.sc a0 :: .sc a1 :: ts) := (.cons .sc (.cons .sc h))
theorem vS3 {L : List Ck} {d : Nat} {a0 a1 a2 : Value} {xs ts : List AV} (h : VwL L (d + 1) xs ts) : VwL L (d + 1) (.sc a0 :: .sc a1 :: .sc a2 :: xs) (.sc a0 :: .sc a1 :: .sc a2 :: ts) := (.cons .sc (.cons .sc (.cons .sc h)))
theorem vS5 {L : List Ck} {d : Nat} {a0 a1 a2 a3 a4 : Value} {xs ts : List AV} (h : VwL L (d + 1) xs ts) : VwL L (d + 1) (.sc a0 :: .sc a1 :: .sc a2 :: .sc a3 :: .sc a4 :: xs) (.sc a0 :: .sc a1 :: .sc a2 :: .sc a3 :: .sc a4 :: ts) := (.cons .sc (.cons .sc (.cons .sc (.cons .sc (.cons .sc h)))))
theorem vS6 {L : List Ck} {d : Nat} {a0 a1 a2 a3 a4 a5 : Value} {xs ts : List AV} (h : VwL L (d + 1) xs ts) : VwL L (d + 1) (.sc a0 :: .sc a1 :: .sc a2 :: .sc a3 :: .sc a4 :: .sc a5 :: xs) (.sc a0 :: .sc a1 :: .sc a2 :: .sc a3 :: .sc a4 :: .sc a5 :: ts) := (.cons .sc (.cons .sc (.cons .sc (.cons .sc (.cons .sc (.cons .sc h))))))
theorem Yn {L L' : List Ck} {a0 a1 a2 : Value} {t0 t1 t2 : Nat} {xs cs : List AV} {ts : List Nat} (h : OwnR L xs ts cs L') : OwnR L (.sc a0 :: .sc a1 :: .sc a2 :: xs) (t0 :: t1 :: t2 :: ts) (.sc a0 :: .sc a1 :: .sc a2 :: cs) L' := (.sc (.sc (.sc h)))
theorem Hi {L L' : List Ck} {a0 a1 a2 a3 a4 : Value} {t0 t1 t2 t3 t4 : Nat} {xs cs : List AV} {ts : List Nat} (h : OwnR L xs ts cs L') : OwnR L (.sc a0 :: .sc a1 :: .sc a2 :: .sc a3 :: .sc a4 :: xs) (t0 :: t1 :: t2 :: t3 :: t4 :: ts) (.sc a0 :: .sc a1 :: .sc a2 :: .sc a3 :: .sc a4 :: cs) L' := (.sc (.sc (.sc (.sc (.sc h)))))
theorem Dr {L L' : List Ck} {a0 a1 a2 a3 a4 a5 : Value} {t0 t1 t2 t3 t4 t5 : Nat} {xs cs : List AV} {ts : List Nat} (h : OwnR L xs ts cs L') : OwnR L (.sc a0 :: .sc a1 :: .sc a2 :: .sc a3 :: .sc a4 :: .sc a5 :: xs) (t0 :: t1 :: t2 :: t3 :: t4 :: t5 :: ts) (.sc a0 :: .sc a1 :: .sc a2 :: .sc a3 :: .sc a4 :: .sc a5 :: cs) L' := (.sc (.sc (.sc (.sc (.sc (.sc h))))))
theorem E8 {P : Prop} (h : P) : True ∧ True ∧ P := ⟨trivial, trivial, h⟩
theorem Yo {P : Prop} (h : P) : True ∧ True ∧ True ∧ P := ⟨trivial, trivial, trivial, h⟩
theorem Hk {P : Prop} (h : P) : True ∧ True ∧ True ∧ True ∧ True ∧ P := ⟨trivial, trivial, trivial, trivial, trivial, h⟩
theorem Ds {P : Prop} (h : P) : True ∧ True ∧ True ∧ True ∧ True ∧ True ∧ P := ⟨trivial, trivial, trivial, trivial, trivial, trivial, h⟩
theorem zAp {j o : Nat} {ds : List AV} {b : Bool} {L1 L2 : List Ck} (h : Pk L1 (.blk j ds b) L2) : ∀ y ∈ [AV.ptr j o], ∃ j' o' ds' b', y = .ptr j' o' ∧ ∃ L2, Pk L1 (.blk j' ds' b') L2 := fun y hy => by
 cases zbu.1 hy
 exact ⟨_, _, _, _, rfl, _, h⟩
theorem Cg {β : Type} {G : Option β → Prop} {H : Ab} {L L1 : List Ck} {i o : Nat} {cs : List AV} {a : Bool} {y : AV} {KS : Ab → Option β} (hs : Sep H L) (hp : Pk L (.blk i cs a) L1) (hy : A2 y = true) (hl : Nat.ble (o + 1) cs.length = true) (h : ∀ H', Sep H' (.blk i (cs.set o y) a :: L1) → Gd G (KS H')) : Gd G (Ej 1 (.ptr i o) y H fun H => KS H) := Cd hs hp (Ch hy) rfl (Cr hl) (by
 unfold Fh
 have := Cr hl
 rw [List.set_eq_take_append_cons_drop, if_pos (by omega)]
 simp) h
end
section
open Go
variable {β : Type}
theorem Jd {d ty : Nat} {cty : List Nat} {cs : List AV} (hty : ∃ i, Ak ty = some i ∧ i.cty = cty) (h : Fv (Hq Ak E0.tp d) cty cs) : Hq Ak E0.tp (d + 1) ty (.agg cs) := by
 obtain ⟨i, hi, rfl⟩ := hty
 exact ⟨i, hi, h⟩
theorem ApZ {d ty : Nat} (h : ∃ i j, Ak ty = some i ∧ Ak i.elem = some j) : Hq Ak E0.tp (d + 1) ty (.ro 0 []) := by
 obtain ⟨i, j, h1, h2⟩ := h
 exact ⟨i, j, h1, h2, by simp, by simp [Fv]⟩
theorem A3 {d ty : Nat} (h : ∃ i j, Ak ty = some i ∧ Ak i.elem = some j := by exact ⟨_, _, rfl, rfl⟩) : Hq Ak E0.tp (d + 1) ty (.ro 0 []) := ApZ h
theorem Gd.both {G : Option β → Prop} {a b : Option β} (h1 : Gd G a) (h2 : a = b) : Gd G (Qd a b) := by
 rw [Ab9 rfl h2.symm]
 exact h1
theorem Ca (s : ByteArray) : Hq Ak E0.tp 6 22 (Ae s) := G4 (d := 4) Ja s
theorem Af6 (s : ByteArray) : Hq Ak E0.tp 5 22 (Ae s) := G4 (d := 3) Ja s
theorem Aay (l : List Int) : Hq Ak E0.tp 6 57 (Ey l) := Me (d := 4) (fun z : Int => .int .i64 z) Adb l
theorem Aph (l : List Int) : Hq Ak E0.tp 5 57 (Ey l) := Me (d := 3) (fun z : Int => .int .i64 z) Adb l
theorem Xh (l : List ByteArray) : Hq Ak E0.tp 6 56 (Et l) := Me (d := 4) (fun z : ByteArray => .string z) T3 l
theorem Api (l : List ByteArray) : Hq Ak E0.tp 5 56 (Et l) := Me (d := 3) (fun z : ByteArray => .string z) T3 l
theorem Lj (l : List WantV) : Hq Ak E0.tp 6 55 (Bl Bu l) := Hr (d := 5) Gy ⟨_, _, rfl, rfl, rfl, rfl⟩ (Aa0 4) l
theorem Ab4 (l : List WantV) : Hq Ak E0.tp 5 55 (Bl Bu l) := Hr (d := 4) Gy ⟨_, _, rfl, rfl, rfl, rfl⟩ (Aa0 3) l
theorem Jk (l : List PacketV) : Hq Ak E0.tp 6 33 (Bl Ag l) := Hr (d := 5) Gi ⟨_, _, rfl, rfl, rfl, rfl⟩ (Ij 3) l
theorem InsL.mono {ts : List Nat} {cs : List AV} {Φ Ψ : List AV → List Ck → Prop} (h : InsL ts cs Φ) (m : ∀ xs Lx, Φ xs Lx → Ψ xs Lx) : InsL ts cs Ψ := fun H L hs => by
 obtain ⟨xs, Lx, a, b, c⟩ := h H L hs
 exact ⟨xs, Lx, a, b, m _ _ c⟩
theorem Ie (p : PacketV) : InsL Qm (Ag p) fun xs Lx => ∃ x6 x13 x19 x22 x23 x24 : AV, A2 x6 = true ∧ A2 x13 = true ∧ A2 x19 = true ∧ A2 x22 = true ∧ A2 x23 = true ∧ A2 x24 = true ∧ xs = [.sc (.int .i64 p.fType), .sc (.bool p.fDup), .sc (.int .i64 p.fQos), .sc (.bool p.fRetain), .sc (.int .i64 p.fId), .sc (.string p.fTopic), x6, .sc (.string p.fClient), .sc (.int .i64 p.fLevel), .sc (.bool p.fClean), .sc (.int .i64 p.fKeep), .sc (.bool p.fHasWill), .sc (.string p.fWTopic), x13, .sc (.int .i64 p.fWQos), .sc (.bool p.fWRetain), .sc (.bool p.fHasUser), .sc (.string p.fUser), .sc (.bool p.fHasPass), x19, .sc (.int .i64 p.fCode), .sc (.bool p.fPresent), x22, x23, x24] ∧ Lx = [.own x24 57 (Ey p.fCodes), .own x23 56 (Et p.fNames), .own x22 55 (Bl Bu p.fWants), .own x19 22 (Ae p.fPass), .own x13 22 (Ae p.fWBody), .own x6 22 (Ae p.fBody)] :=
 InsL.mono (A1 (A1 (A1 (A1 (A1 (A1 (Hx (ty := 22) rfl (Ca p.fBody) (A1 (A1 (A1 (A1 (A1 (A1 (Hx (ty := 22) rfl (Ca p.fWBody) (A1 (A1 (A1 (A1 (A1 (Hx (ty := 22) rfl (Ca p.fPass) (A1 (A1 (Hx (ty := 55) rfl (Lj p.fWants) (Hx (ty := 56) rfl (Xh p.fNames) (Hx (ty := 57) rfl (Aay p.fCodes) C2))))))))))))))))))))))))) (by
  rintro _ _ ⟨_, rfl, ⟨_, rfl, ⟨_, rfl, ⟨_, rfl, ⟨_, rfl, ⟨_, rfl, ⟨x6, _, _, l6, rfl, rfl, ⟨_, rfl, ⟨_, rfl, ⟨_, rfl, ⟨_, rfl, ⟨_, rfl, ⟨_, rfl, ⟨x13, _, _, l13, rfl, rfl, ⟨_, rfl, ⟨_, rfl, ⟨_, rfl, ⟨_, rfl, ⟨_, rfl, ⟨x19, _, _, l19, rfl, rfl, ⟨_, rfl, ⟨_, rfl, ⟨x22, _, _, l22, rfl, rfl, ⟨x23, _, _, l23, rfl, rfl, ⟨x24, _, _, l24, rfl, rfl, ⟨rfl, rfl⟩⟩⟩⟩⟩⟩⟩⟩⟩⟩⟩⟩⟩⟩⟩⟩⟩⟩⟩⟩⟩⟩⟩⟩⟩⟩
  exact ⟨x6, x13, x19, x22, x23, x24, l6, l13, l19, l22, l23, l24, rfl, rfl⟩)
end
section
open Go
inductive Sel : List Ck → List Ck → Prop
 | nil {L : List Ck} : Sel L []
 | cons {L L1 L' : List Ck} {c : Ck} : Pk L c L1 → Sel L1 L' → Sel L (c :: L')
 | rest {L : List Ck} : Sel L L
 | skip {L L' : List Ck} {c : Ck} : Sel L L' → Sel (c :: L) L'
theorem zS2 {a0 a1 : Ck} {L : List Ck} : Sel (a0 :: a1 :: L) L := .skip (.skip (.rest))
section
variable {β : Type} {n : Nat} {H : Ab} {L L' L1 L2 : List Ck} {G : Option β → Prop} {K : AV → Option β} {KH : KO β}
theorem Sep.none (h : Sep H L) : Sep H [] := by
 induction L with
 | nil => exact h
 | cons c L ih => exact ih h.tail
theorem Sel.sepI : ∀ {L L' : List Ck} {I : List Nat}, Sel L L' → SepI H L I → ∃ J X, SepI H L' J ∧ I.Perm (J ++ X)
 | _, _, I, .nil, h => ⟨[], I, rfl, zbH.refl _⟩
 | _, _, I, .rest, h => ⟨I, [], h, by simp⟩
 | _, _, I, .skip q, h => by
  obtain ⟨J, R, rfl, g1, g2⟩ := h
  obtain ⟨J', X, e1, e2⟩ := q.sepI g2
  refine ⟨J', J ++ X, e1, ?_⟩
  refine (zbH.append_left J e2).trans ?_
  rw [← zaf, ← zaf]
  exact zbH.append_right X List.perm_append_comm
 | _, _, I, .cons p q, h => by
  obtain ⟨J, R, g1, g2, g3⟩ := p.sepI h
  obtain ⟨J', X, e1, e2⟩ := q.sepI g2
  refine ⟨J ++ J', X, ⟨J, J', rfl, g1, e1⟩, ?_⟩
  rw [zaf]
  exact g3.trans (zbH.append_left J e2)
theorem Sep.sel (h : Sep H L) (q : Sel L L') : Sep H L' := by
 obtain ⟨I, h1, h2⟩ := h
 obtain ⟨J, X, g1, g2⟩ := q.sepI h1
 exact ⟨J, g1, (zbf.1 (g2.nodup_iff.1 h2)).1⟩
theorem Ad9 {x off : Nat} {ts : List AV} {cs : List AV} {a : Bool} {m : Option β} (hs : Sep H L) (hp : Pk L (.blk x cs a) L1) (ht : ∀ y ∈ ts, ∃ j o ds b, y = .ptr j o ∧ ∃ L2, Pk L1 (.blk j ds b) L2) (h : Gd G m) : Gd G (Oz (.ptr x off) ts H m) := by
 have e : Vo (.ptr x off) ts H = true := by
  have hb := hs.blk hp
  simp only [Vo, hb, za2, za9]
  intro y hy
  obtain ⟨j, o, ds, b, rfl, L2, hq⟩ := ht y hy
  obtain ⟨I, ⟨J, R, rfl, ⟨rfl, h1⟩, h2⟩, h3⟩ := hs.pick hp
  obtain ⟨J', R', ⟨rfl, g1⟩, g2, g3⟩ := hq.sepI h2
  have hne : x ≠ j := by
   rintro rfl
   have hn := (zbr.1 h3).1
   exact hn (g3.symm.mem_iff.1 (by simp))
  simp [g1, hne]
 unfold Oz
 rw [if_pos e]
 exact h
theorem Gd.bothE {r a b : Option β} (h1 : Gd (· = r) a) (h2 : Gd (· = r) b) : Gd (· = r) (Qd a b) := Ab9 h1 h2
theorem AhY {x o o' : Nat} {m : Option β} (h : Gd G m) : Gd G (Sx (.ptr x o) (.ptr x o') m) := by
 simp only [Sx, if_true]
 exact h
theorem Pv {α : Type} {w : Nat} {enc : α → List AV} {l pre t : List α} {x : α} {i : Int} (hi : i = (pre.length : Nat)) (hw : ∀ x, (enc x).length = w) (h0 : 0 < w) (hl : l = pre ++ x :: t) (h : Gd G (K (.rp (enc x ++ (t.map enc).flatten)))) : Gd G (Dj w (Bl enc l) (.sc (.int .i64 i)) fun t => K t) := by
 subst hl
 subst hi
 exact Dp (Ado hw h0 pre x t _) h
theorem Nr {l pre t : List Int} {x i : Int} (hi : i = (pre.length : Nat)) (hl : l = pre ++ x :: t) (h : Gd G (K (.rp (V4 x ++ (t.map V4).flatten)))) : Gd G (Dj 1 (Ey l) (.sc (.int .i64 i)) fun t => K t) := by
 rw [Lu]
 exact Pv hi (fun _ => rfl) (by decide) hl h
theorem Q4 {l pre t : List ByteArray} {x : ByteArray} {i : Int} (hi : i = (pre.length : Nat)) (hl : l = pre ++ x :: t) (h : Gd G (K (.rp (V5 x ++ (t.map V5).flatten)))) : Gd G (Dj 1 (Et l) (.sc (.int .i64 i)) fun t => K t) := by
 rw [L0]
 exact Pv hi (fun _ => rfl) (by decide) hl h
def Ax (s : ByteArray) (i : Int) : Int := ((s.data.toList.getD i.toNat 0).toNat : Nat)
theorem Dw (s : ByteArray) (i : Int) : 0 ≤ Ax s i ∧ Ax s i < 256 := by
 have := (s.data.toList.getD i.toNat 0).toNat_lt
 unfold Ax
 omega
theorem Gp {s : ByteArray} {i : Int} (h0 : 0 ≤ i) (h1 : i < (s.size : Nat)) (h : ∀ rest, Gd G (K (.rp (.sc (.int .u8 (Ax s i)) :: rest)))) : Gd G (Dj 1 (Ae s) (.sc (.int .i64 i)) fun t => K t) := by
 have hlt : i.toNat < s.size := by omega
 have e : (Ba s).drop (i.toNat * 1) = .sc (.int .u8 (Ax s i)) :: (Ba s).drop (i.toNat + 1) := by
  rw [zby, zaD (by rw [Es]; omega)]
  congr 1
  simp [Ba, Ax, zb1, hlt]
 have e2 : (.sc (.int .i64 i) : AV) = .sc (.int .i64 (i.toNat : Nat)) := by
  rw [Int.toNat_of_nonneg h0]
 rw [e2]
 refine Dp (Ot 1 s.size (Ba s) i.toNat _ hlt (by rw [Es]; omega)) ?_
 rw [e]
 exact h _
theorem AbH {α : Type} {enc : α → List AV} (l q : List α) : Bl enc (l ++ q) = .ro (l.length + q.length) ((l.map enc).flatten ++ (q.map enc).flatten) := by
 show AV.ro _ _ = _
 rw [zae, zaF, zbd]
theorem Aam {α : Type} {enc : α → List AV} {sz bytes ty : Nat} {cty : List Nat} {x : AV} {l : List α} {i : Nat} {raw cb : List AV} {a : Bool} {e : α} {L3 : List Ck} (hs : Sep H L) (hty : ∃ i j, Ak ty = some i ∧ Ak i.elem = some j ∧ j.size = sz ∧ j.cty = cty) (hx : Pk L (.own x ty (Bl enc l)) L1) (hp : Pk L1 (.blk i raw a) L2) (hl : raw.length = sz) (hf : raw.all A2 = true) (hr : OwnR L2 raw cty cb L3) (hok : Fv (Hq Ak E0.tp 5) cty cb) (he : cb = enc e) (hb : (l.length + 1) * bytes ≤ 140737488355328)
  (h : ∀ x' H', A2 x' = true → Sep H' (.own x' ty (Bl enc (l ++ [e])) :: L3) → Gd G (KH x' H')) : Gd G (Lk sz bytes x (.sl i 0 1 sz) H fun x H => KH x H) := by
 have e1 : (zak 1 cty).flatten = cty := by simp
 refine Abj hs hty hx (Vi hp (by omega) hf (by rw [e1]; exact hr) (by rw [e1]; exact hok)) (by rw [e1]; exact hok) hb fun x' H' lx hs' => h x' H' lx ?_
 rw [AbH]
 simpa [he] using hs'
theorem AdA {ty : Nat} {cty : List Nat} {x : AV} {l : List Int} {i : Nat} {z : Int} {a : Bool} (hs : Sep H L) (hx : Pk L (.own x ty (Ey l)) L1) (hp : Pk L1 (.blk i [.sc (.int .i64 z)] a) L2) (hty : ∃ i j, Ak ty = some i ∧ Ak i.elem = some j ∧ j.size = 1 ∧ j.cty = cty) (hc : cty.length = 1) (hb : (l.length + 1) * 8 ≤ 140737488355328)
  (h : ∀ x' H', A2 x' = true → Sep H' (.own x' ty (Ey (l ++ [z])) :: L2) → Gd G (KH x' H')) : Gd G (Lk 1 8 x (.sl i 0 1 1) H fun x H => KH x H) := by
 obtain ⟨c, rfl⟩ := zb0.1 hc
 rw [Lu] at hx h
 exact Aam hs hty hx hp rfl rfl (.sc .nil) ⟨trivial, trivial⟩ rfl hb h
theorem Aan {ty : Nat} {cty : List Nat} {x : AV} {l : List ByteArray} {i : Nat} {z : ByteArray} {a : Bool} (hs : Sep H L) (hx : Pk L (.own x ty (Et l)) L1) (hp : Pk L1 (.blk i [.sc (.string z)] a) L2) (hty : ∃ i j, Ak ty = some i ∧ Ak i.elem = some j ∧ j.size = 1 ∧ j.cty = cty) (hc : cty.length = 1) (hb : (l.length + 1) * 16 ≤ 140737488355328)
  (h : ∀ x' H', A2 x' = true → Sep H' (.own x' ty (Et (l ++ [z])) :: L2) → Gd G (KH x' H')) : Gd G (Lk 1 16 x (.sl i 0 1 1) H fun x H => KH x H) := by
 obtain ⟨c, rfl⟩ := zb0.1 hc
 rw [L0] at hx h
 exact Aam hs hty hx hp rfl rfl (.sc .nil) ⟨trivial, trivial⟩ rfl hb h
theorem AdR {f : Nat → AV → Option (AV × List Nat)} : ∀ {ts : List Nat} {xs cells : List AV} {I : List Nat} {k ty : Nat} {y t : AV}, Di f ts xs = some (cells, I) → xs[k]? = some y → ts[k]? = some ty → cells[k]? = some t → ∃ J, f ty y = some (t, J) ∧ ∀ i ∈ J, i ∈ I
 | ts, [], cells, I, k, ty, y, t, h, hy, _, _ => by simp at hy
 | [], _ :: _, _, _, _, _, _, _, h, _, _, _ => by simp [Di] at h
 | t0 :: ts, x :: xs, cells, I, k, ty, y, t, h, hy, ht, hc => by
  obtain ⟨a, b, h1, h2, e⟩ := Gj h
  cases e
  cases k with
  | zero =>
   simp only [zbi, Option.some.injEq] at hy ht hc
   subst hy
   subst ht
   subst hc
   exact ⟨a.2, h1, fun i hi => za8 _ hi⟩
  | succ k =>
   obtain ⟨J, g1, g2⟩ := AdR (cells := b.1) (I := b.2) h2 (by simpa using hy) (by simpa using ht) (by simpa using hc)
   exact ⟨J, g1, fun i hi => zaE _ (g2 i hi)⟩
theorem AdB {α : Type} {enc : α → List AV} {sz bytes ty : Nat} {cty : List Nat} {x : AV} {l : List α} {i k ty' : Nat} {y t' : AV} {raw cb : List AV} {a : Bool} {e : α} {L3 : List Ck} (hs : Sep H L) (hty : ∃ i j, Ak ty = some i ∧ Ak i.elem = some j ∧ j.size = sz ∧ j.cty = cty) (hx : Pk L (.own x ty (Bl enc l)) L1) (hp : Pk L1 (.blk i raw a) L2) (hl : raw.length = sz) (hf : raw.all A2 = true) (hr : OwnR L2 raw cty cb L3) (hok : Fv (Hq Ak E0.tp 5) cty cb) (he : cb = enc e) (hb : (l.length + 1) * bytes ≤ 140737488355328)
  (hw : ∀ x, (enc x).length = sz) (hc : cty.length = sz) (hk : raw[k]? = some y) (hk2 : cty[k]? = some ty') (hk3 : cb[k]? = some t') (hok5 : Hq Ak E0.tp 6 ty' t')
  (h : ∀ x' H', A2 x' = true → Sep H' (.shr x' ty (Bl enc (l ++ [e])) y ty' t' :: L3) → Gd G (KH x' H')) : Gd G (Lk sz bytes x (.sl i 0 1 sz) H fun x H => KH x H) := by
 have e1 : (zak 1 cty).flatten = cty := by simp
 have hblk := (hs.pick hx).tail.blk hp
 obtain ⟨ti, tj, t1, t2, t3, t4⟩ := hty
 refine AhV hs ⟨ti, tj, t1, t2, t3, t4⟩ hx (Vi hp (by omega) hf (by rw [e1]; exact hr) (by rw [e1]; exact hok)) (by rw [e1]; exact hok) hb fun x' H' lx hs' ⟨id, cx, cy, q1, q2, q3, q4⟩ => h x' H' lx ?_
 have hcy : cy = raw := by
  have : Dn H sz (.sl i 0 1 sz) = some raw := by
   show (if sz = sz then As H i 0 (1 * sz) else none) = _
   simp only [if_true, As, hblk, Nat.one_mul, za0, zaN, ← hl, zao, zaJ]
  rw [this] at q3
  exact (Option.some.inj q3).symm
 subst hcy
 obtain ⟨I, ⟨J, R, rfl, ⟨h0, h1, h2⟩, h3⟩, h4⟩ := hs'
 have hrow : AV.ro (l.length + 1) ((l.map enc).flatten ++ cb) = Bl enc (l ++ [e]) := by
  rw [AbH]
  simp [he]
 rw [hrow] at h1 h2
 refine ⟨J ++ R, ⟨J, R, rfl, ⟨⟨h0, h1, h2⟩, hok5, ?_⟩, h3⟩, h4⟩
 rw [← hrow] at h2
 rcases Qy t1 t2 h2 with ⟨rfl, _⟩ | ⟨id', off, raw', J', b, p1, p2, p3, p4, p5, p6, p7⟩
 ·cases q1
 ·rw [q1] at p1
  cases p1
  rw [q2] at p3
  cases p3
  have hraw : raw' = cx ++ cy := by
   have hlen : (cx ++ cy).length = (l.length + 1) * tj.size := by rw [zae, q4, hl, t3, zbK, Nat.one_mul]
   simp only [As, q2, if_true, za0, zaN] at p6
   rw [if_pos (by rw [hlen]; exact zao _), ← hlen, zaJ] at p6
   exact (Option.some.inj p6).symm
  subst hraw
  have hlk : k < cy.length := (zac.1 hk).1
  obtain ⟨J2, g1, g2⟩ := AdR (k := l.length * tj.size + k) (ty := ty') (y := y) (t := t') p7 (by
   rw [zaj (by omega), q4, zbv]
   exact hk) (by
   rw [List.replicate_succ', zbd, zaj (by simp [t4, hc])]
   simp [t4, hc, hk2]) (by
   have hlr := Xz hw l
   rw [zaj (by omega), hlr, zbv]
   exact hk3)
  exact ⟨J2, Jw 5 6 ty' y t' J2 g1 hok5, fun z hz => by rw [p2]; exact zav _ (g2 z hz)⟩
theorem An4 {sz bytes m ty : Nat} {cty : List Nat} {y : AV} {cb : List AV} (hs : Sep H L) (hty : ∃ i j, Ak ty = some i ∧ Ak i.elem = some j ∧ j.size = sz ∧ j.cty = cty) (hy : Src H L sz cty y m cb L2) (hok : Fv (Hq Ak E0.tp 5) (zak m cty).flatten cb) (hb : m * bytes ≤ 140737488355328)
  (h : ∀ x' H', A2 x' = true → Sep H' (.own x' ty (.ro m cb) :: L2) → Gd G (KH x' H')) : Gd G (Lk sz bytes .nl y H fun x H => KH x H) := by
 obtain ⟨i, j, e1, e2, e3, e4⟩ := hty
 refine Abj (hs.nl (ty := ty) ⟨i, j, e1, e2⟩) ⟨i, j, e1, e2, e3, e4⟩ .here hy hok (by rw [za0]; exact hb) fun x' H' lx hs' => h x' H' lx ?_
 rw [za0, zai] at hs'
 exact hs'
theorem Sq {d : Nat} : ∀ {ts : List Nat} {l : List AV}, ts.length = l.length → l.all M9 = true → Fv (Hq Ak E0.tp (d + 1)) ts l
 | [], [], _, _ => trivial
 | t :: ts, x :: l, h, hl => by
  rw [zaz, zag] at hl
  refine ⟨?_, Sq (by simpa using h) hl.2⟩
  cases x with
  | sc v => trivial
  | _ => simp [M9] at hl
 | [], _ :: _, h, _ => by simp at h
 | _ :: _, [], h, _ => by simp at h
theorem Iy (s : ByteArray) : (Ba s).all M9 = true := by
 simp only [Ba, List.all_map, za9]
 intro b _
 rfl
theorem AdJ {cty : List Nat} {w m : Nat} (h : cty.length = w) : ((zak m cty).flatten).length = m * w := by simp [h]
theorem Js {s : ByteArray} (hs : Sep H L) (hb : s.size ≤ 140737488355328) (h : ∀ x' H', A2 x' = true → Sep H' (.own x' 22 (Ae s) :: L) → Gd G (KH x' H')) : Gd G (Lk 1 1 .nl (Ae s) H fun x H => KH x H) :=
 An4 hs ⟨_, _, rfl, rfl, rfl, rfl⟩ (AiP rfl (by rw [Es]; omega) (Iy s)) (Sq (by rw [AdJ (w := 1) rfl, Es, zby]) (Iy s)) (by omega) h
end
end
section
open Go
section
variable {β : Type} {n : Nat} {H : Ab} {L L' L1 L2 : List Ck} {G : Option β → Prop} {K : AV → Option β} {KH : KO β}
theorem Xn {d : Nat} : ∀ {ts : List Nat} {xs cells : List AV} {I : List Nat}, Di (Cz Ak E0.tp H d) ts xs = some (cells, I) → cells.all M9 = true → xs = cells ∧ I = []
 | ts, [], cells, I, h, _ => by
  obtain ⟨_, e⟩ := Iw h
  cases e
  exact ⟨rfl, rfl⟩
 | [], _ :: _, _, _, h, _ => by simp [Di] at h
 | t :: ts, x :: xs, cells, I, h, hs => by
  obtain ⟨a, b, h1, h2, e⟩ := Gj h
  cases e
  rw [zaz, zag] at hs
  obtain ⟨rfl, e2⟩ := Xn h2 hs.2
  have hx : x = a.1 ∧ a.2 = [] := by
   obtain ⟨a1, a2⟩ := a
   cases a1 with
   | sc v =>
    have := Xo h1
    subst this
    cases d with
    | zero => simp [Cz] at h1
    | succ d =>
     have : (AV.sc v, ([] : List Nat)) = (.sc v, a2) := Option.some.inj h1
     cases this
     exact ⟨rfl, rfl⟩
   | _ => simp [M9] at hs
  refine ⟨by rw [hx.1], by rw [hx.2, e2]; rfl⟩
theorem Uo {d : Nat} : ∀ {ts : List Nat} {l : List AV}, ts.length = l.length → l.all M9 = true → Di (Cz Ak E0.tp H (d + 1)) ts l = some (l, [])
 | [], [], _, _ => rfl
 | t :: ts, x :: l, h, hl => by
  rw [zaz, zag] at hl
  cases x with
  | sc v =>
   rw [Di, Aa3, zad, Uo (by simpa using h) hl.2]
   rfl
  | _ => simp [M9] at hl
 | [], _ :: _, h, _ => by simp at h
 | _ :: _, [], h, _ => by simp at h
theorem Sep.closeR {sz m ty id : Nat} {pre cells post : List AV} (hty : ∃ i j, Ak ty = some i ∧ Ak i.elem = some j ∧ j.size = sz ∧ j.cty.length = sz) (hs : Sep H (.blk id (pre ++ (cells ++ post)) true :: L)) (hf : cells.all M9 = true) (hl : cells.length = m * sz) : Sep H (.own (.sl id pre.length m sz) ty (.ro m cells) :: L) := by
 obtain ⟨i, j, e1, e2, rfl, e4⟩ := hty
 obtain ⟨I, ⟨J, R, rfl, ⟨rfl, h1⟩, h2⟩, h3⟩ := hs
 have hlen : ((zak m j.cty).flatten).length = cells.length := by simp [e4, hl]
 refine ⟨[id] ++ R, ⟨[id], R, rfl, ⟨rfl, ⟨i, j, e1, e2, hl, Sq hlen hf⟩, ?_⟩, h2⟩, h3⟩
 rw [I8]
 have ha : Jj H id = true := by simp only [Jj, h1]
 have hrd : As H id pre.length (m * j.size) = some cells := by
  simp only [As, h1, if_true]
  rw [if_pos (by simp only [zae]; omega), List.drop_left', ← hl, zbG]
  rfl
  rfl
 simp only [e1, e2, zad, if_true, ha, hrd, Uo (d := 4) hlen hf]
theorem Ak0 {w m o d : Nat} {z : Int} {K : AV → Option β} (h0 : 0 ≤ z) (h1 : z < m) (hk : Gd G (K (.ptr d (o + z.toNat * w)))) : Gd G (Dj w (.sl d o m w) (.sc (.int .i64 z)) fun t => K t) := by
 have e := Aar w m d o z.toNat (fun t => K t) (by omega)
 rw [show ((z.toNat : Nat) : Int) = z by omega] at e
 exact Dp e hk
end
end
section
open Go
section
variable {β : Type} {n : Nat} {H : Ab} {L L' L1 L2 : List Ck} {G : Option β → Prop} {K : AV → Option β} {KH : KO β}
theorem Zs {d : Nat} : ∀ {ts : List Nat} {xs cells : List AV} {I : List Nat} {k : Nat} {v : Value}, Di (Cz Ak E0.tp H d) ts xs = some (cells, I) → cells[k]? = some (.sc v) → xs[k]? = some (.sc v)
 | ts, [], cells, I, k, v, h, hk => by
  obtain ⟨_, e⟩ := Iw h
  cases e
  simp at hk
 | [], _ :: _, _, _, _, _, h, _ => by simp [Di] at h
 | t :: ts, x :: xs, cells, I, k, v, h, hk => by
  obtain ⟨a, b, h1, h2, e⟩ := Gj h
  cases e
  cases k with
  | zero =>
   obtain ⟨a1, a2⟩ := a
   have : a1 = .sc v := by simpa using hk
   subst this
   rw [Xo h1]
   rfl
  | succ k => simpa using Zs h2 (by simpa using hk)
theorem Akz {sz m ty : Nat} {x : AV} {cells : List AV} {i : Int} (hs : Sep H L) (hty : ∃ i j, Ak ty = some i ∧ Ak i.elem = some j ∧ j.size = sz) (hp : Pk L (.own x ty (.ro m cells)) L1) (h0 : 0 ≤ i) (h1 : i < (m : Nat))
  (h : ∀ id off, (∀ k v, k < sz → cells[i.toNat * sz + k]? = some (.sc v) → As H id (off + k) 1 = some [.sc v]) → Gd G (K (.ptr id off))) : Gd G (Dj sz x (si i) fun t => K t) := by
 obtain ⟨ti, tj, e1, e2, rfl⟩ := hty
 obtain ⟨_, _, I, e, _⟩ := hs.own hp
 rcases Qy e1 e2 e with ⟨rfl, rfl, rfl, rfl⟩ | ⟨id, off, raw, J', b, rfl, rfl, hb, hlv, ha, h4, h5⟩
 exact absurd h1 (by simp; omega)
 refine Ak0 h0 h1 (h _ _ fun k v hk hc => ?_)
 obtain ⟨hl, b', hb', _, hle, hcs⟩ := I9 h4
 rw [hb] at hb'
 cases hb'
 have hr := Zs h5 hc
 have hlt := (zac.1 hr).1
 rw [hl] at hlt
 have hg : b.cells[off + i.toNat * tj.size + k]? = some (.sc v) := by
  rw [hcs, zbt hlt, zba] at hr
  rw [← hr]
  congr 1
  omega
 obtain ⟨hlt2, he⟩ := zac.1 hg
 simp only [As, hb, hlv, if_true]
 rw [if_pos (by omega), zaD hlt2, he]
 rfl
theorem AoQ {id o : Nat} {c : AV} (e : As H id o 1 = some [c]) (h : Gd G (K c)) : Gd G (Bx false 1 (.ptr id o) H fun x => K x) := Dp (ldF e _) h
end
end
section
open Go
section
variable {β : Type} {n : Nat} {H : Ab} {L L' L1 L2 : List Ck} {G : Option β → Prop} {K : AV → Option β} {KH : KO β}
theorem Rq {f : Nat → AV → Option (AV × List Nat)} : ∀ {ts1 ts2 : List Nat} {xs cells : List AV} {I : List Nat}, Di f (ts1 ++ ts2) xs = some (cells, I) → ts1.length ≤ xs.length → ∃ I1 I2, Di f ts1 (xs.take ts1.length) = some (cells.take ts1.length, I1) ∧ Di f ts2 (xs.drop ts1.length) = some (cells.drop ts1.length, I2) ∧ (∀ i ∈ I1, i ∈ I) ∧ ∀ i ∈ I2, i ∈ I
 | [], ts2, xs, cells, I, h, _ => ⟨[], I, by simp [Di], by simpa using h, by simp, fun i hi => hi⟩
 | t :: ts1, ts2, [], cells, I, h, hl => by simp at hl
 | t :: ts1, ts2, x :: xs, cells, I, h, hl => by
  obtain ⟨a, b, h1, h2, e⟩ := Gj h
  cases e
  obtain ⟨I1, I2, g1, g2, g3, g4⟩ := Rq (ts1 := ts1) (ts2 := ts2) h2 (by simpa using hl)
  refine ⟨a.2 ++ I1, I2, ?_, ?_, ?_, ?_⟩
  show Di f (t :: ts1) (x :: xs.take ts1.length) = some (a.1 :: b.1.take ts1.length, a.2 ++ I1)
  rw [Di, h1, zad, g1]
  rfl
  simpa using g2
  intro i hi
  rcases zaQ.1 hi with hi | hi
  exact za8 _ hi
  exact zaE _ (g3 i hi)
  intro i hi
  exact zaE _ (g4 i hi)
theorem Rp {f : Nat → AV → Prop} : ∀ {ts1 ts2 : List Nat} {cs : List AV}, Fv f (ts1 ++ ts2) cs → Fv f ts1 (cs.take ts1.length) ∧ Fv f ts2 (cs.drop ts1.length)
 | [], ts2, cs, h => ⟨by simp [Fv], by simpa using h⟩
 | t :: ts1, ts2, [], h => by cases h
 | t :: ts1, ts2, c :: cs, h => by
  obtain ⟨g1, g2⟩ := Rp (ts1 := ts1) h.2
  exact ⟨⟨h.1, g1⟩, by simpa using g2⟩
theorem Alg {id o w k v : Nat} {cs : List AV} (e : As H id o w = some cs) (hk : k + v ≤ w) : As H id (o + k) v = some ((cs.drop k).take v) := by
 obtain ⟨hl, b, hb, hlv, hle, hcs⟩ := I9 e
 simp only [As, hb, hlv, if_true]
 rw [if_pos (by omega), hcs, List.drop_take, List.take_take, zbq, Nat.min_eq_left (by omega)]
theorem Rn {id o k : Nat} {c : AV} {w : Nat} {cs : List AV} (e : As H id o w = some cs) (hk : k < w) (hc : cs[k]? = some c) (h : Gd G (K c)) : Gd G (Bx false 1 (.ptr id (o + k)) H fun x => K x) := by
 have e2 := Alg (k := k) (v := 1) e (by omega)
 obtain ⟨hlt, he⟩ := zac.1 hc
 rw [zaD hlt, he] at e2
 exact AoQ e2 h
def Ay (s : ByteArray) (b : Int) : ByteArray := s.push (UInt8.ofNat b.toNat)
theorem Aq (s : ByteArray) (b : Int) : (Ay s b).size = s.size + 1 := by
 unfold Ay
 exact ByteArray.size_push
theorem H6 (s : ByteArray) (b : Int) (h0 : 0 ≤ b) (h1 : b < 256) : Ae (Ay s b) = .ro (s.size + 1) (Ba s ++ [.sc (.int .u8 b)]) := by
 show AV.ro (Ay s b).size (Ba (Ay s b)) = _
 rw [Aq]
 congr 1
 have e : ((UInt8.ofNat b.toNat).toNat : Int) = b := by
  rw [UInt8.toNat_ofNat']
  omega
 unfold Ba Ay
 rw [zbL, Array.toList_push, zaF, zat, zaO, e]
theorem E1 {ty : Nat} {cty : List Nat} {x : AV} {s : ByteArray} {i : Nat} {z : Int} {a : Bool} (hs : Sep H L) (hx : Pk L (.own x ty (Ae s)) L1) (hp : Pk L1 (.blk i [.sc (.int .u8 z)] a) L2) (hty : ∃ i j, Ak ty = some i ∧ Ak i.elem = some j ∧ j.size = 1 ∧ j.cty = cty) (hc : cty.length = 1) (hb : 0 ≤ z ∧ z < 256 ∧ s.size + 1 ≤ 140737488355328)
  (h : ∀ x' H', A2 x' = true → Sep H' (.own x' ty (Ae (Ay s z)) :: L2) → Gd G (KH x' H')) : Gd G (Lk 1 1 x (.sl i 0 1 1) H fun x H => KH x H) := by
 obtain ⟨c, rfl⟩ := zb0.1 hc
 have e1 : (zak 1 [c]).flatten = [c] := by simp
 rw [H6 s z hb.1 hb.2.1] at h
 exact Abj (m := 1) (cb := [.sc (.int .u8 z)]) hs hty hx (Vi hp rfl rfl (by rw [e1]; exact .sc .nil) (by rw [e1]; exact ⟨trivial, trivial⟩)) (by rw [e1]; exact ⟨trivial, trivial⟩) (by omega) fun x' H' lx hs' => h x' H' lx hs'
theorem Fp {k k' : IntKind} {a z : Int} {K : AV → Option β} (hz : k.wrap a = z) (h : Gd G (K (.sc (.int k z)))) : Gd G (Xs k (.sc (.int k' a)) fun t => K t) := by
 subst hz
 exact h
end
end
section
open Go
section
variable {β : Type} {n : Nat} {H : Ab} {L L1 : List Ck} {G : Option β → Prop} {K : AV → Option β} {KH : KO β}
theorem Oo {ty : Nat} {x : AV} {l : List ByteArray} {y : ByteArray} {i : Int} (hs : Sep H L) (hp : Pk L (.own x ty (Et l)) L1) (hty : ∃ i j, Ak ty = some i ∧ Ak i.elem = some j ∧ j.size = 1) (h0 : 0 ≤ i) (hy : l[i.toNat]? = some y)
  (h : ∀ id off, As H id off 1 = some [ss y] → Gd G (K (.ptr id off))) : Gd G (Dj 1 x (si i) fun t => K t) := by
 have hlt := (zac.1 hy).1
 exact Akz (m := l.length) (cells := l.map fun z => .sc (.string z)) hs hty hp h0 (by omega) fun id off hc => h id off (hc 0 _ (by omega) (by simp [hy]))
theorem Aao {ty f : Nat} {g : Nat → List AV → Option AV} {args vs : List AV} {v : Value} (hg : E0.ext f = some g) (hv : args.mapM (C5 H 8) = some vs) (ht : g ty vs = some (.sc v)) (h : Gd G (KH (.sc v) H)) : Gd G ((PR n β).call ty (.fn f [] []) args H fun x H => KH x H) := by
 refine Dp ?_ h
 rw [AbY hg hv ht, F8, zam]
theorem Qp {X : Option β} (e : Bool) {F : Bool → Option β} (h1 : ∀ b, b = e → Gd (· = F b) X) (h2 : ∀ b, b = e → Gd G (F b)) : Gd G X := by
 have h : X = F e := h1 e rfl
 rw [h]
 exact h2 e rfl
theorem Ky {X : Option β} : Gd (· = X) X := rfl
theorem Zc {c v b : Bool} {y : AV} (hc : c = true) (hv : v = b) (h : Gd G (K (.sc (.bool b)))) : Gd G (M1 (.sc (.bool c)) (.sc (.bool v)) y fun t => K t) := by
 subst hc
 subst hv
 exact D7 rfl h
theorem Zb {c v b : Bool} {x : AV} (hc : c = false) (hv : v = b) (h : Gd G (K (.sc (.bool b)))) : Gd G (M1 (.sc (.bool c)) x (.sc (.bool v)) fun t => K t) := by
 subst hc
 subst hv
 exact D3 rfl h
end
end
set_option maxHeartbeats 1600000
section
open Go
def Fs (l : ByteArray) (last : Bool) : Bool := !vPH l || (l.toList == (⟨#[43]⟩ : ByteArray).toList || (l.toList == (⟨#[35]⟩ : ByteArray).toList && last))
def Em : List ByteArray → Bool
 | [] => true
 | x :: r => Fs x r.isEmpty && Em r
def F1 (s : ByteArray) : Bool := Bv s && (!(s.toList == (⟨#[]⟩ : ByteArray).toList) && decide (((Be s).length : Int) ≤ 6))
def Cp (s : ByteArray) : Bool := Em (Be s) && F1 s
theorem eqB {a b : ByteArray} : (a.toList == b.toList) = true ↔ a = b := by
 rw [beq_iff_eq]
 constructor
 intro h
 have h2 : a.data.toList = b.data.toList := by simpa [ByteArray.toList_eq] using h
 exact zbO (zbk h2)
 rintro rfl
 rfl
theorem Aax : ∀ (r cur : List UInt8), (lvL cur r).length ≤ r.length + 1
 | [], cur => by simp [lvL]
 | c :: r, cur => by
  rw [lvL]
  split
  have := Aax r []
  simp only [zan]
  omega
  have := Aax r (cur ++ [c])
  simp only [zan]
  omega
theorem To : ∀ (r cur : List UInt8), ∀ x ∈ lvL cur r, x.length ≤ cur.length + r.length
 | [], cur, x, h => by
  simp only [lvL, zbu] at h
  subst h
  simp
 | c :: r, cur, x, h => by
  rw [lvL] at h
  split at h
  rcases zb9.1 h with rfl | h
  simp only [zan]
  omega
  have := To r [] x h
  simp only [zan, zax] at *
  omega
  have := To r (cur ++ [c]) x h
  simp only [zae, zan, zax] at *
  omega
theorem Kj (s : ByteArray) (hs : s.size ≤ 1048576) : (Be s).length ≤ 1048577 := by
 have := Aax s.data.toList []
 unfold Be
 rw [zbQ]
 have e : s.data.toList.length = s.size := by simp
 omega
theorem Zk (s : ByteArray) (hs : s.size ≤ 1048576) (x : ByteArray) (hx : x ∈ Be s) : x.size ≤ 1048576 := by
 unfold Be at hx
 obtain ⟨l, hl, rfl⟩ := zbS.1 hx
 have := To s.data.toList [] l hl
 have e : s.data.toList.length = s.size := by simp
 have e2 : (ofL l).size = l.length := by simp [ofL, zbx]
 simp only [zax] at this
 omega
theorem AoU (a b : Nat) : decide (((a : Nat) : Int) < ((a + (b + 1) : Nat) : Int) - 1) = !decide (((a : Nat) : Int) = ((a + (b + 1) : Nat) : Int) - 1) := by
 by_cases h : b = 0
 rw [decide_eq_false (by omega), decide_eq_true (by omega)]
 rfl
 rw [decide_eq_true (by omega), decide_eq_false (by omega)]
 rfl
theorem Af4 (l : ByteArray) (last : Bool) : Fs l last = !((Iz l 43 && !(l.toList == (⟨#[43]⟩ : ByteArray).toList)) || (Iz l 35 && (!(l.toList == (⟨#[35]⟩ : ByteArray).toList) || !last))) := by
 unfold Fs
 rw [show vPH l = (Iz l 43 || Iz l 35) from rfl]
 by_cases h1 : (l.toList == (⟨#[43]⟩ : ByteArray).toList) = true
 obtain rfl := eqB.1 h1
 have e1 : Iz (⟨#[43]⟩ : ByteArray) 43 = true := by decide
 have e2 : Iz (⟨#[43]⟩ : ByteArray) 35 = false := by decide
 rw [e1, e2, h1]
 simp
 by_cases h2 : (l.toList == (⟨#[35]⟩ : ByteArray).toList) = true
 obtain rfl := eqB.1 h2
 have e1 : Iz (⟨#[35]⟩ : ByteArray) 43 = false := by decide
 have e2 : Iz (⟨#[35]⟩ : ByteArray) 35 = true := by decide
 rw [e1, e2, h2, zaZ.2 h1]
 simp
 rw [zaZ.2 h1, zaZ.2 h2]
 cases Iz l 43 <;> cases Iz l 35 <;> rfl
theorem Aiu (n : Nat) (x : ByteArray) (b : Bool) (hx : x.size ≤ 1048576) : Cb E0 (n + 1) 4 150 [.sc (.string x), .sc (.bool b)] = some (.sc (.bool (Fs x b))) := by
 rw [At, AjQ, f150]
 refine B8 (G := (· = some (sb (Fs x b)))) ?_
 try simp only [Fa, E9]
 have s0 : Sep [] [] := B4
 refine Aao rfl rfl (Y3 _ x hx) (Cv (Ac ((vPH x)) (fun h1 => ?_) fun h1 => ?_))
 refine Ao (nF h1) (Ao (nF h1) (AhW (D3 (nF h1) (Ac ((x.toList == (⟨#[43]⟩ : ByteArray).toList)) (fun h2 => ?_) fun h2 => ?_))))
 refine Am h2 (Am h2 (Am h2 (Hw (Am h2 (D7 h2 (Al rfl ?_))))))
 have e : Fs x b = true := by
  unfold Fs; simp only [h1, h2, F3]
 rw [e]
 refine Ao h2 (Ao h2 (AhW (Ao h2 (Ac ((x.toList == (⟨#[35]⟩ : ByteArray).toList)) (fun h3 => ?_) fun h3 => ?_))))
 refine Ao h3 (Ao h2 (D7 h3 (D3 h2 (Al rfl ?_))))
 have e : Fs x b = b := by
  unfold Fs; simp only [h1, h2, h3, F3]
 rw [e]
 refine Am h3 (Ao h2 (D3 h3 (D3 h2 (Al rfl ?_))))
 have e : Fs x b = false := by
  unfold Fs; simp only [h1, h2, h3, F3]
 rw [e]
 refine Am (nT h1) (Am (nT h1) (D7 (nT h1) (Am rfl (Am rfl (Am rfl (Hw (Am rfl (D7 rfl (Al rfl ?_)))))))))
 have e : Fs x b = true := by
  unfold Fs; simp only [h1, F3]
 rw [e]
theorem P1 (n : Nat) (hn : 1048576 < n) (s : ByteArray) (hs : s.size ≤ 1048576) (ks : okS s)   : ∀ (t pre : List ByteArray) (m : Nat) (i : Int) (x1 : AV) (H : Ab), (Be s) = pre ++ t → i = ((pre.length : Nat) : Int) → t.length < m → A2 x1 = true → Sep H [.own x1 56 (Et (Be s))] → Gd (· = some (.sc (.bool (Em t && F1 s)))) (Oh (PR (n + 5) AV) (n + 5) (fun x H => A4 Ak E0.tp 4 H x) m (.sc (.string s)) (x1) (x1) (.sc (.int .i64 (((Be s).length : Nat) : Int))) (.sc (.int .i64 i)) H)
 | [], pre, m + 1, i, x1, H, he, hi, hm, lx1, s0 => by
  obtain rfl : pre = (Be s) := by simpa using he.symm
  have hlen : (Be s).length ≤ 1048577 := Kj s hs
  have hlen : (Be s).length ≤ 1048577 := Kj s hs
  rw [Oh]
  try simp only [Fa, E9]
  refine Dq (A6 (by simp [hi]) (Aao rfl rfl (Qs _ s ks) (Ac ((Bv s)) (fun h201 => ?_) fun h201 => ?_)))
  refine Ao h201 (Ao h201 (Th (D7 h201 (Ac ((s.toList == (⟨#[]⟩ : ByteArray).toList)) (fun h202 => ?_) fun h202 => ?_))))
  refine Am (nF h202) (Am (nF h202) (Am (nF h202) (D3 (nF h202) (Al rfl ?_))))
  have e : (Em [] && F1 s) = false := by
   unfold F1; simp only [Em, h201, h202, F3]
  rw [e]
  refine Ao (nT h202) (Ao (nT h202) (Jt s0 (.here) (Ao (nT h202) (AdC (D7 (nT h202) (Al rfl ?_))))))
  have e : (Em [] && F1 s) = (decide ((((Be s).length : Nat) : Int) ≤ 6)) := by
   unfold F1; simp only [Em, h201, h202, F3]
  rw [e]
  refine Am h201 (Am h201 (D3 h201 (Am rfl (Am rfl (Am rfl (D3 rfl (Al rfl ?_)))))))
  have e : (Em [] && F1 s) = false := by
   unfold F1; simp only [Em, h201, F3]
  rw [e]
 | y :: t, pre, m + 1, i, x1, H, he, hi, hm, lx1, s0 => by
  have hlt : pre.length < (Be s).length := by rw [he]; simp
  have hlen : (Be s).length ≤ 1048577 := Kj s hs
  have hlen : (Be s).length ≤ 1048577 := Kj s hs
  have hys : y.size ≤ 1048576 := Zk s hs y (by rw [he]; simp)
  have hd : decide (i = (((Be s).length : Nat) : Int) - 1) = t.isEmpty := by
   rw [he, hi]; cases t <;> simp <;> omega
  rw [Oh]
  try simp only [Fa, E9]
  refine Dq (Au (by simp [hi]; omega) ?_)
  have he201 : ((Be s))[(i).toNat]? = some y := by rw [he, hi]; simp
  refine Oo (y := y) s0 (.here) ⟨_, _, rfl, rfl, rfl⟩ (by omega) he201 fun de201 oe201 re201 => Rn (k := 0) re201 (by omega) rfl (Jt s0 (.here) (Px (by omega) (by omega) (Ce (Bm (v := (.bool (Fs y (decide (i = ((((Be s).length : Nat) : Int) - 1)))))) s0 rfl (S8 .nil) (Aiu (n + 4) y (decide (i = ((((Be s).length : Nat) : Int) - 1))) hys) (Cv (Ac ((Fs y (decide (i = ((((Be s).length : Nat) : Int) - 1))))) (fun h203 => ?_) fun h203 => ?_))))))
  refine A6 (nF h203) (Bq (by omega) (by omega) ?_)
  have e204 : (Em (y :: t) && F1 s) = (Em t && F1 s) := by
   rw [Em, ← hd]; simp only [h203, F3]
  rw [e204]
  exact P1 n hn s hs ks   t (pre ++ [y]) m _ x1 _ (by rw [he]; simp) (by rw [hi]; simp) (by simpa using hm) lx1 (by simpa only [zaF, zat, zaO] using (s0.sel (.cons (.here) .nil)))
  refine Au (nT h203) (Al rfl ?_)
  have e : (Em (y :: t) && F1 s) = false := by
   rw [Em, ← hd]; simp only [h203, F3]
  rw [e]
theorem Uh (n : Nat) (hn : 1048576 < n) (s : ByteArray) (hs : s.size ≤ 1048576) (ks : okS s) : Cb E0 (n + 6) 4 138 [.sc (.string s)] = some (.sc (.bool (Cp s))) := by
 rw [At, AjJ, f138]
 refine B8 (G := (· = some (sb (Cp s)))) ?_
 have hlen : (Be s).length ≤ 1048577 := Kj s hs
 try simp only [Fa, E9]
 have s0 : Sep [] [] := B4
 exact Bo s0 rfl (.cons .sc .nil) (Ui (n + 4) s hs) (Xh (Be s)) fun x1 H lx1 s2 => Jt s2 (.here) (P1 n hn s hs ks   (Be s) [] _ 0 x1 _ rfl rfl (by omega) lx1 s2)
theorem Ib (n : Nat) (hn : 1048576 < n) (s : ByteArray) (hs : s.size ≤ 1048576) (ks : okS s)   : ∀ (t pre : List ByteArray) (m : Nat) (i : Int) (x1 : AV) (H : Ab), (Be s) = pre ++ t → i = ((pre.length : Nat) : Int) → t.length < m → A2 x1 = true → Sep H [.own x1 56 (Et (Be s))] → Gd (· = some (.sc (.bool (Em t && F1 s)))) (Rk (PR (n + 5) AV) (n + 5) (fun x H => A4 Ak E0.tp 4 H x) m (.sc (.string s)) (x1) (.sc (.int .i64 i)) H)
 | [], pre, m + 1, i, x1, H, he, hi, hm, lx1, s0 => by
  obtain rfl : pre = (Be s) := by simpa using he.symm
  have hlen : (Be s).length ≤ 1048577 := Kj s hs
  have hlen : (Be s).length ≤ 1048577 := Kj s hs
  rw [Rk]
  try simp only [Fa, E9]
  refine Jt s0 (.here) (Dq (A6 (by simp [hi]) (Bm (v := (.bool (Bv s))) s0 rfl (.cons .sc .nil) (N0 (n + 1) (by omega) _ s) (Ac ((Bv s)) (fun h201 => ?_) fun h201 => ?_))))
  refine Ao h201 (Ao h201 (Th (D7 h201 (Ac ((s.toList == (⟨#[]⟩ : ByteArray).toList)) (fun h202 => ?_) fun h202 => ?_))))
  refine Am (nF h202) (Am (nF h202) (Am (nF h202) (D3 (nF h202) (Al rfl ?_))))
  have e : (Em [] && F1 s) = false := by
   unfold F1; simp only [Em, h201, h202, F3]
  rw [e]
  refine Ao (nT h202) (Ao (nT h202) (Jt s0 (.here) (Ao (nT h202) (AdC (D7 (nT h202) (Al rfl ?_))))))
  have e : (Em [] && F1 s) = (decide ((((Be s).length : Nat) : Int) ≤ 6)) := by
   unfold F1; simp only [Em, h201, h202, F3]
  rw [e]
  refine Am h201 (Am h201 (D3 h201 (Am rfl (Am rfl (Am rfl (D3 rfl (Al rfl ?_)))))))
  have e : (Em [] && F1 s) = false := by
   unfold F1; simp only [Em, h201, F3]
  rw [e]
 | y :: t, pre, m + 1, i, x1, H, he, hi, hm, lx1, s0 => by
  have hlt : pre.length < (Be s).length := by rw [he]; simp
  have hlen : (Be s).length ≤ 1048577 := Kj s hs
  have hlen : (Be s).length ≤ 1048577 := Kj s hs
  have hys : y.size ≤ 1048576 := Zk s hs y (by rw [he]; simp)
  have hd : decide (i = (((Be s).length : Nat) : Int) - 1) = t.isEmpty := by
   rw [he, hi]; cases t <;> simp <;> omega
  have hv : Fs y t.isEmpty = !((Iz y 43 && !(y.toList == (⟨#[43]⟩ : ByteArray).toList)) || (Iz y 35 && (!(y.toList == (⟨#[35]⟩ : ByteArray).toList) || decide (i < (((Be s).length : Nat) : Int) - 1)))) := by
   rw [Af4, ← hd, show decide (i < (((Be s).length : Nat) : Int) - 1) = !decide (i = (((Be s).length : Nat) : Int) - 1) from by rw [he, hi, zae, zan]; exact AoU _ _]
  rw [Rk]
  try simp only [Fa, E9]
  refine Jt s0 (.here) (Dq (Au (by simp [hi]; omega) ?_))
  have he201 : ((Be s))[(i).toNat]? = some y := by rw [he, hi]; simp
  refine Oo (y := y) s0 (.here) ⟨_, _, rfl, rfl, rfl⟩ (by omega) he201 fun de201 oe201 re201 => Rn (k := 0) re201 (by omega) rfl (Bm (v := (.bool (Iz y 43))) s0 rfl (S8 .nil) (AlY (n + 4) (by omega) _ y hys) (Ac ((Iz y 43)) (fun h203 => ?_) fun h203 => ?_))
  refine Ao h203 (Ao h203 (Ao h203 ?_))
  have he204 : ((Be s))[(i).toNat]? = some y := by rw [he, hi]; simp
  refine Oo (y := y) s0 (.here) ⟨_, _, rfl, rfl, rfl⟩ (by omega) he204 fun de204 oe204 re204 => Ao h203 (Rn (k := 0) re204 (by omega) rfl (Ao h203 (Th (D7 h203 (Ac ((y.toList == (⟨#[43]⟩ : ByteArray).toList)) (fun h206 => ?_) fun h206 => ?_)))))
  refine Ao (nF h206) (Ao (nF h206) (Ao (nF h206) ?_))
  have he207 : ((Be s))[(i).toNat]? = some y := by rw [he, hi]; simp
  refine Oo (y := y) s0 (.here) ⟨_, _, rfl, rfl, rfl⟩ (by omega) he207 fun de207 oe207 re207 => Ao (nF h206) (Rn (k := 0) re207 (by omega) rfl (Ao (nF h206) (Bm (v := (.bool (Iz y 35))) s0 rfl (S8 .nil) (Aif (n + 4) (by omega) _ y hys) (Ao (nF h206) (Ac ((Iz y 35)) (fun h209 => ?_) fun h209 => ?_)))))
  refine Ao h209 (Ao h209 (Ao h209 ?_))
  have he210 : ((Be s))[(i).toNat]? = some y := by rw [he, hi]; simp
  refine Oo (y := y) s0 (.here) ⟨_, _, rfl, rfl, rfl⟩ (by omega) he210 fun de210 oe210 re210 => Ao h209 (Rn (k := 0) re210 (by omega) rfl (Ao h209 (Th (Ao h209 (Ac ((y.toList == (⟨#[35]⟩ : ByteArray).toList)) (fun h212 => ?_) fun h212 => ?_)))))
  refine Ao (nF h212) (Ao (nF h212) (Ao (nF h212) (Jt s0 (.here) (Ao (nF h212) (Px (by omega) (by omega) (Ao (nF h212) (Dq (Ao h209 (D3 (nF h212) (Ao (nF h206) (D7 h209 (D3 (nF h206) (Ac ((decide (i < ((((Be s).length : Nat) : Int) - 1)))) (fun h213 => ?_) fun h213 => ?_)))))))))))))
  refine Au h213 (Al rfl ?_)
  have e : (Em (y :: t) && F1 s) = false := by
   rw [Em, hv]; simp only [h203, h206, h209, h212, h213, F3]
  rw [e]
  refine A6 h213 (Bq (by omega) (by omega) ?_)
  have e214 : (Em (y :: t) && F1 s) = (Em t && F1 s) := by
   rw [Em, hv]; simp only [h203, h206, h209, h212, h213, F3]
  rw [e214]
  exact Ib n hn s hs ks   t (pre ++ [y]) m _ x1 _ (by rw [he]; simp) (by rw [hi]; simp) (by simpa using hm) lx1 (by simpa only [zaF, zat, zaO] using (s0.sel (.cons (.here) .nil)))
  refine Am (nT h212) (Am (nT h212) (Am (nT h212) (Am (nT h212) (Am (nT h212) (Ao h209 (D7 (nT h212) (Ao (nF h206) (D7 h209 (D3 (nF h206) (Au rfl (Al rfl ?_)))))))))))
  have e : (Em (y :: t) && F1 s) = false := by
   rw [Em, hv]; simp only [h203, h206, h209, h212, F3]
  rw [e]
  refine Am h209 (Am h209 (Am h209 (Am h209 (Am h209 (Am h209 (Hw (Hw (Hw (Hw (Hw (Am h209 (Ao (nF h206) (D3 h209 (D3 (nF h206) (A6 rfl (Bq (by omega) (by omega) ?_))))))))))))))))
  have e215 : (Em (y :: t) && F1 s) = (Em t && F1 s) := by
   rw [Em, hv]; simp only [h203, h206, h209, F3]
  rw [e215]
  exact Ib n hn s hs ks   t (pre ++ [y]) m _ x1 _ (by rw [he]; simp) (by rw [hi]; simp) (by simpa using hm) lx1 (by simpa only [zaF, zat, zaO] using (s0.sel (.cons (.here) .nil)))
  refine Am (nT h206) (Am (nT h206) (Am (nT h206) (Am (nT h206) (Am (nT h206) (Am (nT h206) (Hw (Hw (Hw (Hw (Hw (Hw (Hw (Hw (Hw (Hw (Hw (Hw (Am (nT h206) (D7 (nT h206) (Au rfl (Al rfl ?_)))))))))))))))))))))
  have e : (Em (y :: t) && F1 s) = false := by
   rw [Em, hv]; simp only [h203, h206, F3]
  rw [e]
  refine Am h203 (Am h203 (Am h203 (Am h203 (Am h203 (D3 h203 (Ao rfl (Ao rfl (Ao rfl ?_))))))))
  have he216 : ((Be s))[(i).toNat]? = some y := by rw [he, hi]; simp
  refine Oo (y := y) s0 (.here) ⟨_, _, rfl, rfl, rfl⟩ (by omega) he216 fun de216 oe216 re216 => Ao rfl (Rn (k := 0) re216 (by omega) rfl (Ao rfl (Bm (v := (.bool (Iz y 35))) s0 rfl (S8 .nil) (Aif (n + 4) (by omega) _ y hys) (Ao rfl (Ac ((Iz y 35)) (fun h218 => ?_) fun h218 => ?_)))))
  refine Ao h218 (Ao h218 (Ao h218 ?_))
  have he219 : ((Be s))[(i).toNat]? = some y := by rw [he, hi]; simp
  refine Oo (y := y) s0 (.here) ⟨_, _, rfl, rfl, rfl⟩ (by omega) he219 fun de219 oe219 re219 => Ao h218 (Rn (k := 0) re219 (by omega) rfl (Ao h218 (Th (Ao h218 (Ac ((y.toList == (⟨#[35]⟩ : ByteArray).toList)) (fun h221 => ?_) fun h221 => ?_)))))
  refine Ao (nF h221) (Ao (nF h221) (Ao (nF h221) (Jt s0 (.here) (Ao (nF h221) (Px (by omega) (by omega) (Ao (nF h221) (Dq (Ao h218 (D3 (nF h221) (Ao rfl (D7 h218 (D3 rfl (Ac ((decide (i < ((((Be s).length : Nat) : Int) - 1)))) (fun h222 => ?_) fun h222 => ?_)))))))))))))
  refine Au h222 (Al rfl ?_)
  have e : (Em (y :: t) && F1 s) = false := by
   rw [Em, hv]; simp only [h203, h218, h221, h222, F3]
  rw [e]
  refine A6 h222 (Bq (by omega) (by omega) ?_)
  have e223 : (Em (y :: t) && F1 s) = (Em t && F1 s) := by
   rw [Em, hv]; simp only [h203, h218, h221, h222, F3]
  rw [e223]
  exact Ib n hn s hs ks   t (pre ++ [y]) m _ x1 _ (by rw [he]; simp) (by rw [hi]; simp) (by simpa using hm) lx1 (by simpa only [zaF, zat, zaO] using (s0.sel (.cons (.here) .nil)))
  refine Am (nT h221) (Am (nT h221) (Am (nT h221) (Am (nT h221) (Am (nT h221) (Ao h218 (D7 (nT h221) (Ao rfl (D7 h218 (D3 rfl (Au rfl (Al rfl ?_)))))))))))
  have e : (Em (y :: t) && F1 s) = false := by
   rw [Em, hv]; simp only [h203, h218, h221, F3]
  rw [e]
  refine Am h218 (Am h218 (Am h218 (Am h218 (Am h218 (Am h218 (Hw (Hw (Hw (Hw (Hw (Am h218 (Ao rfl (D3 h218 (D3 rfl (A6 rfl (Bq (by omega) (by omega) ?_))))))))))))))))
  have e224 : (Em (y :: t) && F1 s) = (Em t && F1 s) := by
   rw [Em, hv]; simp only [h203, h218, F3]
  rw [e224]
  exact Ib n hn s hs ks   t (pre ++ [y]) m _ x1 _ (by rw [he]; simp) (by rw [hi]; simp) (by simpa using hm) lx1 (by simpa only [zaF, zat, zaO] using (s0.sel (.cons (.here) .nil)))
theorem Us (n : Nat) (hn : 1048576 < n) (s : ByteArray) (hs : s.size ≤ 1048576) (ks : okS s) : Cb E0 (n + 6) 4 92 [.sc (.string s)] = some (.sc (.bool (Cp s))) := by
 rw [At, Anu, f92]
 refine B8 (G := (· = some (sb (Cp s)))) ?_
 have hlen : (Be s).length ≤ 1048577 := Kj s hs
 try simp only [Fa, E9]
 have s0 : Sep [] [] := B4
 exact Bo s0 rfl (.cons .sc .nil) (Ut (n + 4) (by omega) s hs) (Xh (Be s)) fun x1 H lx1 s2 => Ib n hn s hs ks   (Be s) [] _ 0 x1 _ rfl rfl (by omega) lx1 s2
end
section
open Go
theorem AnH {s : ByteArray} (h : s.size ≤ 1048576) : okS s := zaA h (by decide)
theorem AcX (n : Nat) (hn : 1048576 < n) (ty : Nat) (s : ByteArray) (hs : s.size ≤ 1048576) : Cb E0 (n + 5) ty 91 [.sc (.string s)] = some (.sc (.bool (Ht s))) := by
 rw [At, Ant, f91]
 try simp only [Kw, Pd, Hy, Gb, Km, Eu, Id, K7, Pe, D6, Fo, Pr.gT, Pr.gF, Pr.hT, Pr.hF, Pr.kT, Pr.kF, Gx, Jo, Hz, I5, Ob, Nj, Jg, Kl, Mo, Qk, Pc, Oa, Mn]
 refine Ma rfl (Co (Iv _ _) G7) (N0 (n + 0) (by omega) _ s) ?_
 apply Cx ((Bv s) && (!(s.toList == (⟨#[]⟩ : ByteArray).toList)))
 intro b1 q1
 refine Ac ((Bv s)) (fun h1 => ?_) fun h1 => ?_
 exact Bs h1 (Bs h1 (Dx (v := sb (!(s.toList == (⟨#[]⟩ : ByteArray).toList))) (fun k => rfl) (E3 h1 (Nu q1 h1) rfl)))
 exact Br h1 (Br h1 (E2 h1 (Nt q1 h1) rfl))
 intro b1 q1
 apply Cx (b1 && (!(Iz s 43)))
 intro b2 q2
 refine Ac (b1) (fun h2 => ?_) fun h2 => ?_
 exact Bs h2 (Bs h2 (Ma rfl (Co (Iv _ _) (Co (Iv _ _) G7)) (AlY (n + 3) (by omega) _ s hs) (Bs h2 (Z2 (E3 h2 (Nu q2 h2) rfl)))))
 exact Br h2 (Br h2 (Br h2 (E2 h2 (Nt q2 h2) rfl)))
 intro b2 q2
 apply Cx (b2 && (!(Iz s 35)))
 intro b3 q3
 refine Ac (b2) (fun h3 => ?_) fun h3 => ?_
 exact Bs h3 (Bs h3 (Ma rfl (Co (Iv _ _) (Co (Iv _ _) G7)) (Aif (n + 3) (by omega) _ s hs) (Bs h3 (Z2 (E3 h3 (Nu q3 h3) rfl)))))
 exact Br h3 (Br h3 (Br h3 (E2 h3 (Nt q3 h3) rfl)))
 intro b3 q3
 apply Cx (b3 && (decide (((Be s).length : Int) ≤ 6)))
 intro b4 q4
 refine Ac (b3) (fun h4 => ?_) fun h4 => ?_
 exact Bs h4 (Bs h4 (AdN rfl (Co (Iv _ _) G7) (Ut (n + 3) (by omega) s hs) fun N5 X5 z5 => Bs h4 (Ajb (Bs h4 (Dx (v := sb (decide (((Be s).length : Int) ≤ 6))) (fun k => rfl) (E3 h4 (Nu q4 h4) rfl))))))
 exact Br h4 (Br h4 (Br h4 (Br h4 (E2 h4 (Nt q4 h4) rfl))))
 intro b4 q4
 exact Aja (by subst_vars; unfold Ht; first | rfl | (unfold vPH; cases Bv s <;> cases Iz s 43 <;> cases Iz s 35 <;> simp))
theorem W1 (n : Nat) (hn : 1048576 < n) (ty : Nat) (s : ByteArray) (hs : s.size ≤ 1048576) : Cb E0 (n + 5) ty 108 [.sc (.string s)] = some (.sc (.bool (Ht s))) := by
 rw [At, Aj0, f108]
 try simp only [Kw, Pd, Hy, Gb, Km, Eu, Id, K7, Pe, D6, Fo, Pr.gT, Pr.gF, Pr.hT, Pr.hF, Pr.kT, Pr.kF, Gx, Jo, Hz, I5, Ob, Nj, Jg, Kl, Mo, Qk, Pc, Oa, Mn]
 refine Aiz rfl (Co (Iv _ _) G7) (Qs _ s (AnH hs)) ?_
 apply Cx ((Bv s) && (!(s.toList == (⟨#[]⟩ : ByteArray).toList)))
 intro b1 q1
 refine Ac ((Bv s)) (fun h1 => ?_) fun h1 => ?_
 exact Bs h1 (Bs h1 (Dx (v := sb (!(s.toList == (⟨#[]⟩ : ByteArray).toList))) (fun k => rfl) (E3 h1 (Nu q1 h1) rfl)))
 exact Br h1 (Br h1 (E2 h1 (Nt q1 h1) rfl))
 intro b1 q1
 apply Cx (b1 && (!(vPH s)))
 intro b2 q2
 refine Ac (b1) (fun h2 => ?_) fun h2 => ?_
 exact Bs h2 (Bs h2 (Aiz rfl (Co (Iv _ _) (Co (Iv _ _) G7)) (Y3 _ s hs) (Bs h2 (Z2 (E3 h2 (Nu q2 h2) rfl)))))
 exact Br h2 (Br h2 (Br h2 (E2 h2 (Nt q2 h2) rfl)))
 intro b2 q2
 apply Cx (b2 && (decide (((Be s).length : Int) ≤ 6)))
 intro b3 q3
 refine Ac (b2) (fun h3 => ?_) fun h3 => ?_
 exact Bs h3 (Bs h3 (AdN rfl (Co (Iv _ _) G7) (Ui (n + 3) s hs) fun N4 X4 z4 => Bs h3 (Ajb (Bs h3 (Dx (v := sb (decide (((Be s).length : Int) ≤ 6))) (fun k => rfl) (E3 h3 (Nu q3 h3) rfl))))))
 exact Br h3 (Br h3 (Br h3 (Br h3 (E2 h3 (Nt q3 h3) rfl))))
 intro b3 q3
 exact Aja (by subst_vars; unfold Ht; first | rfl | (unfold vPH; cases Bv s <;> cases Iz s 43 <;> cases Iz s 35 <;> simp))
end
end Go.Proofs.YtlcpigdmekgajaaGreatDoor.Abs
