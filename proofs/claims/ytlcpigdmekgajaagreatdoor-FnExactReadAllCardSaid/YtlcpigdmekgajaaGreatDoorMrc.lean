/- What the proof needs, part 3: a sound evaluator over trees, the program's functions on it, and what they come to. -/
import Derived.Test.YtlcpigdmekgajaaGreatDoorMrb
import Derived.Shelf.Strings.IndexAnyAll
import Derived.Shelf.Small.Utf8
import Derived.Lib.TrimUEq
import Derived.Lib.QuoteLoop
import Derived.Laws.RangeAny
import Derived.Laws.Runes
import Derived.WalkKit
import Derived.WalkMore
import Derived.Below
import Derived.LoopTactic
import Derived.Shelf.RegionOpenPlain
import Derived.Test.YtlcpigdmekgajaaGreatDoorChecked
import Derived.Shelf.Unicode.ValidAny
import Derived.Shelf.Strings.Split
import Derived.Shelf.Vars
import Derived.Lib.ValidLaws
import Derived.Lib.MapLaws
set_option linter.unusedVariables false
set_option linter.unusedSimpArgs false
namespace Go.Proofs.YtlcpigdmekgajaaGreatDoor.Abs
open _root_.Bool renaming false_eq_true → zaa, and_eq_true → zag, not_true → za0, true_and → zaK, false_or → zaN, eq_iff_iff → zb6, true_or → zbE
open _root_.Option renaming bind_eq_some_iff → zab, bind_some → zac, getD_some → zaA, map_eq_some_iff → zaG, bind_eq_bind → zaJ, pure_def → zaW
open _root_.List renaming length_append → zad, getElem?_eq_some_iff → zae, append_assoc → zaf, replicate → zai, getElem?_append_right → zaj, getElem?_append_left → zak, nil_append → zal, length_cons → zam, append_nil → zap, map_cons → zaq, length_singleton → zas, mem_cons_of_mem → zat, cons_append → zau, length_nil → zaw, all_cons → zax, mem_cons_self → zay, flatten_cons → zaz, map_append → za3, all_eq_true → za4, mem_append_left → za8, map_nil → zaB, take_length → zaC, drop_append_of_le_length → zaD, mem_append_right → zaE, mapM_cons → zaF, drop_zero → zaL, mem_append → zaQ, getElem?_map → zaS, getElem?_drop → zaT, nodup_append → zaU, getElem?_cons_zero → zaX, replicate_succ → zbb, drop_eq_getElem_cons → zbd, nodup_cons → zbe, getElem?_take_of_lt → zbf, mem_singleton → zbg, drop_drop → zbj, flatten_append → zbm, length_eq_one_iff → zbo, getD_eq_getElem?_getD → zbp, drop_length → zbq, flatten_nil → zb2, Perm → zb7, any_cons → zb8, getElem?_set_ne → zb9, mem_cons → zbF, length_map → zbG, mem_map → zbH, map_map → zbI
open _root_.ByteArray renaming size → zbk, data_push → zbC
open _root_.Nat renaming le_refl → zan, zero_add → za1, le_trans → za5, add_assoc → za9, add_zero → zaM, eq_of_beq_eq_true → zaP, sub_self → zba, add_sub_cancel_left → zbh, succ_mul → zbs, mul_one → zbw, beq → zb3, add_mul → zbB, add_comm → zbD
open _root_.Array renaming getElem?_eq_some_iff → za6, ext' → zaZ, replicate → zbz, getElem?_setIfInBounds_ne → zb0
open _root_.Int renaming natCast_zero → zaR, toNat_natCast → zbl
section
open Go Go.Shelf Go.RowKit Go.Lib Go.Proofs
variable {P : Program} {ρ : Ren}
def ItAt (w w' : World) (s : ByteArray) (pos : Nat) : Prop := Below w.heap.size w w' ∧ w'.heap[w.heap.size]? = some (.stringIter s pos)
def Uc (w' : World) (a : Nat) (s : ByteArray) (pos : Nat) : World := { w' with heap := w'.heap.setIfInBounds a (.stringIter s pos) }
theorem AbV (w : World) (s : ByteArray) (pos : Nat) : ItAt w (w.iter s pos) s pos := ⟨(Below.refl _ w).alloc (zan _) _, World.iter_heap w s pos⟩
theorem ItAt.lt {w w' : World} {s : ByteArray} {pos : Nat} (h : ItAt w w' s pos) : w.heap.size < w'.heap.size := by
 have := h.2
 simp only [za6] at this
 exact this.1
theorem ItAt.set {w w' : World} {s : ByteArray} {pos : Nat} (h : ItAt w w' s pos) (pos' : Nat) : ItAt w (Uc w' w.heap.size s pos') s pos' := by
 refine ⟨h.1.trans ⟨rfl, rfl, rfl, by simp [Uc], fun k hk => ?_⟩, ?_⟩
 ·simp only [Uc]
  rw [zb0 (by omega)]
 ·simp only [Uc]
  rw [Array.getElem?_setIfInBounds_self_of_lt h.lt]
theorem ItAt.below {w w1 w2 : World} {s : ByteArray} {pos : Nat} (h : ItAt w w1 s pos) (hb : Below w1.heap.size w1 w2) : ItAt w w2 s pos :=
 ⟨h.1.trans (hb.mono h.1.size), by rw [hb.block _ h.lt]; exact h.2⟩
theorem Ajy {w w' : World} {s : ByteArray} {pos : Nat} (h : ItAt w w' s pos) (hp : pos < s.size) (ty : TypeId) :
  (Instr.next (.pointer (some ⟨w.heap.size, 0, none⟩)) true ty).run P w' = .ok (.tuple #[.bool true, .int .i64 pos, .int .i32 (Utf8.decode s pos).1]) (Uc w' w.heap.size s (pos + (Utf8.decode s pos).2)) := by
 simp only [Instr.next, getObj, setObj, Sem.run_bind, Sem.run, h.2, Result.andThen, hp, if_true]
 simp [goInt, Uc]
theorem Ahk {w w' : World} {s : ByteArray} {pos : Nat} (h : ItAt w w' s pos) (hp : ¬ pos < s.size) (ty : TypeId) :
  (Instr.next (.pointer (some ⟨w.heap.size, 0, none⟩)) true ty).run P w' = .ok (.tuple #[.bool false]) w' := by
 simp [Instr.next, getObj, Sem.run, h.2, hp]
theorem AjD (s : ByteArray) (pos : Nat) : (Utf8.decode s pos).1 < 55296 ∨ (57343 < (Utf8.decode s pos).1 ∧ (Utf8.decode s pos).1 ≤ 1114111) := by
 rw [← Lib.decodeL_drop, Lib.decodeL_N]
 exact Lib.decodeN_valid _ _ _ _ _ (UInt8.toNat_lt _)
theorem Aj5 : phB.size = 2 := rfl
set_option maxHeartbeats 8000000 in
set_option maxRecDepth 1000000 in
theorem Ahx (L : Lays.n152 P ρ) (r : Nat) (rs : ByteArray) (w : World) (h1 : 128 ≤ r) (hv : r < 55296 ∨ (57343 < r ∧ r ≤ 1114111)) (he : ¬ r = 65533) (hcv : ∀ w, (convert (ρ.t 21) (ρ.t 9) (.int .i32 r)).run P w = .ok (.string rs) w)
  (hs2 : 2 ≤ rs.size) (hs4 : rs.size ≤ 4) (hsl : rs.size = 2 → ∀ h : 1 < rs.size, 128 ≤ (rs[1]'h).toNat) :
  Calls P (ρ.f 152) #[.string phB, .int .i32 r] w fun e w' => e = .returned (.int .i64 (-1)) ∧ Below w.heap.size w w' := by
 have cV : ∀ w, Calls P (ρ.f 119) #[.int .i32 r] w _ := fun w => Any.utf8_ValidRune { L with } r w
 have cI : ∀ s c w, Calls P (ρ.f 137) #[.string s, .int .u8 c] w _ := fun s c w => Any.strings_IndexByte { L with } s c w
 have mixed := L.mixed
 have t3 := L.t3; have a3 := L.a3; have z3 := L.z3; have v3 := L.v3
 have t4 := L.t4; have a4 := L.a4; have z4 := L.z4; have v4 := L.v4
 have t5 := L.t5; have a5 := L.a5; have z5 := L.z5; have v5 := L.v5
 have t9 := L.t9; have a9 := L.a9; have z9 := L.z9; have v9 := L.v9
 have t21 := L.t21; have a21 := L.a21; have z21 := L.z21; have v21 := L.v21
 have e137 : ∀ args w, (callFunc (ρ.f 137) args).run P w = .ok (.enter (ρ.f 137) args) w := enters_of L.f137 (by kernel_rfl) rfl
 have e119 : ∀ args w, (callFunc (ρ.f 119) args).run P w = .ok (.enter (ρ.f 119) args) w := enters_of L.f119 (by kernel_rfl) rfl
 have hge : decide ((0 : Int) ≤ (r : Int)) = true := by simp
 have hlt : decide ((r : Int) < 128) = false := by simp; omega
 have bel : ∀ pos, Below w.heap.size w (w.iter phB pos) := fun pos => (Below.refl _ w).alloc (zan _) _
 have hne : ((r : Int) == 65533) = false := by simp; omega
 have hvr : Lib.validRune (r : Int) = true := by simp [Lib.validRune]; omega
 go_enter L.f152, Body.n152_ntmps ρ
 go_wp2_with (first
  | (go_at_fn (ρ.f 119); refine (cV _).mono ?_; rintro e w' ⟨rfl, hw⟩; rw [hw, hvr])
  | (go_at_fn (ρ.f 137); refine (cI _ _ _).mono ?_; rintro e w' ⟨rfl, hw⟩; rw [hw]))
 go_step3
 go_wp2
 go_loopg [9, 10] 1 (fun g i fl wx => g = 1 ∧ i = .int .i64 ((rs.size : Int) - 1) ∧ fl = .int .i64 0 ∧ wx = w)
 case atStart => exact ⟨rfl, rfl, rfl, rfl⟩
 case round =>
  obtain ⟨-, rfl, rfl, rfl⟩ := hrel
  by_cases h3 : 3 ≤ rs.size
  ·have hlt : decide ((rs.size : Int) - 1 < (phB.size : Int)) = false := by rw [Aj5]; simp; omega
   go_wp2
   try rw [Exit.noGoto_ret]
   go_ret
   exact ⟨rfl, Below.refl _ _⟩
  ·have h2 : rs.size = 2 := by omega
   have hi1 : ((rs.size : Int) - 1) = 1 := by omega
   have hi : 1 < rs.size := by omega
   have hp : 1 < phB.size := by decide
   obtain ⟨x, hx⟩ : ∃ x : UInt8, rs[1]'hi = x := ⟨_, rfl⟩
   have hx128 : 128 ≤ x.toNat := by
    rw [← hx]
    exact hsl h2 hi
   have hp1 : phB[1]'hp = 35 := rfl
   have hlt : decide ((1 : Int) < (phB.size : Int)) = true := rfl
   have hne35 : (((35 : UInt8).toNat : Int) != (x.toNat : Int)) = true := by simp; omega
   have hib : Lib.indexByte (List.take (phB.size - 2) (List.drop 2 phB.data.toList)) x = -1 := rfl
   rw [hi1]
   clear hsl hs2 hs4
   go_wp2
   go_step3
   go_wp2
   go_region_o
   all_goals
    go_wp2
    go_region_with_o (go_at_fn (ρ.f 137); refine (cI _ _ _).mono ?_; rintro e w' ⟨rfl, hw⟩; rw [hw])
   all_goals
    go_wp2
    simp only [Exit.inBlock, Exit.then, Exit.noGoto]
    go_ret
    exact ⟨rfl, (Below.refl _ _).drew.drew⟩
set_option maxHeartbeats 8000000 in
set_option maxRecDepth 1000000 in
theorem AjE (L : Lays.n152 P ρ) (r : Nat) (w : World) (h1 : 128 ≤ r) (hv : r < 55296 ∨ (57343 < r ∧ r ≤ 1114111)) :
  Calls P (ρ.f 152) #[.string phB, .int .i32 r] w fun e w' => e = .returned (.int .i64 (-1)) ∧ Below w.heap.size w w' := by
 have cV : ∀ w, Calls P (ρ.f 119) #[.int .i32 r] w _ := fun w => Any.utf8_ValidRune { L with } r w
 have cI : ∀ s c w, Calls P (ρ.f 137) #[.string s, .int .u8 c] w _ := fun s c w => Any.strings_IndexByte { L with } s c w
 have t3 := L.t3; have a3 := L.a3; have z3 := L.z3; have v3 := L.v3
 have t4 := L.t4; have a4 := L.a4; have z4 := L.z4; have v4 := L.v4
 have t5 := L.t5; have a5 := L.a5; have z5 := L.z5; have v5 := L.v5
 have t9 := L.t9; have a9 := L.a9; have z9 := L.z9; have v9 := L.v9
 have t21 := L.t21; have a21 := L.a21; have z21 := L.z21; have v21 := L.v21
 have e137 : ∀ args w, (callFunc (ρ.f 137) args).run P w = .ok (.enter (ρ.f 137) args) w := enters_of L.f137 (by kernel_rfl) rfl
 have e119 : ∀ args w, (callFunc (ρ.f 119) args).run P w = .ok (.enter (ρ.f 119) args) w := enters_of L.f119 (by kernel_rfl) rfl
 have hge : decide ((0 : Int) ≤ (r : Int)) = true := by simp
 have hlt : decide ((r : Int) < 128) = false := by simp; omega
 have bel : ∀ pos, Below w.heap.size w (w.iter phB pos) := fun pos => (Below.refl _ w).alloc (zan _) _
 by_cases he : r = 65533
 ·subst he
  go_enter L.f152, Body.n152_ntmps ρ
  go_wp2
  go_loopg [5, 6] 2 (fun g _ _ wx => ∃ i : Nat, i + g = 2 ∧ wx = w.iter phB i)
  case atStart => exact ⟨0, by omega, rfl⟩
  case round =>
   obtain ⟨i, hig, rfl⟩ := hrel
   cases gk with
   | zero =>
    obtain rfl : i = 2 := by omega
    have hnx := fun ty => run_next_end (P := P) w phB 2 ty (by decide)
    go_wp2
    go_ret
    exact ⟨rfl, bel _⟩
   | succ g =>
    have hi : i < phB.size := by
     show i < 2
     omega
    have hx : (phB[i]'hi).toNat < 64 := by
     have : ∀ q : Fin 2, (phB[q.val]'q.isLt).toNat < 64 := by decide
     exact this ⟨i, hi⟩
    have hnx := fun ty => run_next_ascii (P := P) w phB i ty hi (by omega)
    generalize (phB[i]'hi).toNat = x at hnx hx
    have hxe : ((x : Int) == 65533) = false := by simp; omega
    go_wp2
    go_roundg g
    case measure => omega
    case rel => exact ⟨i + 1, by omega, rfl⟩
 ·obtain ⟨hs2, hs4, hsl⟩ := encode_facts (r : Int) (by simp [Utf8.valid]; omega) (by omega)
  refine Ahx L r (Utf8.encode r) w h1 hv he (fun w => run_convert_int_string w _ _ _ _ (by rw [t21]; rfl) t9) hs2 hs4 ?_
  intro h2 hi
  have := hsl (by omega)
  simp only [h2] at this
  exact this
theorem AkP (l : List UInt8) (h : 128 ≤ (l.getD 0 0).toNat) : 128 ≤ (Lib.decodeL l).1 ∧ ∀ j, j < (Lib.decodeL l).2 → 128 ≤ (l.getD j 0).toNat := by
 rw [Lib.decodeL_N]
 generalize hn : l.length = n
 generalize h0 : (l.getD 0 0).toNat = b0 at h ⊢
 generalize h1 : (l.getD 1 0).toNat = b1
 generalize h2 : (l.getD 2 0).toNat = b2
 generalize h3 : (l.getD 3 0).toNat = b3
 have key : ∀ q, q ≤ 4 → (q = 2 → 128 ≤ b1) → (q = 3 → 128 ≤ b1 ∧ 128 ≤ b2) → (q = 4 → 128 ≤ b1 ∧ 128 ≤ b2 ∧ 128 ≤ b3) → ∀ j, j < q → 128 ≤ (l.getD j 0).toNat := by
  intro q hq k2 k3 k4 j hj
  have : j = 0 ∨ j = 1 ∨ j = 2 ∨ j = 3 := by omega
  rcases this with rfl | rfl | rfl | rfl
  ·rw [h0]; exact h
  ·rw [h1]; omega
  ·rw [h2]; omega
  ·rw [h3]; omega
 unfold Lib.decodeN
 rw [if_neg (by omega)]
 repeat' split
 all_goals
  refine ⟨?_, key _ ?_ ?_ ?_ ?_⟩ <;> simp only <;> omega
def phL (l : List UInt8) : Bool := l.any fun c => c == 43 || c == 35
theorem AaY : ∀ (k : Nat) (l : List UInt8), (∀ j, j < k → 128 ≤ (l.getD j 0).toNat) → phL l = phL (l.drop k)
 | 0, l, _ => rfl
 | k + 1, [], _ => by simp
 | k + 1, b :: l, h => by
  have h0 : 128 ≤ b.toNat := h 0 (by omega)
  have ih := AaY k l fun j hj => h (j + 1) (by omega)
  have e1 : (b == 43) = false := by
   rw [beq_eq_false_iff_ne]
   rintro rfl
   simp at h0
  have e2 : (b == 35) = false := by
   rw [beq_eq_false_iff_ne]
   rintro rfl
   simp at h0
  show (List.any (b :: l) _) = _
  rw [zb8, e1, e2, Bool.or_self, zaN, List.drop_succ_cons]
  exact ih
theorem Ahq (l : List UInt8) (hne : l ≠ []) : phL l = (((Lib.decodeL l).1 == 43 || (Lib.decodeL l).1 == 35) || phL (l.drop (Lib.decodeL l).2)) := by
 cases l with
 | nil => exact absurd rfl hne
 | cons b l =>
  by_cases hb : 128 ≤ b.toNat
  ·obtain ⟨h1, h2⟩ := AkP (b :: l) hb
   have e1 : ((Lib.decodeL (b :: l)).1 == 43) = false := by simp; omega
   have e2 : ((Lib.decodeL (b :: l)).1 == 35) = false := by simp; omega
   rw [e1, e2, Bool.or_self, zaN]
   exact AaY _ _ h2
  ·have e : Lib.decodeL (b :: l) = (b.toNat, 1) := by
    rw [Lib.decodeL_N]
    unfold Lib.decodeN
    rw [if_pos (by simpa using hb)]
    rfl
   rw [e]
   show List.any (b :: l) _ = _
   rw [zb8, List.drop_succ_cons, zaL]
   have e1 : (b == 43) = (b.toNat == 43) := by
    rw [zb6, beq_iff_eq, beq_iff_eq, ← UInt8.toNat_inj]; rfl
   have e2 : (b == 35) = (b.toNat == 35) := by
    rw [zb6, beq_iff_eq, beq_iff_eq, ← UInt8.toNat_inj]; rfl
   rw [e1, e2]
   rfl
theorem Ade (s : ByteArray) : phL s.data.toList = vPH s := Abr _ _ _
theorem AhP (r : Nat) (h : r < 128) : decide (0 ≤ Lib.indexByte phB.data.toList r.toUInt8) = (r == 43 || r == 35) := by
 have : ∀ q : Fin 128, decide (0 ≤ Lib.indexByte phB.data.toList (q.val).toUInt8) = (q.val == 43 || q.val == 35) := by decide
 exact this ⟨r, h⟩
set_option maxHeartbeats 8000000 in
set_option maxRecDepth 1000000 in
theorem Ahz (L : Lays.n153 P ρ) (s : ByteArray) (w : World) (h8 : s.size ≤ 8) :
  Calls P (ρ.f 153) #[.string s, .string phB] w fun e w' => (∃ z : Int, e = .returned (.int .i64 z) ∧ decide (0 ≤ z) = phL s.data.toList) ∧ Below w.heap.size w w' := by
 have cA : ∀ (r : Nat) w, r < 128 → ∃ z : Int, decide (0 ≤ z) = (r == 43 || r == 35) ∧ Calls P (ρ.f 152) #[.string phB, .int .i32 r] w fun e w' => e = .returned (.int .i64 z) ∧ w' = w := fun r w h => ⟨_, AhP r h, Any.strings_IndexRune_ascii { L with } phB r w (by omega) (by omega)⟩
 have cR : ∀ (r : Nat) w, 128 ≤ r → r < 55296 ∨ (57343 < r ∧ r ≤ 1114111) → Calls P (ρ.f 152) #[.string phB, .int .i32 r] w _ := fun r w h h' => AjE { L with } r w h h'
 have hemp : phB.toList.isEmpty = false := by rw [Lib.toList_data]; rfl
 have hn1 : ((phB.size : Int) == 1) = false := rfl
 have h8z : decide ((8 : Int) < (s.size : Int)) = false := decide_eq_false (by omega)
 have t3 := L.t3; have a3 := L.a3; have z3 := L.z3; have v3 := L.v3
 have t4 := L.t4; have a4 := L.a4; have z4 := L.z4; have v4 := L.v4
 have t5 := L.t5; have a5 := L.a5; have z5 := L.z5; have v5 := L.v5
 have t9 := L.t9; have a9 := L.a9; have z9 := L.z9; have v9 := L.v9
 have t21 := L.t21; have a21 := L.a21; have z21 := L.z21; have v21 := L.v21
 have e152 : ∀ args w, (callFunc (ρ.f 152) args).run P w = .ok (.enter (ρ.f 152) args) w := enters_of L.f152 (by kernel_rfl) rfl
 have e226 : ∀ args w, (callFunc (ρ.f 226) args).run P w = .ok (.enter (ρ.f 226) args) w := enters_of L.f226 (by kernel_rfl) rfl
 go_enter L.f153, Body.n153_ntmps ρ
 go_wp2_with (go_at_fn (ρ.f 226); refine (Any.strings_shouldUseASCIISet { L with } _ _).mono ?_; rintro e w' ⟨rfl, hw⟩; rw [hw, h8z])
 go_loopg [9, 10] s.size (fun g _ _ wx => ∃ pos : Nat, s.size ≤ pos + g ∧ ItAt w wx s pos ∧ phL (s.data.toList.drop pos) = phL s.data.toList)
 case atStart => exact ⟨0, by omega, AbV w s 0, by simp⟩
 case round =>
  obtain ⟨pos, hpg, hit, hph⟩ := hrel
  have HIT : Aside (ItAt w wr s pos) := hit
  have HPH : Aside (phL (s.data.toList.drop pos) = phL s.data.toList) := hph
  by_cases hp : pos < s.size
  ·obtain ⟨g, rfl⟩ : ∃ g, gk = g + 1 := ⟨gk - 1, by omega⟩
   have hnx := fun ty => Ajy (P := P) hit hp ty
   have hne : s.data.toList.drop pos ≠ [] := by
    intro h
    have := congrArg List.length h
    simp at this
    omega
   have hst := Ahq _ hne
   rw [Lib.decodeL_drop, hph, zbj] at hst
   have hwd : 1 ≤ (Utf8.decode s pos).2 := by rw [← Lib.decodeL_drop s pos]; exact Lib.decodeL_width _
   have hru := AjD s pos
   have HIT2 : Aside (ItAt w (Uc wr w.heap.size s (pos + (Utf8.decode s pos).2)) s (pos + (Utf8.decode s pos).2)) := hit.set _
   clear hit hph
   generalize hr : (Utf8.decode s pos).1 = r at hnx hst hru
   have HST : Aside (phL s.data.toList = ((r == 43 || r == 35) || phL (s.data.toList.drop (pos + (Utf8.decode s pos).2)))) := hst
   clear hst
   by_cases h128 : r < 128
   ·obtain ⟨z, hz, cz⟩ := cA r (Uc wr w.heap.size s (pos + (Utf8.decode s pos).2)) h128
    clear cA
    cases hin : (r == 43 || r == 35)
    ·rw [hin] at hz
     have hlt : ¬ ((0 : Int) ≤ z) := of_decide_eq_false hz
     clear hz
     go_wp2_with (go_at_fn (ρ.f 152); refine cz.mono ?_; rintro e w' ⟨rfl, hw⟩; rw [hw])
     go_roundg g
     case measure => omega
     case rel => exact ⟨_, by omega, HIT2.out, by rw [HST.out, hin, zaN]⟩
    ·rw [hin] at hz
     have hge : (0 : Int) ≤ z := of_decide_eq_true hz
     clear hz
     go_wp2_with (go_at_fn (ρ.f 152); refine cz.mono ?_; rintro e w' ⟨rfl, hw⟩; rw [hw])
     go_ret
     exact ⟨⟨_, rfl, by rw [HST.out, hin, zbE]; simp⟩, HIT2.out.1⟩
   ·have hin : (r == 43 || r == 35) = false := by simp; omega
    go_wp2_with (go_at_fn (ρ.f 152); refine (cR r _ (by omega) hru).mono ?_; rintro e w' ⟨rfl, hw⟩)
    go_roundg g
    case measure => omega
    case rel => exact ⟨_, by omega, HIT2.out.below hw, by rw [HST.out, hin, zaN]⟩
  ·have hnx := fun ty => Ahk (P := P) hit hp ty
   have hnil : s.data.toList.drop pos = [] := by
    apply List.drop_of_length_le
    simp
    omega
   rw [hnil] at hph
   go_wp2
   go_ret
   exact ⟨⟨_, rfl, by rw [← hph]; rfl⟩, HIT.out.1⟩
theorem AgX (L : Lays.n153 P ρ) (hv116 : ∀ w, (zeroValue (ρ.t 116)).run P w = .ok (.agg (zbz 256 (.bool false))) w) (hi116 : (P.info? (ρ.t 116)).map (·.size) = some 256) (s : ByteArray) (w : World) (hs : s.size < 4294967281) :
  Calls P (ρ.f 153) #[.string s, .string phB] w fun e w' => (∃ z : Int, e = .returned (.int .i64 z) ∧ decide (0 ≤ z) = phL s.data.toList) ∧ Below w.heap.size w w' := by
 by_cases h8 : s.size ≤ 8
 ·exact Ahz L s w h8
 ·refine (Any.strings_IndexAny_long L hv116 hi116 s phB w (by decide) (by omega) hs (by decide) ?_).mono fun e w' ⟨h1, h2⟩ => ⟨⟨_, h1, ?_⟩, ?_⟩
  ·intro j b hb
   have : phB.data.toList = [43, 35] := rfl
   rw [this] at hb
   match j, hb with
   | 0, hb => cases hb; decide
   | 1, hb => cases hb; decide
  ·have := AlL s
   rw [Ade, ← this]
   rfl
  ·rw [h2]
   exact ((Below.refl _ _).alloc (zan _) _).alloc (by simp) _
set_option maxHeartbeats 1000000 in
theorem Aaw (L : Lays.n150 P ρ) (hv116 : ∀ w, (zeroValue (ρ.t 116)).run P w = .ok (.agg (zbz 256 (.bool false))) w) (hi116 : (P.info? (ρ.t 116)).map (·.size) = some 256) (s : ByteArray) (w : World) (hs : s.size < 4294967281) :
  Calls P (ρ.f 150) #[.string s, .string phB] w fun e w' => e = .returned (.bool (vPH s)) ∧ Below w.heap.size w w' := by
 have c := AgX { L with } hv116 hi116 s w hs
 have t3 := L.t3; have a3 := L.a3; have z3 := L.z3; have v3 := L.v3
 have t4 := L.t4; have a4 := L.a4; have z4 := L.z4; have v4 := L.v4
 have t9 := L.t9; have a9 := L.a9; have z9 := L.z9; have v9 := L.v9
 have e153 : ∀ args w, (callFunc (ρ.f 153) args).run P w = .ok (.enter (ρ.f 153) args) w := enters_of L.f153 (by kernel_rfl) rfl
 go_enter L.f150, Body.n150_ntmps ρ
 go_wp2_with (go_at_fn (ρ.f 153); refine c.mono ?_; rintro e w' ⟨⟨z, rfl, hz⟩, hw⟩)
 go_ret
 refine ⟨?_, hw⟩
 rw [← Ade, ← hz]
 rfl
end
end Go.Proofs.YtlcpigdmekgajaaGreatDoor.Abs
set_option linter.unusedVariables false
set_option linter.unusedSimpArgs false
namespace Go.Proofs
open _root_.Bool renaming false_eq_true → zaa, and_eq_true → zag, not_true → za0, true_and → zaK, false_or → zaN, eq_iff_iff → zb6, true_or → zbE
open _root_.Option renaming bind_eq_some_iff → zab, bind_some → zac, getD_some → zaA, map_eq_some_iff → zaG, bind_eq_bind → zaJ, pure_def → zaW
open _root_.List renaming length_append → zad, getElem?_eq_some_iff → zae, append_assoc → zaf, replicate → zai, getElem?_append_right → zaj, getElem?_append_left → zak, nil_append → zal, length_cons → zam, append_nil → zap, map_cons → zaq, length_singleton → zas, mem_cons_of_mem → zat, cons_append → zau, length_nil → zaw, all_cons → zax, mem_cons_self → zay, flatten_cons → zaz, map_append → za3, all_eq_true → za4, mem_append_left → za8, map_nil → zaB, take_length → zaC, drop_append_of_le_length → zaD, mem_append_right → zaE, mapM_cons → zaF, drop_zero → zaL, mem_append → zaQ, getElem?_map → zaS, getElem?_drop → zaT, nodup_append → zaU, getElem?_cons_zero → zaX, replicate_succ → zbb, drop_eq_getElem_cons → zbd, nodup_cons → zbe, getElem?_take_of_lt → zbf, mem_singleton → zbg, drop_drop → zbj, flatten_append → zbm, length_eq_one_iff → zbo, getD_eq_getElem?_getD → zbp, drop_length → zbq, flatten_nil → zb2, Perm → zb7, any_cons → zb8, getElem?_set_ne → zb9, mem_cons → zbF, length_map → zbG, mem_map → zbH, map_map → zbI
open _root_.ByteArray renaming size → zbk, data_push → zbC
open _root_.Nat renaming le_refl → zan, zero_add → za1, le_trans → za5, add_assoc → za9, add_zero → zaM, eq_of_beq_eq_true → zaP, sub_self → zba, add_sub_cancel_left → zbh, succ_mul → zbs, mul_one → zbw, beq → zb3, add_mul → zbB, add_comm → zbD
open _root_.Array renaming getElem?_eq_some_iff → za6, ext' → zaZ, replicate → zbz, getElem?_setIfInBounds_ne → zb0
open _root_.Int renaming natCast_zero → zaR, toNat_natCast → zbl
open Go.RowKit Go.Shelf Go.Lib
def Tryz.laysValid_ren : Go.Shelf.Ren := ⟨fun | 196 => 147 | 259 => 152 | n => n, fun | 9 => 9 | 4 => 4 | 3 => 3 | 5 => 5 | 12 => 12 | 119 => 145 | 0 => 0 | 46 => 107 | 139 => 148 | 138 => 147 | 53 => 156 | n => n, fun | 3 => 0 | 4 => 1 | n => n⟩
theorem Tryz.laysValid : Go.Proofs.Lays.n196 Tryz.prog Tryz.laysValid_ren := {
 mixed := by kernel_rfl
 f196 := Tryz.func147.trans (congrArg some (by kernel_rfl))
 f259 := Tryz.func152.trans (congrArg some (by kernel_rfl))
 t0 := Tryz.underlying0
 a0 := Tryz.isAgg0
 z0 := Tryz.sizeOf0
 v0 := Tryz.zeroValue0
 t3 := Tryz.underlying3
 a3 := Tryz.isAgg3
 z3 := Tryz.sizeOf3
 v3 := Tryz.zeroValue3
 t4 := Tryz.underlying4
 a4 := Tryz.isAgg4
 z4 := Tryz.sizeOf4
 v4 := Tryz.zeroValue4
 t5 := Tryz.underlying5
 a5 := Tryz.isAgg5
 z5 := Tryz.sizeOf5
 v5 := Tryz.zeroValue5
 t9 := Tryz.underlying9
 a9 := Tryz.isAgg9
 z9 := Tryz.sizeOf9
 v9 := Tryz.zeroValue9
 t12 := Tryz.underlying12
 a12 := Tryz.isAgg12
 z12 := Tryz.sizeOf12
 v12 := Tryz.zeroValue12
 t46 := Tryz.underlying107
 a46 := Tryz.isAgg107
 z46 := Tryz.sizeOf107
 v46 := Tryz.zeroValue107
 t53 := Tryz.underlying156
 a53 := Tryz.isAgg156
 z53 := Tryz.sizeOf156
 v53 := Tryz.zeroValue156
 t119 := Tryz.underlying145
 a119 := Tryz.isAgg145
 z119 := Tryz.sizeOf145
 t138 := Tryz.underlying147
 a138 := Tryz.isAgg147
 z138 := Tryz.sizeOf147
 v138 := Tryz.zeroValue147
 t139 := Tryz.underlying148
 a139 := Tryz.isAgg148
 z139 := Tryz.sizeOf148
 v139 := Tryz.zeroValue148
 g3 := by kernel_rfl
 g4 := by kernel_rfl }
def Tryz.laysAny_ren : Go.Shelf.Ren := ⟨fun | 150 => 136 | 153 => 148 | 152 => 153 | 226 => 154 | 227 => 155 | 228 => 156 | 137 => 158 | 119 => 159 | 224 => 160 | 225 => 161 | 217 => 165 | 266 => 170 | n => n, fun | 9 => 9 | 4 => 4 | 3 => 3 | 5 => 5 | 21 => 21 | 117 => 152 | 116 => 151 | 0 => 0 | 46 => 107 | 124 => 160 | n => n, fun | n => n⟩
theorem Tryz.laysAny : Go.Proofs.Lays.n150 Tryz.prog Tryz.laysAny_ren := {
 mixed := by kernel_rfl
 f119 := Tryz.func159.trans (congrArg some (by kernel_rfl))
 f137 := Tryz.func158.trans (congrArg some (by kernel_rfl))
 f150 := Tryz.func136.trans (congrArg some (by kernel_rfl))
 f152 := Tryz.func153.trans (congrArg some (by kernel_rfl))
 f153 := Tryz.func148.trans (congrArg some (by kernel_rfl))
 f217 := Tryz.func165.trans (congrArg some (by kernel_rfl))
 f224 := Tryz.func160.trans (congrArg some (by kernel_rfl))
 f225 := Tryz.func161.trans (congrArg some (by kernel_rfl))
 f226 := Tryz.func154.trans (congrArg some (by kernel_rfl))
 f227 := Tryz.func155.trans (congrArg some (by kernel_rfl))
 f228 := Tryz.func156.trans (congrArg some (by kernel_rfl))
 f266 := Tryz.func170.trans (congrArg some (by kernel_rfl))
 t0 := Tryz.underlying0
 a0 := Tryz.isAgg0
 z0 := Tryz.sizeOf0
 v0 := Tryz.zeroValue0
 t3 := Tryz.underlying3
 a3 := Tryz.isAgg3
 z3 := Tryz.sizeOf3
 v3 := Tryz.zeroValue3
 t4 := Tryz.underlying4
 a4 := Tryz.isAgg4
 z4 := Tryz.sizeOf4
 v4 := Tryz.zeroValue4
 t5 := Tryz.underlying5
 a5 := Tryz.isAgg5
 z5 := Tryz.sizeOf5
 v5 := Tryz.zeroValue5
 t9 := Tryz.underlying9
 a9 := Tryz.isAgg9
 z9 := Tryz.sizeOf9
 v9 := Tryz.zeroValue9
 t21 := Tryz.underlying21
 a21 := Tryz.isAgg21
 z21 := Tryz.sizeOf21
 v21 := Tryz.zeroValue21
 t46 := Tryz.underlying107
 a46 := Tryz.isAgg107
 z46 := Tryz.sizeOf107
 v46 := Tryz.zeroValue107
 t116 := Tryz.underlying151
 a116 := Tryz.isAgg151
 z116 := Tryz.sizeOf151
 t117 := Tryz.underlying152
 a117 := Tryz.isAgg152
 z117 := Tryz.sizeOf152
 v117 := Tryz.zeroValue152
 t124 := Tryz.underlying160
 a124 := Tryz.isAgg160
 z124 := Tryz.sizeOf160
 v124 := Tryz.zeroValue160 }
def Tryz.laysSplit_ren : Go.Shelf.Ren := ⟨fun | 146 => 149 | 221 => 157 | 268 => 162 | 138 => 163 | 143 => 164 | 195 => 166 | 197 => 167 | 218 => 168 | 219 => 169 | 260 => 171 | 217 => 165 | 225 => 161 | 224 => 160 | 267 => 172 | 266 => 170 | 314 => 173 | n => n, fun | 9 => 9 | 31 => 56 | 3 => 3 | 4 => 4 | 0 => 0 | 105 => 162 | 21 => 21 | 5 => 5 | 46 => 107 | 119 => 145 | 139 => 148 | 138 => 147 | 146 => 165 | 51 => 164 | n => n, fun | 1 => 2 | 3 => 0 | 4 => 1 | n => n⟩
theorem Tryz.laysSplit : Go.Proofs.Lays.n146 Tryz.prog Tryz.laysSplit_ren := {
 mixed := by kernel_rfl
 f138 := Tryz.func163.trans (congrArg some (by kernel_rfl))
 f143 := Tryz.func164.trans (congrArg some (by kernel_rfl))
 f146 := Tryz.func149.trans (congrArg some (by kernel_rfl))
 f195 := Tryz.func166.trans (congrArg some (by kernel_rfl))
 f197 := Tryz.func167.trans (congrArg some (by kernel_rfl))
 f217 := Tryz.func165.trans (congrArg some (by kernel_rfl))
 f218 := Tryz.func168.trans (congrArg some (by kernel_rfl))
 f219 := Tryz.func169.trans (congrArg some (by kernel_rfl))
 f221 := Tryz.func157.trans (congrArg some (by kernel_rfl))
 f224 := Tryz.func160.trans (congrArg some (by kernel_rfl))
 f225 := Tryz.func161.trans (congrArg some (by kernel_rfl))
 f260 := Tryz.func171.trans (congrArg some (by kernel_rfl))
 f266 := Tryz.func170.trans (congrArg some (by kernel_rfl))
 f267 := Tryz.func172.trans (congrArg some (by kernel_rfl))
 f268 := Tryz.func162.trans (congrArg some (by kernel_rfl))
 f314 := Tryz.func173.trans (congrArg some (by kernel_rfl))
 t0 := Tryz.underlying0
 a0 := Tryz.isAgg0
 z0 := Tryz.sizeOf0
 v0 := Tryz.zeroValue0
 t3 := Tryz.underlying3
 a3 := Tryz.isAgg3
 z3 := Tryz.sizeOf3
 v3 := Tryz.zeroValue3
 t4 := Tryz.underlying4
 a4 := Tryz.isAgg4
 z4 := Tryz.sizeOf4
 v4 := Tryz.zeroValue4
 t5 := Tryz.underlying5
 a5 := Tryz.isAgg5
 z5 := Tryz.sizeOf5
 v5 := Tryz.zeroValue5
 t9 := Tryz.underlying9
 a9 := Tryz.isAgg9
 z9 := Tryz.sizeOf9
 v9 := Tryz.zeroValue9
 t21 := Tryz.underlying21
 a21 := Tryz.isAgg21
 z21 := Tryz.sizeOf21
 v21 := Tryz.zeroValue21
 t31 := Tryz.underlying56
 a31 := Tryz.isAgg56
 z31 := Tryz.sizeOf56
 v31 := Tryz.zeroValue56
 t46 := Tryz.underlying107
 a46 := Tryz.isAgg107
 z46 := Tryz.sizeOf107
 v46 := Tryz.zeroValue107
 t51 := Tryz.underlying164
 a51 := Tryz.isAgg164
 z51 := Tryz.sizeOf164
 v51 := Tryz.zeroValue164
 t105 := Tryz.underlying162
 a105 := Tryz.isAgg162
 z105 := Tryz.sizeOf162
 v105 := Tryz.zeroValue162
 t119 := Tryz.underlying145
 a119 := Tryz.isAgg145
 z119 := Tryz.sizeOf145
 t138 := Tryz.underlying147
 a138 := Tryz.isAgg147
 z138 := Tryz.sizeOf147
 v138 := Tryz.zeroValue147
 t139 := Tryz.underlying148
 a139 := Tryz.isAgg148
 z139 := Tryz.sizeOf148
 v139 := Tryz.zeroValue148
 t146 := Tryz.underlying165
 a146 := Tryz.isAgg165
 z146 := Tryz.sizeOf165
 v146 := Tryz.zeroValue165
 g1 := by kernel_rfl
 g3 := by kernel_rfl
 g4 := by kernel_rfl }
namespace YtlcpigdmekgajaaGreatDoor.Abs
def noZ : Nat → List UInt8 → Bool
 | 0, _ => true
 | n + 1, l => if l = [] then true else if (Lib.decodeL l).1 = 0 then false else noZ n (l.drop (Lib.decodeL l).2)
def Zh (s : ByteArray) : Bool := noZ s.size s.data.toList && (Lib.validD s.data.toList && decide (s.size ≤ 60))
def JT (w : World) : Prop := Lib.Utf8Tabs (Tryz.laysValid_ren.g 3) (Tryz.laysValid_ren.g 4) w
def J0 (w : World) : Prop := JT w ∧ ∃ m, w.cell? ⟨Tryz.laysSplit_ren.g 1, 0, none⟩ = some (.int .i64 m)
theorem Aha : ∀ w w' : World, JT w → Below w.heap.size w w' → JT w' := fun _ _ h hb => Utf8Tabs_below h hb
theorem AgZ : ∀ w w' : World, J0 w → Below w.heap.size w w' → J0 w' := fun w w' h hb => ⟨Aha w w' h.1 hb, by
 obtain ⟨m, hm⟩ := h.2
 have hlt := World.block_lt_of_cell? _ _ hm
 refine ⟨m, ?_⟩
 rw [← hm]
 simp only [World.cell?]
 rw [hb.block _ hlt]⟩
set_option maxHeartbeats 1000000 in
set_option maxRecDepth 1000000 in
theorem AeN (s : ByteArray) (w : World) (hs : s.size ≤ 9223372036854775807) (hT : JT w) :
  Calls Tryz.prog 135 #[.string s] w fun e w' => e = .returned (.bool (Zh s)) ∧ Below w.heap.size w w' := by
 have cV : ∀ w, JT w → Calls Tryz.prog 147 #[.string s] w _ := fun w hT => Any.utf8_ValidString Tryz.laysValid s w hs hT
 unfold Zh
 generalize hV : Lib.validD s.data.toList = V at cV ⊢
 have bel : ∀ pos, Below w.heap.size w (w.iter s pos) := fun pos => (Below.refl _ w).alloc (zan _) _
 go_enter Tryz.func135, Tryz.ntmps135
 go_wp2
 go_loopw [] (fun w' => ∃ (pos b : Nat), w' = w.iter s pos ∧ noZ b (s.data.toList.drop pos) = noZ s.size s.data.toList ∧ s.size ≤ pos + b) (fun w' => s.size - w'.iterPos w.heap.size)
 case atStart => exact ⟨0, s.size, rfl, by simp, by omega⟩
 case round =>
  obtain ⟨pos, b, rfl, hc, hb⟩ := hrel
  by_cases hp : pos < s.size
  ·have hnx : ∀ ty, (Instr.next (.pointer (some ⟨w.heap.size, 0, none⟩)) true ty).run Tryz.prog (w.iter s pos) = _ := fun ty => run_next_any w s pos ty hp
   have hdd := Lib.decodeL_drop s pos
   have hwd : 1 ≤ (Utf8.decode s pos).2 := by rw [← hdd]; exact Lib.decodeL_width _
   obtain ⟨b, rfl⟩ : ∃ b', b = b' + 1 := ⟨b - 1, by omega⟩
   have hne : s.data.toList.drop pos ≠ [] := by
    intro h
    have := congrArg List.length h
    simp at this
    omega
   rw [noZ, if_neg hne, hdd] at hc
   by_cases hz : (Utf8.decode s pos).1 = 0
   ·rw [if_pos hz] at hc
    have hz' : (((Utf8.decode s pos).1 : Int) == 0) = true := by simp [hz]
    go_wp2
    go_ret
    rw [← hc]
    exact ⟨by simp, bel _⟩
   ·rw [if_neg hz, zbj] at hc
    have hz' : (((Utf8.decode s pos).1 : Int) == 0) = false := by simp; omega
    go_wp2
    go_roundw
    case rel => exact ⟨pos + (Utf8.decode s pos).2, b, rfl, hc, by omega⟩
    case measure =>
     simp
     omega
  ·have hnx : ∀ ty, (Instr.next (.pointer (some ⟨w.heap.size, 0, none⟩)) true ty).run Tryz.prog (w.iter s pos) = _ := fun ty => run_next_end w s pos ty hp
   have hnil : s.data.toList.drop pos = [] := by
    apply List.drop_of_length_le
    simp
    omega
   have hc2 : noZ s.size s.data.toList = true := by
    rw [← hc, hnil]
    cases b <;> simp [noZ]
   rw [hc2]
   have cV2 := cV (w.iter s pos) (Utf8Tabs_below hT (bel pos))
   go_wp2_with (go_at_call 147; refine cV2.mono ?_; rintro e w' ⟨rfl, hb2⟩)
   all_goals
    go_ret
    refine ⟨?_, (bel pos).trans (hb2.mono (bel pos).size)⟩
   ·simp_all
    omega
   ·simp_all
theorem Za : ∀ (n : Nat) (l : List UInt8), Pz n l = (noZ n l && Lib.validGoD n l)
 | 0, _ => rfl
 | n + 1, l => by
  rw [Pz, noZ, Lib.validGoD, Za n]
  by_cases h : l = []
  ·simp [h]
  ·by_cases h1 : (Lib.decodeL l).1 = 65533 ∧ (Lib.decodeL l).2 = 1
   ·simp [h, h1]
   ·by_cases h2 : (Lib.decodeL l).1 = 0
    ·simp [h, h2]
    ·simp [h, h1, h2]
theorem Afd (s : ByteArray) : Zh s = Bo s := by
 have e : s.data.toList.length = s.size := by simp
 unfold Zh Bo Lib.validD
 rw [Za, e]
 cases noZ s.size s.data.toList <;> cases Lib.validGoD s.size s.data.toList <;> simp
theorem AmT {c : ByteArray} (h : c.data.toList = [43, 35]) : c = phB := by
 cases c with
 | mk d =>
  have : d = #[43, 35] := by apply zaZ; simpa using h
  subst this
  rfl
theorem Amc {c : ByteArray} (h : c.data.toList = [47]) : c = Xh := by
 cases c with
 | mk d =>
  have : d = #[47] := by apply zaZ; simpa using h
  subst this
  rfl
theorem Ahy : (Tryz.prog.info? (Tryz.laysAny_ren.t 116)).map (fun i => (i.zero, i.size)) = some (some (.agg (zbz 256 (.bool false))), 256) := by kernel_rfl
theorem hi9 : (Tryz.prog.info? (Tryz.laysSplit_ren.t 9)).map (fun i => (i.zero, i.size, i.bytes)) = some (some (.string ByteArray.empty), 1, 16) := by kernel_rfl
theorem Ajg {w w' : World} (hb : Below w.heap.size w w') : HR w Gs w' [] := by
 refine ⟨hb, ?_, ?_, ?_, ?_⟩
 ·intro i k b o sz hi
  cases hi
 ·intro i k hi
  cases hi
 ·intro i i' k k' b o sz o' sz' hi
  cases hi
 ·intro i p hp
  cases hp
theorem Ac4 {w w' : World} (hb : Below w.heap.size w w') (ty : Nat) (v : Value) : ∃ φ' Hc x ids, HR w φ' w' Hc ∧ VR w φ' x v ∧ C9 E0.ti E0.tp Hc 8 ty x = some (.sc v, ids) ∧ ids.Nodup :=
 ⟨Gs, [], .sc v, [], Ajg hb, Gi _ _ _, rfl, List.nodup_nil⟩
theorem AaT {ti : Nat → Option TI} {tp : Nat → Option (List Nat)} {H : Ab} {d : Nat} : ∀ (ts : List Nat) (l : List Value), ts.length = l.length → D7 (C9 ti tp H (d + 1)) ts (l.map AV.sc) = some (l.map AV.sc, [])
 | [], [], _ => rfl
 | t :: ts, v :: l, h => by
  have ih := AaT (ti := ti) (tp := tp) (H := H) (d := d) ts l (by simpa using h)
  simp only [zaq, D7, ih, zac]
  rfl
theorem Aj4 {ti : Nat → Option TI} {tp : Nat → Option (List Nat)} {H : Ab} {d ty id off n z : Nat} : C9 ti tp H (d + 1) ty (.sl id off n z) = (ti ty).bind fun i => (ti i.elem).bind fun j => if z = j.size then (if Js H id then (Be H id off (n * z)).bind fun cs => (D7 (C9 ti tp H d) (zai n j.cty).flatten cs).bind fun q => some (.ro n q.1, id :: q.2) else none) else none := rfl
theorem Afk (w : World) (l : List ByteArray) (e : TypeId) : ∃ φ' Hc x ids, HR w φ' (w.alloc (.cells (l.map Value.string).toArray e)) Hc ∧ VR w φ' x (.slice (some ⟨w.heap.size, 0, none⟩) l.length l.length) ∧
  C9 E0.ti E0.tp Hc 8 56 x = some (.ro l.length (l.map fun s => .sc (.string s)), ids) ∧ ids.Nodup := by
 have hcs : VRs w Gs ((l.map Value.string).map AV.sc) (fun j => (l.map Value.string).toArray[0 + j]?) := by
  rw [Dl]
  intro j x hj
  rw [zaS] at hj
  obtain ⟨v, hv, rfl⟩ := zaG.1 hj
  exact ⟨v, by simpa using hv, Gi _ _ _⟩
 obtain ⟨h1, h2⟩ := (HR.start w).alloc (Fu w (.cells (l.map Value.string).toArray e)) (b := w.heap.size) (o := 0) (k := ⟨(l.map Value.string).map AV.sc, true, true⟩) (zan _) (Mz w _) (by simp) (fun _ => rfl) (.inl rfl) hcs
 refine ⟨_, _, .sl 0 0 l.length 1, [0], h1, ?_, ?_, by simp⟩
 ·rw [VR]
  refine .inr ⟨w.heap.size, 0, _, Fh _ _ _, .inr ⟨l.length, zan _, rfl, ?_⟩⟩
  simp
 ·rw [Aj4]
  have hr : Be ([] ++ [⟨(l.map Value.string).map AV.sc, true, true⟩]) 0 0 (l.length * 1) = some ((l.map Value.string).map AV.sc) := by
   simp [Be, List.take_of_length_le]
  have e1 : E0.ti 56 = As 56 := rfl
  obtain ⟨i, j, hi, hj, hz, hc⟩ : ∃ i j, As 56 = some i ∧ As i.elem = some j ∧ j.size = 1 ∧ j.cty = [i.elem] := ⟨_, _, rfl, rfl, rfl, rfl⟩
  simp only [e1, hi, zac, show E0.ti i.elem = some j from hj, hz, if_true, hr, hc]
  have ho := AaT (ti := E0.ti) (tp := E0.tp) (H := [] ++ [⟨(l.map Value.string).map AV.sc, true, true⟩]) (d := 6) (zai l.length [i.elem]).flatten (l.map Value.string) (by simp)
  rw [ho]
  have ha : Js ([] ++ [(⟨(l.map Value.string).map AV.sc, true, true⟩ : Jm)]) 0 = true := rfl
  rw [if_pos ha]
  simp [zbI]
theorem AeX (s : ByteArray) (w : World) (hs : s.size < 4294967281) : Calls Tryz.prog 136 #[.string s, .string phB] w fun e w' => e = .returned (.bool (vPH s)) ∧ Below w.heap.size w w' :=
 Aaw Tryz.laysAny (zero_of_info Ahy).1 (zero_of_info Ahy).2 s w hs
theorem Acm (s : ByteArray) (w : World) (hs : s.size < 4294967281) (hm : ∃ m, w.cell? ⟨Tryz.laysSplit_ren.g 1, 0, none⟩ = some (.int .i64 m)) : Calls Tryz.prog 149 #[.string s, .string Xh] w fun e w' =>
  e = .returned (.slice (some ⟨w.heap.size, 0, none⟩) (Bl s).length (Bl s).length) ∧ w' = w.alloc (.cells ((Bl s).map Value.string).toArray (Tryz.laysSplit_ren.t 9)) := by
 obtain ⟨m, hm⟩ := hm
 have h := Any.strings_Split Tryz.laysSplit hi9 s Xh m w hs hm (zan _)
 rw [Sw, ← AbX] at h
 exact h
theorem Aj1 {w : World} {x : Value} {us : List Value} (hl : us.length = 1) (hv : VRs w Gs [.sc x] (fun j => us[j]?)) : us = [x] := by
 match us, hl with
 | [y], _ =>
  rw [VRs] at hv
  obtain ⟨⟨u, hu, hv⟩, _⟩ := hv
  rw [VR] at hv
  simp at hu
  rw [hu, hv]
theorem Abl {w : World} {x y : Value} {us : List Value} (hl : us.length = 2) (hv : VRs w Gs [.sc x, .sc y] (fun j => us[j]?)) : us = [x, y] := by
 match us, hl with
 | [a, b], _ =>
  rw [VRs, VRs] at hv
  obtain ⟨⟨u, hu, hv⟩, ⟨u2, hu2, hv2⟩, _⟩ := hv
  rw [VR] at hv hv2
  simp at hu hu2
  rw [hu, hv, hu2, hv2]
theorem An7 : AjT Tryz.prog E0 J0 := by
 intro f g hg w hj ty vs us t hl hv ht
 have hf : E0.ext f = if zb3 f 135 then some Zm else if zb3 f 136 then some Vk else if zb3 f 149 then some S3 else none := rfl
 rw [hf] at hg
 split at hg
 ·rename_i hfe
  obtain rfl := zaP hfe
  cases hg
  unfold Zm at ht
  split at ht
  case h_2 => cases ht
  rename_i s
  split at ht
  case isFalse => cases ht
  rename_i hs
  cases ht
  have hm : maxLen = 9223372036854775807 := by decide
  rw [hm] at hs
  obtain rfl := Aj1 hl hv
  refine .inr ⟨enters_of Tryz.func135 (by kernel_rfl) rfl _ _, (AeN s w hs hj.1).mono fun e w' ⟨he, hb⟩ => ⟨_, he, ?_⟩⟩
  rw [Afd]
  exact Ac4 hb _ _
 split at hg
 ·rename_i hfe
  obtain rfl := zaP hfe
  cases hg
  unfold Vk at ht
  split at ht
  case h_2 => cases ht
  rename_i s c
  split at ht
  case isFalse => cases ht
  rename_i hs
  cases ht
  obtain rfl := Abl hl hv
  obtain ⟨hc, hs⟩ := hs
  obtain rfl := AmT hc
  exact .inr ⟨enters_of Tryz.func136 (by kernel_rfl) rfl _ _, (AeX s w hs).mono fun e w' ⟨he, hb⟩ => ⟨_, he, Ac4 hb _ _⟩⟩
 split at hg
 ·rename_i hfe
  obtain rfl := zaP hfe
  cases hg
  unfold S3 at ht
  split at ht
  case h_2 => cases ht
  rename_i s c
  split at ht
  case isFalse => cases ht
  rename_i hs
  cases ht
  obtain rfl := Abl hl hv
  obtain ⟨rfl, hc, hs⟩ := hs
  obtain rfl := Amc hc
  exact .inr ⟨enters_of Tryz.func149 (by kernel_rfl) rfl _ _, (Acm s w hs hj.2).mono fun e w' ⟨he, hw⟩ => ⟨_, he, by subst hw; exact Afk w (Bl s) _⟩⟩
 ·cases hg
end YtlcpigdmekgajaaGreatDoor.Abs
end Go.Proofs
set_option maxRecDepth 100000
namespace Go.Proofs.YtlcpigdmekgajaaGreatDoor.Abs
open _root_.Bool renaming false_eq_true → zaa, and_eq_true → zag, not_true → za0, true_and → zaK, false_or → zaN, eq_iff_iff → zb6, true_or → zbE
open _root_.Option renaming bind_eq_some_iff → zab, bind_some → zac, getD_some → zaA, map_eq_some_iff → zaG, bind_eq_bind → zaJ, pure_def → zaW
open _root_.List renaming length_append → zad, getElem?_eq_some_iff → zae, append_assoc → zaf, replicate → zai, getElem?_append_right → zaj, getElem?_append_left → zak, nil_append → zal, length_cons → zam, append_nil → zap, map_cons → zaq, length_singleton → zas, mem_cons_of_mem → zat, cons_append → zau, length_nil → zaw, all_cons → zax, mem_cons_self → zay, flatten_cons → zaz, map_append → za3, all_eq_true → za4, mem_append_left → za8, map_nil → zaB, take_length → zaC, drop_append_of_le_length → zaD, mem_append_right → zaE, mapM_cons → zaF, drop_zero → zaL, mem_append → zaQ, getElem?_map → zaS, getElem?_drop → zaT, nodup_append → zaU, getElem?_cons_zero → zaX, replicate_succ → zbb, drop_eq_getElem_cons → zbd, nodup_cons → zbe, getElem?_take_of_lt → zbf, mem_singleton → zbg, drop_drop → zbj, flatten_append → zbm, length_eq_one_iff → zbo, getD_eq_getElem?_getD → zbp, drop_length → zbq, flatten_nil → zb2, Perm → zb7, any_cons → zb8, getElem?_set_ne → zb9, mem_cons → zbF, length_map → zbG, mem_map → zbH, map_map → zbI
open _root_.ByteArray renaming size → zbk, data_push → zbC
open _root_.Nat renaming le_refl → zan, zero_add → za1, le_trans → za5, add_assoc → za9, add_zero → zaM, eq_of_beq_eq_true → zaP, sub_self → zba, add_sub_cancel_left → zbh, succ_mul → zbs, mul_one → zbw, beq → zb3, add_mul → zbB, add_comm → zbD
open _root_.Array renaming getElem?_eq_some_iff → za6, ext' → zaZ, replicate → zbz, getElem?_setIfInBounds_ne → zb0
open _root_.Int renaming natCast_zero → zaR, toNat_natCast → zbl
section
open Go
theorem AmZ : Ah4 Tryz.prog 0 tis = true := by kernel_rfl
theorem Amo : AgK E0 fss = true := by kernel_rfl
theorem Ah5 : Jq Tryz.prog As := by
 intro t i h
 unfold As at h
 cases hl : tis[t]? with
 | none => rw [hl] at h; cases h
 | some o =>
  rw [hl] at h
  simp only [zaA] at h
  subst h
  simpa using (Aac tis 0 t i AmZ hl).1
theorem Amm : ∀ t i, As t = some i → i.ik = some .u8 → i.size = 1 := by
 intro t i h
 unfold As at h
 cases hl : tis[t]? with
 | none => rw [hl] at h; cases h
 | some o =>
  rw [hl] at h
  simp only [zaA] at h
  subst h
  exact (Aac tis 0 t i AmZ hl).2
def FnQ (n : Nat) (c : Code) (t : Nat) (f : Func) : Prop := ∃ fn, Tryz.prog.funcs[n]? = some fn ∧ (fn.name == "runtime.NumGoroutine") = false ∧ fn.body = some c ∧ fn.ntmps = t ∧ fn.results.toList = f.results.toList
theorem Gl {c : Code} {t : Nat} {f : Func} {o : List (Nat × PI)} {i : Fj} {n : Nat} (e : some (some (⟨c, t, f.results.toList, o⟩ : Fj)) = some (some i)) (h : FnQ n c t f) : ∃ fn, Tryz.prog.funcs[n]? = some fn ∧ (fn.name == "runtime.NumGoroutine") = false ∧ fn.body = some i.body ∧ fn.ntmps = i.ntmps ∧ fn.results.toList = i.results := by cases e; exact h
theorem AmF : ∀ (f : Nat) (i : Fj), f < 152 → fss[f]? = some (some i) → ∃ fn, Tryz.prog.funcs[f]? = some fn ∧ (fn.name == "runtime.NumGoroutine") = false ∧ fn.body = some i.body ∧ fn.ntmps = i.ntmps ∧ fn.results.toList = i.results
 | 0, i, _, h => nomatch Option.some.inj h
 | 1, i, _, h => nomatch Option.some.inj h
 | 2, i, _, h => nomatch Option.some.inj h
 | 3, i, _, h => nomatch Option.some.inj h
 | 4, i, _, h => nomatch Option.some.inj h
 | 5, i, _, h => nomatch Option.some.inj h
 | 6, i, _, h => nomatch Option.some.inj h
 | 7, i, _, h => Gl (f := Tryz.f7) h ⟨_, Tryz.func7, by kernel_rfl, by kernel_rfl, rfl, rfl⟩
 | 8, i, _, h => nomatch Option.some.inj h
 | 9, i, _, h => nomatch Option.some.inj h
 | 10, i, _, h => nomatch Option.some.inj h
 | 11, i, _, h => nomatch Option.some.inj h
 | 12, i, _, h => nomatch Option.some.inj h
 | 13, i, _, h => nomatch Option.some.inj h
 | 14, i, _, h => nomatch Option.some.inj h
 | 15, i, _, h => nomatch Option.some.inj h
 | 16, i, _, h => nomatch Option.some.inj h
 | 17, i, _, h => nomatch Option.some.inj h
 | 18, i, _, h => nomatch Option.some.inj h
 | 19, i, _, h => nomatch Option.some.inj h
 | 20, i, _, h => nomatch Option.some.inj h
 | 21, i, _, h => nomatch Option.some.inj h
 | 22, i, _, h => Gl (f := Tryz.f22) h ⟨_, Tryz.func22, by kernel_rfl, by kernel_rfl, rfl, rfl⟩
 | 23, i, _, h => nomatch Option.some.inj h
 | 24, i, _, h => nomatch Option.some.inj h
 | 25, i, _, h => nomatch Option.some.inj h
 | 26, i, _, h => Gl (f := Tryz.f26) h ⟨_, Tryz.func26, by kernel_rfl, by kernel_rfl, rfl, rfl⟩
 | 27, i, _, h => nomatch Option.some.inj h
 | 28, i, _, h => Gl (f := Tryz.f28) h ⟨_, Tryz.func28, by kernel_rfl, by kernel_rfl, rfl, rfl⟩
 | 29, i, _, h => nomatch Option.some.inj h
 | 30, i, _, h => nomatch Option.some.inj h
 | 31, i, _, h => Gl (f := Tryz.f31) h ⟨_, Tryz.func31, by kernel_rfl, by kernel_rfl, rfl, rfl⟩
 | 32, i, _, h => Gl (f := Tryz.f32) h ⟨_, Tryz.func32, by kernel_rfl, by kernel_rfl, rfl, rfl⟩
 | 33, i, _, h => Gl (f := Tryz.f33) h ⟨_, Tryz.func33, by kernel_rfl, by kernel_rfl, rfl, rfl⟩
 | 34, i, _, h => Gl (f := Tryz.f34) h ⟨_, Tryz.func34, by kernel_rfl, by kernel_rfl, rfl, rfl⟩
 | 35, i, _, h => Gl (f := Tryz.f35) h ⟨_, Tryz.func35, by kernel_rfl, by kernel_rfl, rfl, rfl⟩
 | 36, i, _, h => Gl (f := Tryz.f36) h ⟨_, Tryz.func36, by kernel_rfl, by kernel_rfl, rfl, rfl⟩
 | 37, i, _, h => nomatch Option.some.inj h
 | 38, i, _, h => nomatch Option.some.inj h
 | 39, i, _, h => Gl (f := Tryz.f39) h ⟨_, Tryz.func39, by kernel_rfl, by kernel_rfl, rfl, rfl⟩
 | 40, i, _, h => Gl (f := Tryz.f40) h ⟨_, Tryz.func40, by kernel_rfl, by kernel_rfl, rfl, rfl⟩
 | 41, i, _, h => nomatch Option.some.inj h
 | 42, i, _, h => nomatch Option.some.inj h
 | 43, i, _, h => nomatch Option.some.inj h
 | 44, i, _, h => nomatch Option.some.inj h
 | 45, i, _, h => nomatch Option.some.inj h
 | 46, i, _, h => nomatch Option.some.inj h
 | 47, i, _, h => nomatch Option.some.inj h
 | 48, i, _, h => nomatch Option.some.inj h
 | 49, i, _, h => nomatch Option.some.inj h
 | 50, i, _, h => nomatch Option.some.inj h
 | 51, i, _, h => nomatch Option.some.inj h
 | 52, i, _, h => nomatch Option.some.inj h
 | 53, i, _, h => Gl (f := Tryz.f53) h ⟨_, Tryz.func53, by kernel_rfl, by kernel_rfl, rfl, rfl⟩
 | 54, i, _, h => Gl (f := Tryz.f54) h ⟨_, Tryz.func54, by kernel_rfl, by kernel_rfl, rfl, rfl⟩
 | 55, i, _, h => Gl (f := Tryz.f55) h ⟨_, Tryz.func55, by kernel_rfl, by kernel_rfl, rfl, rfl⟩
 | 56, i, _, h => Gl (f := Tryz.f56) h ⟨_, Tryz.func56, by kernel_rfl, by kernel_rfl, rfl, rfl⟩
 | 57, i, _, h => Gl (f := Tryz.f57) h ⟨_, Tryz.func57, by kernel_rfl, by kernel_rfl, rfl, rfl⟩
 | 58, i, _, h => Gl (f := Tryz.f58) h ⟨_, Tryz.func58, by kernel_rfl, by kernel_rfl, rfl, rfl⟩
 | 59, i, _, h => Gl (f := Tryz.f59) h ⟨_, Tryz.func59, by kernel_rfl, by kernel_rfl, rfl, rfl⟩
 | 60, i, _, h => Gl (f := Tryz.f60) h ⟨_, Tryz.func60, by kernel_rfl, by kernel_rfl, rfl, rfl⟩
 | 61, i, _, h => Gl (f := Tryz.f61) h ⟨_, Tryz.func61, by kernel_rfl, by kernel_rfl, rfl, rfl⟩
 | 62, i, _, h => Gl (f := Tryz.f62) h ⟨_, Tryz.func62, by kernel_rfl, by kernel_rfl, rfl, rfl⟩
 | 63, i, _, h => Gl (f := Tryz.f63) h ⟨_, Tryz.func63, by kernel_rfl, by kernel_rfl, rfl, rfl⟩
 | 64, i, _, h => Gl (f := Tryz.f64) h ⟨_, Tryz.func64, by kernel_rfl, by kernel_rfl, rfl, rfl⟩
 | 65, i, _, h => Gl (f := Tryz.f65) h ⟨_, Tryz.func65, by kernel_rfl, by kernel_rfl, rfl, rfl⟩
 | 66, i, _, h => Gl (f := Tryz.f66) h ⟨_, Tryz.func66, by kernel_rfl, by kernel_rfl, rfl, rfl⟩
 | 67, i, _, h => Gl (f := Tryz.f67) h ⟨_, Tryz.func67, by kernel_rfl, by kernel_rfl, rfl, rfl⟩
 | 68, i, _, h => Gl (f := Tryz.f68) h ⟨_, Tryz.func68, by kernel_rfl, by kernel_rfl, rfl, rfl⟩
 | 69, i, _, h => Gl (f := Tryz.f69) h ⟨_, Tryz.func69, by kernel_rfl, by kernel_rfl, rfl, rfl⟩
 | 70, i, _, h => Gl (f := Tryz.f70) h ⟨_, Tryz.func70, by kernel_rfl, by kernel_rfl, rfl, rfl⟩
 | 71, i, _, h => Gl (f := Tryz.f71) h ⟨_, Tryz.func71, by kernel_rfl, by kernel_rfl, rfl, rfl⟩
 | 72, i, _, h => Gl (f := Tryz.f72) h ⟨_, Tryz.func72, by kernel_rfl, by kernel_rfl, rfl, rfl⟩
 | 73, i, _, h => Gl (f := Tryz.f73) h ⟨_, Tryz.func73, by kernel_rfl, by kernel_rfl, rfl, rfl⟩
 | 74, i, _, h => Gl (f := Tryz.f74) h ⟨_, Tryz.func74, by kernel_rfl, by kernel_rfl, rfl, rfl⟩
 | 75, i, _, h => Gl (f := Tryz.f75) h ⟨_, Tryz.func75, by kernel_rfl, by kernel_rfl, rfl, rfl⟩
 | 76, i, _, h => Gl (f := Tryz.f76) h ⟨_, Tryz.func76, by kernel_rfl, by kernel_rfl, rfl, rfl⟩
 | 77, i, _, h => Gl (f := Tryz.f77) h ⟨_, Tryz.func77, by kernel_rfl, by kernel_rfl, rfl, rfl⟩
 | 78, i, _, h => nomatch Option.some.inj h
 | 79, i, _, h => nomatch Option.some.inj h
 | 80, i, _, h => Gl (f := Tryz.f80) h ⟨_, Tryz.func80, by kernel_rfl, by kernel_rfl, rfl, rfl⟩
 | 81, i, _, h => Gl (f := Tryz.f81) h ⟨_, Tryz.func81, by kernel_rfl, by kernel_rfl, rfl, rfl⟩
 | 82, i, _, h => nomatch Option.some.inj h
 | 83, i, _, h => nomatch Option.some.inj h
 | 84, i, _, h => nomatch Option.some.inj h
 | 85, i, _, h => nomatch Option.some.inj h
 | 86, i, _, h => Gl (f := Tryz.f86) h ⟨_, Tryz.func86, by kernel_rfl, by kernel_rfl, rfl, rfl⟩
 | 87, i, _, h => Gl (f := Tryz.f87) h ⟨_, Tryz.func87, by kernel_rfl, by kernel_rfl, rfl, rfl⟩
 | 88, i, _, h => Gl (f := Tryz.f88) h ⟨_, Tryz.func88, by kernel_rfl, by kernel_rfl, rfl, rfl⟩
 | 89, i, _, h => Gl (f := Tryz.f89) h ⟨_, Tryz.func89, by kernel_rfl, by kernel_rfl, rfl, rfl⟩
 | 90, i, _, h => Gl (f := Tryz.f90) h ⟨_, Tryz.func90, by kernel_rfl, by kernel_rfl, rfl, rfl⟩
 | 91, i, _, h => Gl (f := Tryz.f91) h ⟨_, Tryz.func91, by kernel_rfl, by kernel_rfl, rfl, rfl⟩
 | 92, i, _, h => Gl (f := Tryz.f92) h ⟨_, Tryz.func92, by kernel_rfl, by kernel_rfl, rfl, rfl⟩
 | 93, i, _, h => Gl (f := Tryz.f93) h ⟨_, Tryz.func93, by kernel_rfl, by kernel_rfl, rfl, rfl⟩
 | 94, i, _, h => Gl (f := Tryz.f94) h ⟨_, Tryz.func94, by kernel_rfl, by kernel_rfl, rfl, rfl⟩
 | 95, i, _, h => Gl (f := Tryz.f95) h ⟨_, Tryz.func95, by kernel_rfl, by kernel_rfl, rfl, rfl⟩
 | 96, i, _, h => Gl (f := Tryz.f96) h ⟨_, Tryz.func96, by kernel_rfl, by kernel_rfl, rfl, rfl⟩
 | 97, i, _, h => Gl (f := Tryz.f97) h ⟨_, Tryz.func97, by kernel_rfl, by kernel_rfl, rfl, rfl⟩
 | 98, i, _, h => Gl (f := Tryz.f98) h ⟨_, Tryz.func98, by kernel_rfl, by kernel_rfl, rfl, rfl⟩
 | 99, i, _, h => Gl (f := Tryz.f99) h ⟨_, Tryz.func99, by kernel_rfl, by kernel_rfl, rfl, rfl⟩
 | 100, i, _, h => Gl (f := Tryz.f100) h ⟨_, Tryz.func100, by kernel_rfl, by kernel_rfl, rfl, rfl⟩
 | 101, i, _, h => Gl (f := Tryz.f101) h ⟨_, Tryz.func101, by kernel_rfl, by kernel_rfl, rfl, rfl⟩
 | 102, i, _, h => Gl (f := Tryz.f102) h ⟨_, Tryz.func102, by kernel_rfl, by kernel_rfl, rfl, rfl⟩
 | 103, i, _, h => Gl (f := Tryz.f103) h ⟨_, Tryz.func103, by kernel_rfl, by kernel_rfl, rfl, rfl⟩
 | 104, i, _, h => Gl (f := Tryz.f104) h ⟨_, Tryz.func104, by kernel_rfl, by kernel_rfl, rfl, rfl⟩
 | 105, i, _, h => Gl (f := Tryz.f105) h ⟨_, Tryz.func105, by kernel_rfl, by kernel_rfl, rfl, rfl⟩
 | 106, i, _, h => Gl (f := Tryz.f106) h ⟨_, Tryz.func106, by kernel_rfl, by kernel_rfl, rfl, rfl⟩
 | 107, i, _, h => Gl (f := Tryz.f107) h ⟨_, Tryz.func107, by kernel_rfl, by kernel_rfl, rfl, rfl⟩
 | 108, i, _, h => Gl (f := Tryz.f108) h ⟨_, Tryz.func108, by kernel_rfl, by kernel_rfl, rfl, rfl⟩
 | 109, i, _, h => Gl (f := Tryz.f109) h ⟨_, Tryz.func109, by kernel_rfl, by kernel_rfl, rfl, rfl⟩
 | 110, i, _, h => Gl (f := Tryz.f110) h ⟨_, Tryz.func110, by kernel_rfl, by kernel_rfl, rfl, rfl⟩
 | 111, i, _, h => Gl (f := Tryz.f111) h ⟨_, Tryz.func111, by kernel_rfl, by kernel_rfl, rfl, rfl⟩
 | 112, i, _, h => Gl (f := Tryz.f112) h ⟨_, Tryz.func112, by kernel_rfl, by kernel_rfl, rfl, rfl⟩
 | 113, i, _, h => Gl (f := Tryz.f113) h ⟨_, Tryz.func113, by kernel_rfl, by kernel_rfl, rfl, rfl⟩
 | 114, i, _, h => Gl (f := Tryz.f114) h ⟨_, Tryz.func114, by kernel_rfl, by kernel_rfl, rfl, rfl⟩
 | 115, i, _, h => Gl (f := Tryz.f115) h ⟨_, Tryz.func115, by kernel_rfl, by kernel_rfl, rfl, rfl⟩
 | 116, i, _, h => nomatch Option.some.inj h
 | 117, i, _, h => nomatch Option.some.inj h
 | 118, i, _, h => Gl (f := Tryz.f118) h ⟨_, Tryz.func118, by kernel_rfl, by kernel_rfl, rfl, rfl⟩
 | 119, i, _, h => nomatch Option.some.inj h
 | 120, i, _, h => nomatch Option.some.inj h
 | 121, i, _, h => nomatch Option.some.inj h
 | 122, i, _, h => nomatch Option.some.inj h
 | 123, i, _, h => nomatch Option.some.inj h
 | 124, i, _, h => nomatch Option.some.inj h
 | 125, i, _, h => nomatch Option.some.inj h
 | 126, i, _, h => Gl (f := Tryz.f126) h ⟨_, Tryz.func126, by kernel_rfl, by kernel_rfl, rfl, rfl⟩
 | 127, i, _, h => Gl (f := Tryz.f127) h ⟨_, Tryz.func127, by kernel_rfl, by kernel_rfl, rfl, rfl⟩
 | 128, i, _, h => Gl (f := Tryz.f128) h ⟨_, Tryz.func128, by kernel_rfl, by kernel_rfl, rfl, rfl⟩
 | 129, i, _, h => Gl (f := Tryz.f129) h ⟨_, Tryz.func129, by kernel_rfl, by kernel_rfl, rfl, rfl⟩
 | 130, i, _, h => Gl (f := Tryz.f130) h ⟨_, Tryz.func130, by kernel_rfl, by kernel_rfl, rfl, rfl⟩
 | 131, i, _, h => Gl (f := Tryz.f131) h ⟨_, Tryz.func131, by kernel_rfl, by kernel_rfl, rfl, rfl⟩
 | 132, i, _, h => Gl (f := Tryz.f132) h ⟨_, Tryz.func132, by kernel_rfl, by kernel_rfl, rfl, rfl⟩
 | 133, i, _, h => Gl (f := Tryz.f133) h ⟨_, Tryz.func133, by kernel_rfl, by kernel_rfl, rfl, rfl⟩
 | 134, i, _, h => Gl (f := Tryz.f134) h ⟨_, Tryz.func134, by kernel_rfl, by kernel_rfl, rfl, rfl⟩
 | 135, i, _, h => nomatch Option.some.inj h
 | 136, i, _, h => nomatch Option.some.inj h
 | 137, i, _, h => Gl (f := Tryz.f137) h ⟨_, Tryz.func137, by kernel_rfl, by kernel_rfl, rfl, rfl⟩
 | 138, i, _, h => Gl (f := Tryz.f138) h ⟨_, Tryz.func138, by kernel_rfl, by kernel_rfl, rfl, rfl⟩
 | 139, i, _, h => Gl (f := Tryz.f139) h ⟨_, Tryz.func139, by kernel_rfl, by kernel_rfl, rfl, rfl⟩
 | 140, i, _, h => Gl (f := Tryz.f140) h ⟨_, Tryz.func140, by kernel_rfl, by kernel_rfl, rfl, rfl⟩
 | 141, i, _, h => Gl (f := Tryz.f141) h ⟨_, Tryz.func141, by kernel_rfl, by kernel_rfl, rfl, rfl⟩
 | 142, i, _, h => Gl (f := Tryz.f142) h ⟨_, Tryz.func142, by kernel_rfl, by kernel_rfl, rfl, rfl⟩
 | 143, i, _, h => Gl (f := Tryz.f143) h ⟨_, Tryz.func143, by kernel_rfl, by kernel_rfl, rfl, rfl⟩
 | 144, i, _, h => nomatch Option.some.inj h
 | 145, i, _, h => nomatch Option.some.inj h
 | 146, i, _, h => Gl (f := Tryz.f146) h ⟨_, Tryz.func146, by kernel_rfl, by kernel_rfl, rfl, rfl⟩
 | 147, i, _, h => nomatch Option.some.inj h
 | 148, i, _, h => nomatch Option.some.inj h
 | 149, i, _, h => nomatch Option.some.inj h
 | 150, i, _, h => Gl (f := Tryz.f150) h ⟨_, Tryz.func150, by kernel_rfl, by kernel_rfl, rfl, rfl⟩
 | 151, i, _, h => Gl (f := Tryz.f151) h ⟨_, Tryz.func151, by kernel_rfl, by kernel_rfl, rfl, rfl⟩
 | n + 152, i, hlt, h => by omega
theorem An8 : ∀ f i, E0.fs f = some i → AkB Tryz.prog E0 f i := by
 intro f i h
 have hl : fss[f]? = some (some i) := by
  have h : (fss[f]?).getD none = some i := h
  cases hl : fss[f]? with
  | none => rw [hl] at h; cases h
  | some o => rw [hl] at h; simp only [zaA] at h; rw [h]
 refine ⟨?_, AcK Amo hl⟩
 have hlt : f < 152 := (zae.1 hl).1
 exact AmF f i hlt hl
theorem An5 : Aaf Tryz.prog E0 J0 := ⟨Ah5, Amm, by kernel_rfl, An8, An7, (fun f q h => by cases h), AgZ⟩
end
section
open Go
variable {β : Type} {n : Nat}
section
variable {k : KO β} {k1 : AV → Option β} {H : Ab}
@[simp] theorem Gg : (PR n β).load = Cz := rfl
@[simp] theorem I7 : (PR n β).store = G9 := rfl
@[simp] theorem Nt : (PR n β).new = AaX := rfl
@[simp] theorem Lm : (PR n β).box = AaW := rfl
@[simp] theorem Kc : (PR n β).newSl = Gx := rfl
@[simp] theorem H4 : (PR n β).fadr = Es := rfl
@[simp] theorem And : (PR n β).fld = Ahm := rfl
@[simp] theorem It : (PR n β).iadr = Dn := rfl
@[simp] theorem Ns : (PR n β).idx = AeI := rfl
@[simp] theorem H5 : (PR n β).lenS = W7 := rfl
@[simp] theorem I6 : (PR n β).len = I5 := rfl
@[simp] theorem I0 : (PR n β).sliceS = Qh := rfl
@[simp] theorem My : (PR n β).slice = Rf := rfl
@[simp] theorem O0 : (PR n β).app = K7 := rfl
@[simp] theorem Ana : (PR n β).appS = W3 := rfl
@[simp] theorem Ez : (PR n β).bin = Ci := rfl
@[simp] theorem Is : (PR n β).binB = Pw := rfl
@[simp] theorem Kv : (PR n β).binA = Qu := rfl
@[simp] theorem Qr : (PR n β).un = pUn := rfl
@[simp] theorem Gh : (PR n β).pick = Nb := rfl
@[simp] theorem Nr : (PR n β).cvI = W5 := rfl
@[simp] theorem Anc : (PR n β).cvSS = Add := rfl
@[simp] theorem Mb : (PR n β).cvBS = Ot := rfl
@[simp] theorem AhK : (PR n β).cvSB = W6 := rfl
@[simp] theorem Acu : (PR n β).extr = Sk := rfl
@[simp] theorem Ane : (PR n β).nil = Ahn := rfl
@[simp] theorem J6 : (PR n β).fill = fun a l k => (I1 a l).bind k := rfl
@[simp] theorem P4 : (PR n β).make = W8 := rfl
@[simp] theorem Fe : (PR n β).guard = Ix := rfl
@[simp] theorem Ee : (PR n β).cond = Ec := rfl
@[simp] theorem Ami : (PR n β).clear = Th := rfl
@[simp] theorem Anb : (PR n β).both = Px := rfl
@[simp] theorem AeU : (PR n β).apart = Re := rfl
@[simp] theorem AhL : (PR n β).same = Sl := rfl
theorem Fa : ((PR n β).load = Cz) ∧ ((PR n β).store = G9) ∧ ((PR n β).new = AaX) ∧ ((PR n β).box = AaW) ∧ ((PR n β).newSl = Gx) ∧ ((PR n β).fadr = Es) ∧ ((PR n β).fld = Ahm) ∧ ((PR n β).iadr = Dn) ∧ ((PR n β).idx = AeI) ∧ ((PR n β).lenS = W7) ∧ ((PR n β).len = I5) ∧ ((PR n β).sliceS = Qh) ∧ ((PR n β).slice = Rf) ∧ ((PR n β).app = K7) ∧ ((PR n β).appS = W3) ∧ ((PR n β).bin = Ci) ∧ ((PR n β).binB = Pw) ∧ ((PR n β).binA = Qu) ∧ ((PR n β).un = pUn) ∧ ((PR n β).pick = Nb) ∧ ((PR n β).cvI = W5) ∧ ((PR n β).cvSS = Add) ∧ ((PR n β).cvBS = Ot) ∧ ((PR n β).cvSB = W6) ∧ ((PR n β).extr = Sk) ∧ ((PR n β).nil = Ahn) ∧ ((PR n β).fill = fun a l k => (I1 a l).bind k) ∧ ((PR n β).make = W8) ∧ ((PR n β).guard = Ix) ∧ ((PR n β).cond = Ec) ∧ ((PR n β).clear = Th) ∧ ((PR n β).both = Px) ∧ ((PR n β).apart = Re) ∧ ((PR n β).same = Sl) := ⟨rfl, rfl, rfl, rfl, rfl, rfl, rfl, rfl, rfl, rfl, rfl, rfl, rfl, rfl, rfl, rfl, rfl, rfl, rfl, rfl, rfl, rfl, rfl, rfl, rfl, rfl, rfl, rfl, rfl, rfl, rfl, rfl, rfl, rfl⟩
theorem E9 : (∀ (p : Pr β) (c : AV) (H : Ab) (m : (AV → Option β) → Option β) k, p.gT c H m k = p.guard c true H (fun k' => m fun t' => k' t' H) k) ∧ (∀ (p : Pr β) (c : AV) (H : Ab) (m : (KO β) → Option β) k, p.hT c H m k = p.guard c true H (fun k' => m fun t' H => k' t' H) k) ∧ (∀ (p : Pr β) (c : AV) (H : Ab) (v : AV) k, p.kT c H v k = p.guard c true H (fun k' => k' v H) k) ∧ (∀ (p : Pr β) (c : AV) (H : Ab) (m : (AV → Option β) → Option β) k, p.gF c H m k = p.guard c false H (fun k' => m fun t' => k' t' H) k) ∧ (∀ (p : Pr β) (c : AV) (H : Ab) (m : (KO β) → Option β) k, p.hF c H m k = p.guard c false H (fun k' => m fun t' H => k' t' H) k) ∧ (∀ (p : Pr β) (c : AV) (H : Ab) (v : AV) k, p.kF c H v k = p.guard c false H (fun k' => k' v H) k) ∧ (∀ (p : Pr β) i t n H k, p.fl i t n H k = p.fadr i t fun x => p.load false n x H k) ∧ (∀ (p : Pr β) i t n v H k, p.fs i t n v H k = p.fadr i t fun x => p.store n x v H k) ∧ (∀ (p : Pr β) y f l H k, p.ca y f l H k = p.call y (.fn f [] []) l H k) ∧ (∀ (p : Pr β) c H i t n k, p.lT c H i t n k = p.guard c true H (fun k' => p.fadr i t fun x => k' x H) fun x H => p.guard c true H (fun k' => p.load false n x H fun x => k' x H) k) ∧ (∀ (p : Pr β) c H i t n k, p.lF c H i t n k = p.guard c false H (fun k' => p.fadr i t fun x => k' x H) fun x H => p.guard c false H (fun k' => p.load false n x H fun x => k' x H) k) := ⟨fun _ _ _ _ _ => rfl, fun _ _ _ _ _ => rfl, fun _ _ _ _ _ => rfl, fun _ _ _ _ _ => rfl, fun _ _ _ _ _ => rfl, fun _ _ _ _ _ => rfl, fun _ _ _ _ _ _ => rfl, fun _ _ _ _ _ _ _ => rfl, fun _ _ _ _ _ _ => rfl, fun _ _ _ _ _ _ _ => rfl, fun _ _ _ _ _ _ _ => rfl⟩
noncomputable def F3 (f : Nat) : Bool := E0.hm f || (E0.ext f).isSome
theorem AaZ {f : Nat} (h : F3 f = false) : E0.hm f = false := by
 unfold F3 at h
 simp only [Bool.or_eq_false_iff] at h
 exact h.1
theorem Y7 {f : Nat} (h : F3 f = false) : E0.ext f = none := by
 unfold F3 at h
 simp only [Bool.or_eq_false_iff] at h
 simpa using h.2
theorem Kw {ty : Nat} {f : FuncId} {args vs : List AV} {t : AV} (hh : F3 f = false) (hv : args.mapM (Dm H 8) = some vs) (ht : C0 E0 n ty f vs = some t) :
  (PR n β).call ty (.fn f [] []) args H k = k (B5 As E0.tp H.length ty t).1 (H ++ (B5 As E0.tp H.length ty t).2) := by
 show Mf E0 (Eh E0 n) ty f ([] ++ args ++ []) H k = _
 simp only [Mf, Y7 hh, AaZ hh, zal, zap, zaa, if_false, Aas, hv, zac]
 have ht : Tp E0 (Eh E0 n) ty f vs = some t := ht
 rw [ht]
 rfl
theorem Abq {ty : Nat} {f : FuncId} {g : Nat → List AV → Option AV} {args vs : List AV} {t : AV} (hg : E0.ext f = some g) (hv : args.mapM (Dm H 8) = some vs) (ht : g ty vs = some t) :
  (PR n β).call ty (.fn f [] []) args H k = k (B5 As E0.tp H.length ty t).1 (H ++ (B5 As E0.tp H.length ty t).2) := by
 show Mf E0 (Eh E0 n) ty f ([] ++ args ++ []) H k = _
 simp only [Mf, hg, zal, zap, Ac0, hv, zac, ht]
 rfl
end
theorem A7 (n ty : Nat) (f : FuncId) (args : List AV) : C0 E0 n ty f args = Eh E0 n AV f args [] fun x H => A8 As E0.tp ty H x := rfl
@[simp] theorem AlW {ti : Nat → Option TI} {tp : Nat → Option (List Nat)} (ty : Nat) (H : Ab) (v : Value) : A8 ti tp ty H (.sc v) = some (.sc v) := rfl
theorem Jg {ti : Nat → Option TI} {tp : Nat → Option (List Nat)} {H : Ab} {d ty id off n z : Nat} : C9 ti tp H (d + 1) ty (.sl id off n z) = (ti ty).bind fun i => (ti i.elem).bind fun j => if z = j.size then (if Js H id then (Be H id off (n * z)).bind fun cs => (D7 (C9 ti tp H d) (zai n j.cty).flatten cs).bind fun q => some (.ro n q.1, id :: q.2) else none) else none := rfl
theorem Jf {ti : Nat → Option TI} {tp : Nat → Option (List Nat)} {H : Ab} {d ty : Nat} {cs : List AV} : C9 ti tp H (d + 1) ty (.agg cs) = (ti ty).bind fun i => (D7 (C9 ti tp H d) i.cty cs).bind fun q => some (.agg q.1, q.2) := rfl
theorem Kg {ti : Nat → Option TI} {tp : Nat → Option (List Nat)} {H : Ab} {d ty : Nat} {cs : List AV} : C9 ti tp H (d + 1) ty (.tup cs) = (tp ty).bind fun ts => (D7 (C9 ti tp H d) ts cs).bind fun q => some (.tup q.1, q.2) := rfl
theorem Z5 {ti : Nat → Option TI} {tp : Nat → Option (List Nat)} {H : Ab} {d ty : Nat} {v : Value} : C9 ti tp H (d + 1) ty (.sc v) = some (.sc v, []) := rfl
theorem Hw {ti : Nat → Option TI} {tp : Nat → Option (List Nat)} {n ty : Nat} {v : Value} : B5 ti tp n ty (.sc v) = (.sc v, []) := rfl
theorem M5 {ti : Nat → Option TI} {tp : Nat → Option (List Nat)} {n ty : Nat} {cs : List AV} : B5 ti tp n ty (.agg cs) = (.agg (Bq ti tp n ((ti ty).getD default).cty cs).1, (Bq ti tp n ((ti ty).getD default).cty cs).2) := rfl
theorem S8 {ti : Nat → Option TI} {tp : Nat → Option (List Nat)} {n ty : Nat} {cs : List AV} : B5 ti tp n ty (.tup cs) = (.tup (Bq ti tp n ((tp ty).getD []) cs).1, (Bq ti tp n ((tp ty).getD []) cs).2) := rfl
theorem Sx {H : Ab} {d id off n z : Nat} : Dm H (d + 1) (.sl id off n z) = (Be H id off (n * z)).bind fun cs => (cs.mapM (Dm H d)).bind fun vs => some (.ro n vs) := rfl
theorem Ni {H : Ab} {d : Nat} {cs : List AV} : Dm H (d + 1) (.agg cs) = (cs.mapM (Dm H d)).bind fun vs => some (.agg vs) := rfl
theorem AhB {H : Ab} {d n : Nat} {cs : List AV} : Dm H (d + 1) (.ro n cs) = some (.ro n cs) := rfl
theorem AcY {H : Ab} {d : Nat} : ∀ (l : List Value), (l.map AV.sc).mapM (Dm H (d + 1)) = some (l.map AV.sc)
 | [] => rfl
 | x :: l => by
  have e : Dm H (d + 1) (.sc x) = some (.sc x) := rfl
  simp only [zaq, zaF, e, zaW, zaJ, zac, AcY l]
theorem Adc {ti : Nat → Option TI} {tp : Nat → Option (List Nat)} {H : Ab} {d : Nat} : ∀ (ts : List Nat) (l : List Value), ts.length = l.length → D7 (C9 ti tp H (d + 1)) ts (l.map AV.sc) = some (l.map AV.sc, [])
 | [], [], _ => rfl
 | t :: ts, x :: l, h => by
  have e : C9 ti tp H (d + 1) t (.sc x) = some (.sc x, []) := rfl
  simp only [zaq, D7, e, zac, Adc ts l (by simpa using h), zap]
 | [], _ :: _, h => by simp at h
 | _ :: _, [], h => by simp at h
def bv (s : ByteArray) : List Value := s.data.toList.map fun b => .int .u8 b.toNat
theorem Aby (s : ByteArray) : Bg s = (bv s).map AV.sc := by simp [Bg, bv]
theorem Ew (s : ByteArray) : (Bg s).length = s.size := by simp [Bg]
theorem Zg (s : ByteArray) : (Bg s).all Bk = true := by
 simp only [Bg, List.all_map, za4]
 intro b _
 rfl
theorem Kx : ∀ (l : List UInt8), (l.map fun b => AV.sc (.int .u8 (b.toNat : Int))).mapM Kl = some l
 | [] => rfl
 | b :: l => by
  have e : Kl (.sc (.int .u8 (b.toNat : Int))) = some b := by simp [Kl]
  simp only [zaq, zaF, e, Kx l, zaW, zaJ, zac]
end
section
open Go
section gen
variable {ti : Nat → Option TI} {tp : Nat → Option (List Nat)}
def G7 (f : Nat → AV → Prop) : List Nat → List AV → Prop
 | [], [] => True
 | t :: ts, x :: xs => f t x ∧ G7 f ts xs
 | _, _ => False
def H8 (ti : Nat → Option TI) (tp : Nat → Option (List Nat)) : Nat → Nat → AV → Prop
 | 0, _, _ => False
 | d + 1, ty, x =>
  match x with
  | .sc _ => True
  | .ro n cells => ∃ i j, ti ty = some i ∧ ti i.elem = some j ∧ cells.length = n * j.size ∧ G7 (H8 ti tp d) (zai n j.cty).flatten cells
  | .agg cs => ∃ i, ti ty = some i ∧ G7 (H8 ti tp d) i.cty cs
  | .tup cs => ∃ ts, tp ty = some ts ∧ G7 (H8 ti tp d) ts cs
  | _ => False
theorem AaP {f : Nat → AV → Prop} : ∀ {ts : List Nat} {cs : List AV}, G7 f ts cs → ts.length = cs.length
 | [], [], _ => rfl
 | _ :: ts, _ :: cs, h => by rw [zam, zam, AaP h.2]
theorem Pn {f : Nat → AV → Prop} : ∀ {ts : List Nat} {cs : List AV} {ts' : List Nat} {cs' : List AV}, G7 f ts cs → G7 f ts' cs' → G7 f (ts ++ ts') (cs ++ cs')
 | [], [], _, _, _, h => h
 | _ :: ts, _ :: cs, _, _, h, h' => ⟨h.1, Pn h.2 h'⟩
theorem Te {α : Type} {f : Nat → AV → Prop} {cty : List Nat} {enc : α → List AV} : ∀ (l : List α), (∀ x ∈ l, G7 f cty (enc x)) → G7 f (zai l.length cty).flatten (l.map enc).flatten
 | [], _ => by simp [G7]
 | x :: l, h => by
  rw [zam, zbb, zaz, zaq, zaz]
  exact Pn (h x zay) (Te l fun y hy => h y (zat _ hy))
theorem Po {f g : Nat → AV → Prop} (hfg : ∀ t x, f t x → g t x) : ∀ {ts : List Nat} {cs : List AV}, G7 f ts cs → okL g ts cs
 | [], [], _ => trivial
 | _ :: ts, _ :: cs, h => ⟨hfg _ _ h.1, Po hfg h.2⟩
theorem Pq : ∀ (d : Nat) (ty : Nat) (x : AV), H8 ti tp d ty x → AaR ti tp d ty x
 | 0, _, _, h => h
 | d + 1, ty, x, h => by
  cases x with
  | sc v => trivial
  | ro n cells =>
   obtain ⟨i, j, h1, h2, h3, h4⟩ := h
   show cells.length = n * (((ti ty).bind fun i => ti i.elem).getD default).size ∧ _
   simp only [h1, zac, h2, zaA]
   exact ⟨h3, Po (Pq d) h4⟩
  | agg cs =>
   obtain ⟨i, h1, h2⟩ := h
   show okL _ ((ti ty).getD default).cty cs
   rw [h1]
   exact Po (Pq d) h2
  | tup cs =>
   obtain ⟨ts, h1, h2⟩ := h
   show okL _ ((tp ty).getD []) cs
   rw [h1]
   exact Po (Pq d) h2
  | _ => cases h
theorem Tg {H : Ab} {d : Nat} (hd : ∀ ty t N, H8 ti tp d ty t → Lies H N (B5 ti tp N ty t).2 → (∀ b ∈ (B5 ti tp N ty t).2, b.live = true ∧ b.app = true) → C9 ti tp H d ty (B5 ti tp N ty t).1 = some (t, List.range' N (B5 ti tp N ty t).2.length)) :
  ∀ (ts : List Nat) (cs : List AV) (N : Nat), G7 (H8 ti tp d) ts cs → Lies H N (Bq ti tp N ts cs).2 → (∀ b ∈ (Bq ti tp N ts cs).2, b.live = true ∧ b.app = true) → D7 (C9 ti tp H d) ts (Bq ti tp N ts cs).1 = some (cs, List.range' N (Bq ti tp N ts cs).2.length)
 | [], [], N, _, _, _ => rfl
 | t :: ts, x :: cs, N, h, hl, hb => by
  simp only [Bq, List.headD_cons, List.tail_cons] at hl hb ⊢
  have h1 := hd t x N h.1 hl.left fun b hb' => hb b (za8 _ hb')
  have h2 := Tg hd ts cs _ h.2 hl.right fun b hb' => hb b (zaE _ hb')
  have e := List.range'_append (s := N) (m := (B5 ti tp N t x).2.length) (n := (Bq ti tp (N + (B5 ti tp N t x).2.length) ts cs).2.length) (step := 1)
  rw [Nat.one_mul] at e
  simp only [D7, h1, h2, zac, zad, e]
mutual
theorem AeA : ∀ (x : AV) (N ty : Nat), ∀ b ∈ (B5 ti tp N ty x).2, b.live = true ∧ b.app = true
 | .sc v, N, ty => by intro b h; cases h
 | .ro n cells, N, ty => by
  intro b h
  simp only [B5, zbF] at h
  rcases h with rfl | h
  ·exact ⟨rfl, rfl⟩
  ·exact Hu cells _ _ b h
 | .agg cs, N, ty => fun b h => Hu cs _ _ b h
 | .tup cs, N, ty => fun b h => Hu cs _ _ b h
 | .any, N, ty => by intro b h; cases h
 | .nl, N, ty => by intro b h; cases h
 | .sl .., N, ty => by intro b h; cases h
 | .ptr .., N, ty => by intro b h; cases h
 | .rp .., N, ty => by intro b h; cases h
 | .fn .., N, ty => by intro b h; cases h
theorem Hu : ∀ (cs : List AV) (N : Nat) (ts : List Nat), ∀ b ∈ (Bq ti tp N ts cs).2, b.live = true ∧ b.app = true
 | [], N, ts => by intro b h; cases h
 | x :: cs, N, ts => by
  intro b h
  simp only [Bq, zaQ] at h
  rcases h with h | h
  ·exact AeA x _ _ b h
  ·exact Hu cs _ _ b h
end
theorem Si {H : Ab} : ∀ (d ty : Nat) (t : AV) (N : Nat), H8 ti tp d ty t → Lies H N (B5 ti tp N ty t).2 → C9 ti tp H d ty (B5 ti tp N ty t).1 = some (t, List.range' N (B5 ti tp N ty t).2.length)
 | 0, _, _, _, h, _ => by cases h
 | d + 1, ty, t, N, h, hl => by
  have ih := Tg (H := H) (d := d) (ti := ti) (tp := tp) (fun ty t N h h' _ => Si d ty t N h h')
  cases t with
  | sc v => rfl
  | ro n cells =>
   obtain ⟨i, j, h1, h2, h3, h4⟩ := h
   have e : B5 ti tp N ty (.ro n cells) = (.sl N 0 n j.size, ⟨(Bq ti tp (N + 1) (zai n j.cty).flatten cells).1, true, true⟩ :: (Bq ti tp (N + 1) (zai n j.cty).flatten cells).2) := by
    simp only [B5, h1, zac, h2, zaA]
   rw [e] at hl ⊢
   have hb := hl 0 _ rfl
   rw [zaM] at hb
   have hv := ih (zai n j.cty).flatten cells (N + 1) h4 hl.tail (Hu _ _ _)
   have hlen := M4 (ti := ti) (tp := tp) (N + 1) (zai n j.cty).flatten cells
   have e2 : Be H N 0 (n * j.size) = some (Bq ti tp (N + 1) (zai n j.cty).flatten cells).1 := by
    simp only [Be, hb, if_true, zaL, za1]
    rw [if_pos (by rw [hlen, h3]; exact zan _), ← h3, ← hlen, zaC]
   have e3 : Js H N = true := by simp only [Js, hb]
   rw [Jg]
   simp only [h1, h2, zac, if_true, e2, e3, hv, zam]
   rw [List.range'_succ]
  | agg cs =>
   obtain ⟨i, h1, h2⟩ := h
   have e : B5 ti tp N ty (.agg cs) = (.agg (Bq ti tp N i.cty cs).1, (Bq ti tp N i.cty cs).2) := by rw [M5, h1]; rfl
   rw [e] at hl ⊢
   rw [Jf]
   simp only [h1, zac, ih i.cty cs N h2 hl (Hu _ _ _)]
  | tup cs =>
   obtain ⟨ts, h1, h2⟩ := h
   have e : B5 ti tp N ty (.tup cs) = (.tup (Bq ti tp N ts cs).1, (Bq ti tp N ts cs).2) := by rw [S8, h1]; rfl
   rw [e] at hl ⊢
   rw [Kg]
   simp only [h1, zac, ih ts cs N h2 hl (Hu _ _ _)]
  | _ => cases h
theorem Acs (A B X : List Jm) : Lies (A ++ B ++ X) A.length B := fun j b hj => by
 have hlt := (zae.1 hj).1
 rw [zaf, zaj (by omega), zbh, zak hlt]
 exact hj
theorem Rj (A B : List Jm) : Lies (A ++ B) A.length B := by
 have := Acs A B []
 rwa [zap] at this
theorem Aj3 (A : List Jm) (ty : Nat) (t : AV) (h : H8 ti tp 8 ty t) : A8 ti tp ty (A ++ (B5 ti tp A.length ty t).2) (B5 ti tp A.length ty t).1 = some t := by
 rw [A8, Si 8 ty t A.length h (Rj _ _)]
 simp only [zac]
 rw [if_pos (List.nodup_range')]
def Vw (H : Ab) (x v : AV) : Prop := ∀ X : List Jm, Dm (H ++ X) 8 x = some v
theorem Vw.grow {H : Ab} {x v : AV} (h : Vw H x v) (X : List Jm) : Vw (H ++ X) x v := fun Y => by
 rw [zaf]
 exact h _
theorem Vw.now {H : Ab} {x v : AV} (h : Vw H x v) : Dm H 8 x = some v := by
 have := h []
 rwa [zap] at this
theorem Jr (H : Ab) (v : Value) : Vw H (.sc v) (.sc v) := fun _ => rfl
theorem Id (H : Ab) (n : Nat) (cs : List AV) : Vw H (.ro n cs) (.ro n cs) := fun _ => rfl
def R4 : AV → Bool
 | .sc v => Oo v
 | .ro _ _ => true
 | _ => false
theorem AiZ {cs : List AV} (h : cs.all R4 = true) : cs.all Bk = true := by
 rw [za4] at h ⊢
 intro x hx
 have := h x hx
 cases x <;> simp_all [R4, Bk]
theorem Aa9 {cs : List AV} (h : cs.all R4 = true) : F1 (.agg cs) = some cs := by
 show (if cs.all Bk then some cs else none) = _
 rw [if_pos (AiZ h)]
theorem Zr {H : Ab} {d : Nat} : ∀ {cs : List AV}, cs.all R4 = true → cs.mapM (Dm H (d + 1)) = some cs
 | [], _ => rfl
 | x :: cs, h => by
  rw [zax, zag] at h
  have e : Dm H (d + 1) x = some x := by
   have := h.1
   cases x <;> first | rfl | (exfalso; simp [R4] at this)
  simp only [zaF, e, Zr h.2, zaW, zaJ, zac]
theorem AkC (H : Ab) {cs : List AV} (h : cs.all R4 = true) : Vw H (.agg cs) (.agg cs) := fun X => by
 rw [Ni, Zr h]
 rfl
theorem N8 : ∀ (ts : List Nat) (cs : List AV) (ts' : List Nat) (cs' : List AV) (N : Nat), ts.length = cs.length →
  Bq ti tp N (ts ++ ts') (cs ++ cs') = ((Bq ti tp N ts cs).1 ++ (Bq ti tp (N + (Bq ti tp N ts cs).2.length) ts' cs').1, (Bq ti tp N ts cs).2 ++ (Bq ti tp (N + (Bq ti tp N ts cs).2.length) ts' cs').2)
 | [], [], ts', cs', N, _ => by simp [Bq]
 | t :: ts, x :: cs, ts', cs', N, h => by
  have ih := N8 ts cs ts' cs' (N + (B5 ti tp N t x).2.length) (by simpa using h)
  simp only [zau, Bq, List.headD_cons, List.tail_cons, ih, zad, zaf, za9]
end gen
section ops
variable {β : Type}
theorem N7 (w len : Nat) (cells : List AV) (i : Nat) (k : AV → Option β) (h : i < len) (h2 : i * w < cells.length) : Dn w (.ro len cells) (.sc (.int .i64 i)) k = k (.rp (cells.drop (i * w))) := by
 simp only [Dn, asI, zac, zbl]
 rw [if_pos ⟨by omega, by omega⟩, if_pos h2]
theorem Zy (w len id off : Nat) (i : Nat) (k : AV → Option β) (h : i < len) : Dn w (.sl id off len w) (.sc (.int .i64 i)) k = k (.ptr id (off + i * w)) := by
 simp only [Dn, asI, zac, zbl, if_true]
 rw [if_pos ⟨by omega, by omega⟩]
theorem AaH (w : Nat) (cs r : List AV) (H : Ab) (k : AV → Option β) (h : cs.length = w) : Cz true w (.rp (cs ++ r)) H k = k (.agg cs) := by
 simp only [Cz, zad, h, Nat.le_add_right, if_true, List.take_left' h]
theorem Pj (c : AV) (r : List AV) (H : Ab) (k : AV → Option β) : Cz false 1 (.rp (c :: r)) H k = k c := by
 simp only [Cz, zam, Nat.le_add_left, if_true, zaa, if_false]
 rfl
theorem Ah3 (w id off : Nat) (y : AV) (b : Jm) (cs : List AV) (H : Ab) (k : Ab → Option β) (h : H[id]? = some b) (hc : F1 y = some cs) (hl : cs.length = w) (ho : off + w ≤ b.cells.length) (hb : b.live = true) : G9 w (.ptr id off) y H k = k (H.set id { b with cells := Ha b.cells off cs }) := by
 simp only [G9, h, hc, zac, hb, if_true, hl, ho]
theorem Xo (A z C cs : List AV) (h : z.length = cs.length) : Ha (A ++ (z ++ C)) A.length cs = A ++ (cs ++ C) := by
 unfold Ha
 rw [List.take_left' rfl, ← zaf A z C, zaD (by rw [zad]; omega), ← h, ← zad, zbq, zal, zaf]
theorem G5 (a b : Nat) (k : AV → Option β) : Ci .lss (.sc (.int .i64 a)) (.sc (.int .i64 b)) k = k (.sc (.bool (decide (a < b)))) := by
 show k (.sc (.bool (decide ((a : Int) < (b : Int))))) = _
 rw [show decide ((a : Int) < (b : Int)) = decide (a < b) from by simp]
theorem G4 (a : Nat) (k : AV → Option β) (h : a < 9223372036854775807) : Ci .add (.sc (.int .i64 a)) (.sc (.int .i64 1)) k = k (.sc (.int .i64 (a + 1 : Nat))) := by
 show k (.sc (.int .i64 (IntKind.i64.wrap ((a : Int) + 1)))) = _
 have e : IntKind.i64.wrap ((a : Int) + 1) = ((a + 1 : Nat) : Int) := by
  rw [IntKind.wrap_i64, Int.natCast_add]
  simp only [Int.cast_ofNat_Int]
  omega
 rw [e]
theorem Do (b : Bool) (x y : Option β) : Ec (.sc (.bool b)) x y = if b then x else y := rfl
theorem Gc (n : Nat) (cs : List AV) (k : AV → Option β) : I5 (.ro n cs) k = k (.sc (.int .i64 n)) := rfl
theorem H3 (n : Int) (h0 : -9223372036854775808 ≤ n) (h1 : n ≤ 9223372036854775807) : IntKind.i64.wrap n = n := by
 rw [IntKind.wrap_i64]; omega
theorem Xq (a b : Int) (k : AV → Option β) (h0 : -9223372036854775808 ≤ a - b) (h1 : a - b ≤ 9223372036854775807) : Ci .sub (.sc (.int .i64 a)) (.sc (.int .i64 b)) k = k (.sc (.int .i64 (a - b))) := by
 show k (.sc (.int .i64 (IntKind.i64.wrap (a - b)))) = _
 rw [H3 _ h0 h1]
theorem Wu (a b : Int) (k : AV → Option β) : Ci .lss (.sc (.int .i64 a)) (.sc (.int .i64 b)) k = k (.sc (.bool (decide (a < b)))) := rfl
theorem Adw {α : Type} {w : Nat} {enc : α → List AV} (hw : ∀ x, (enc x).length = w) (pre r : List α) : ((pre ++ r).map enc).flatten.drop (pre.length * w) = (r.map enc).flatten := by
 have hl : ((pre.map enc).flatten).length = pre.length * w := by
  induction pre with
  | nil => simp
  | cons x pre ih => rw [zaq, zaz, zad, ih, hw, zam, zbs, zbD]
 rw [za3, zbm, zaD (by omega), ← hl, zbq, zal]
theorem Xd {α : Type} {w : Nat} {enc : α → List AV} (hw : ∀ x, (enc x).length = w) (l : List α) : ((l.map enc).flatten).length = l.length * w := by
 induction l with
 | nil => simp
 | cons x l ih => rw [zaq, zaz, zad, ih, hw, zam, zbs, zbD]
theorem Ac1 {α : Type} {w : Nat} {enc : α → List AV} (hw : ∀ x, (enc x).length = w) (h0 : 0 < w) (pre : List α) (x : α) (r : List α) (k : AV → Option β) :
  Dn w (.ro (pre ++ x :: r).length ((pre ++ x :: r).map enc).flatten) (.sc (.int .i64 pre.length)) k = k (.rp (enc x ++ (r.map enc).flatten)) := by
 have hl := Xd hw (pre ++ x :: r)
 have h1 : pre.length < (pre ++ x :: r).length := by simp
 rw [N7 w _ _ pre.length k h1 (by rw [hl]; exact Nat.mul_lt_mul_of_pos_right h1 h0), Adw hw pre (x :: r), zaq, zaz]
theorem Yp {α : Type} {n : Nat} (e : α → Value) (k : KO β) (z : AV) (hlf : ∀ x, Oo (e x) = true) (L : Nat → AV → AV → KO β)
  (hL : ∀ m a o i H, L (m + 1) a o i H = I5 a fun t10 => Ci .lss i t10 fun t11 => Ec t11 (Dn 1 a i fun t18 => Cz false 1 t18 H fun t19 => Dn 1 o i fun t21 => G9 1 t21 t19 H fun H => Ci .add i (.sc (.int .i64 1)) fun t13 => L m a o t13 H) (k o H))
  (l : List α) (hlen : l.length ≤ 1048576) : ∀ (r pre : List α) (m : Nat), l = pre ++ r → r.length < m →
   L m (.ro l.length (l.map fun x => .sc (e x))) (.sl 0 0 l.length 1) (.sc (.int .i64 pre.length)) [⟨(pre.map fun x => .sc (e x)) ++ zai r.length z, true, true⟩]
    = k (.sl 0 0 l.length 1) [⟨l.map fun x => .sc (e x), true, true⟩]
 | [], pre, m + 1, hl, hm => by
  rw [zap] at hl
  subst hl
  rw [hL, Gc, G5, Do]
  simp
 | x :: r, pre, m + 1, hl, hm => by
  have hlt : pre.length < l.length := by rw [hl]; simp
  rw [hL, Gc, G5, Do, if_pos (by simpa using hlt)]
  rw [N7 1 _ _ pre.length _ hlt (by simpa using hlt)]
  have hd : (l.map fun x => AV.sc (e x)).drop (pre.length * 1) = .sc (e x) :: r.map fun x => .sc (e x) := by
   rw [zbw, hl, za3, zaD (by simp)]
   rw [show pre.length = (pre.map fun x => AV.sc (e x)).length by simp, zbq]
   rfl
  rw [hd, Pj, Zy 1 _ _ _ _ _ hlt]
  have hc : F1 (.sc (e x)) = some [.sc (e x)] := by
   show F1 (.sc (e x)) = _
   simp only [F1, Bk, hlf, if_true]
  rw [Ah3 1 0 (0 + pre.length * 1) (.sc (e x)) ⟨(pre.map fun x => .sc (e x)) ++ zai (x :: r).length z, true, true⟩ [.sc (e x)] _ _ rfl hc rfl (by simp) rfl]
  rw [List.set_cons_zero, G4 _ _ (by omega)]
  have ih := Yp (n := n) e k z hlf L hL l hlen r (pre ++ [x]) m (by rw [hl]; simp) (by simpa using hm)
  have e3 : Ha ((pre.map fun x => AV.sc (e x)) ++ zai (x :: r).length z) (0 + pre.length * 1) [.sc (e x)] = ((pre ++ [x]).map fun x => AV.sc (e x)) ++ zai r.length z := by
   have := Xo (pre.map fun x => AV.sc (e x)) [z] (zai r.length z) [.sc (e x)] rfl
   rw [zbG] at this
   rw [zam, zbb, za1, zbw]
   refine this.trans ?_
   simp
  simp only [e3]
  rw [zad, zas] at ih
  exact ih
theorem AjN {α : Type} {n tyS f bytes : Nat} (e : α → Value) (z : AV) (hlf : ∀ x, Oo (e x) = true) (hty : ∃ i j, As tyS = some i ∧ As i.elem = some j ∧ j.size = 1 ∧ j.cty.length = 1) (L : (AV → Ab → Option AV) → Nat → AV → AV → AV → Ab → Option AV)
  (hL : ∀ k m a o i H, L k (m + 1) a o i H = I5 a fun t10 => Ci .lss i t10 fun t11 => Ec t11 (Dn 1 a i fun t18 => Cz false 1 t18 H fun t19 => Dn 1 o i fun t21 => G9 1 t21 t19 H fun H => Ci .add i (.sc (.int .i64 1)) fun t13 => L k m a o t13 H) (k o H))
  (hF : ∀ a H k, Eh E0 (n + 1) AV f [a] H k = I5 a fun t6 => W8 1 bytes [z] t6 t6 H fun t7 H => L k n a t7 (.sc (.int .i64 0)) H)
  (hby : bytes ≤ 134217728) (l : List α) (hlen : l.length ≤ 1048576) (hn : 1048576 < n) :
  C0 E0 (n + 1) tyS f [.ro l.length (l.map fun x => .sc (e x))] = some (.ro l.length (l.map fun x => .sc (e x))) := by
 rw [A7, hF, Gc]
 have hb : l.length * bytes ≤ 140737488355328 := za5 (Nat.mul_le_mul hlen hby) (by decide)
 have hz : (zai l.length [z]).flatten = zai l.length z := by
  generalize l.length = m
  induction m with
  | zero => rfl
  | succ m ih => rw [zbb, zaz, ih, zbb]; rfl
 simp only [W8, asI, zac, if_true, zbl, hb, Int.natCast_nonneg, Gx, zaw, zal, hz]
 have key := Yp (n := n) e (fun x H => A8 As E0.tp tyS H x) z hlf _ (hL _) l hlen l [] n (by simp) (by omega)
 simp only [zaw, zaB, zal, zaR] at key
 refine key.trans ?_
 obtain ⟨i, j, h1, h2, h3, h4⟩ := hty
 have em : (l.map fun x => AV.sc (e x)) = (l.map e).map AV.sc := by rw [zbI]; rfl
 have hl1 : (zai l.length j.cty).flatten.length = (l.map e).length := by simp [h4]
 have e3 := Adc (ti := As) (tp := E0.tp) (H := [⟨l.map fun x => AV.sc (e x), true, true⟩]) (d := 6) _ _ hl1
 have e2 : Be [⟨l.map fun x => AV.sc (e x), true, true⟩] 0 0 (l.length * 1) = some (l.map fun x => AV.sc (e x)) := by
  simp [Be, List.take_of_length_le]
 rw [A8, Jg]
 simp only [h1, h2, h3, zac, if_true, e2, Js, zaX]
 rw [em] at e3 ⊢
 rw [e3]
 rfl
theorem Ac3 {α : Type} {n tb g w : Nat} (enc : α → List AV) (k : KO β) (hw : ∀ x, (enc x).length = w) (h0 : 0 < w) (hfl : ∀ x, (enc x).all R4 = true) (hh : F3 g = false) (L : Nat → AV → AV → KO β)
  (hL : ∀ m a b i H, L (m + 1) a b i H = I5 a fun t13 => Ci .lss i t13 fun t14 => Ec t14 (Dn w a i fun t19 => Cz true w t19 H fun t20 => Dn w b i fun t23 => Cz true w t23 H fun t24 => (PR n β).call tb (.fn g [] []) [t20, t24] H fun t25 H => pUn .not t25 fun t26 => Ec t26 (k (.sc (.bool false)) H) (Ci .add i (.sc (.int .i64 1)) fun t16 => L m a b t16 H)) (k (.sc (.bool true)) H))
  (l : List α) (heq : ∀ x ∈ l, C0 E0 n tb g [.agg (enc x), .agg (enc x)] = some (.sc (.bool true))) (hlen : l.length ≤ 1048576) (H : Ab) : ∀ (r pre : List α) (m : Nat), l = pre ++ r → r.length < m →
   L m (.ro l.length (l.map enc).flatten) (.ro l.length (l.map enc).flatten) (.sc (.int .i64 pre.length)) H = k (.sc (.bool true)) H
 | [], pre, m + 1, hl, hm => by
  rw [zap] at hl
  subst hl
  rw [hL, Gc, G5, Do]
  simp
 | x :: r, pre, m + 1, hl, hm => by
  have hlt : pre.length < l.length := by rw [hl]; simp
  rw [hL, Gc, G5, Do, if_pos (by simpa using hlt)]
  have hel := fun k => Ac1 (β := β) hw h0 pre x r k
  rw [← hl] at hel
  rw [hel, AaH w _ _ _ _ (hw x), hel, AaH w _ _ _ _ (hw x)]
  rw [Kw (vs := [.agg (enc x), .agg (enc x)]) hh (by simp only [zaF, (AkC _ (hfl x)).now]; rfl) (heq x (by rw [hl]; simp))]
  rw [Hw]
  simp only [pUn, za0, zap]
  rw [Do, if_neg (by simp), G4 _ _ (by omega)]
  have ih := Ac3 enc k hw h0 hfl hh L hL l heq hlen H r (pre ++ [x]) m (by rw [hl]; simp) (by simpa using hm)
  rw [zad, zas] at ih
  exact ih
theorem Sd (a b : Nat) (k : AV → Option β) : Ci .neq (.sc (.int .i64 a)) (.sc (.int .i64 b)) k = k (.sc (.bool (decide (a ≠ b)))) := by
 show k (.sc (.bool ((a : Int) != (b : Int)))) = _
 congr 3
 by_cases h : a = b
 ·subst h; simp
 ·simp [bne, h]; omega
theorem Aa1 {α : Type} {n tb f g w : Nat} (enc : α → List AV) (hw : ∀ x, (enc x).length = w) (h0 : 0 < w) (hfl : ∀ x, (enc x).all R4 = true) (hh : F3 g = false) (L : (AV → Ab → Option AV) → Nat → AV → AV → AV → Ab → Option AV)
  (hL : ∀ k m a b i H, L k (m + 1) a b i H = I5 a fun t13 => Ci .lss i t13 fun t14 => Ec t14 (Dn w a i fun t19 => Cz true w t19 H fun t20 => Dn w b i fun t23 => Cz true w t23 H fun t24 => (PR n AV).call tb (.fn g [] []) [t20, t24] H fun t25 H => pUn .not t25 fun t26 => Ec t26 (k (.sc (.bool false)) H) (Ci .add i (.sc (.int .i64 1)) fun t16 => L k m a b t16 H)) (k (.sc (.bool true)) H))
  (hF : ∀ a b H k, Eh E0 (n + 1) AV f [a, b] H k = I5 a fun t7 => I5 b fun t9 => Ci .neq t7 t9 fun t10 => Ec t10 (k (.sc (.bool false)) H) (L k n a b (.sc (.int .i64 0)) H))
  (l : List α) (heq : ∀ x ∈ l, C0 E0 n tb g [.agg (enc x), .agg (enc x)] = some (.sc (.bool true))) (hlen : l.length ≤ 1048576) (hn : 1048576 < n) (tb' : Nat) :
  C0 E0 (n + 1) tb' f [.ro l.length (l.map enc).flatten, .ro l.length (l.map enc).flatten] = some (.sc (.bool true)) := by
 rw [A7, hF, Gc, Gc, Sd, Do, if_neg (by simp)]
 have key := Ac3 (n := n) (tb := tb) (g := g) enc (fun x H => A8 As E0.tp tb' H x) hw h0 hfl hh (L fun x H => A8 As E0.tp tb' H x) (hL fun x H => A8 As E0.tp tb' H x) l heq hlen [] l [] n (by simp) (by omega)
 simp only [zaw, zaR] at key
 rw [key]
 rfl
theorem Aa2 {α : Type} {n : Nat} (e : α → Value) (k : KO β) (hne : ∀ (x : α) (γ : Type) (k : AV → Option γ), Ci .neq (.sc (e x)) (.sc (e x)) k = k (.sc (.bool false))) (L : Nat → AV → AV → KO β)
  (hL : ∀ m a b i H, L (m + 1) a b i H = I5 a fun t13 => Ci .lss i t13 fun t14 => Ec t14 (Dn 1 a i fun t19 => Cz false 1 t19 H fun t20 => Dn 1 b i fun t23 => Cz false 1 t23 H fun t24 => Ci .neq t20 t24 fun t25 => Ec t25 (k (.sc (.bool false)) H) (Ci .add i (.sc (.int .i64 1)) fun t16 => L m a b t16 H)) (k (.sc (.bool true)) H))
  (l : List α) (hlen : l.length ≤ 1048576) (H : Ab) : ∀ (r pre : List α) (m : Nat), l = pre ++ r → r.length < m →
   L m (.ro l.length (l.map fun x => .sc (e x))) (.ro l.length (l.map fun x => .sc (e x))) (.sc (.int .i64 pre.length)) H = k (.sc (.bool true)) H
 | [], pre, m + 1, hl, hm => by
  rw [zap] at hl
  subst hl
  rw [hL, Gc, G5, Do]
  simp
 | x :: r, pre, m + 1, hl, hm => by
  have hlt : pre.length < l.length := by rw [hl]; simp
  rw [hL, Gc, G5, Do, if_pos (by simpa using hlt)]
  have hd : (l.map fun x => AV.sc (e x)).drop (pre.length * 1) = .sc (e x) :: r.map fun x => .sc (e x) := by
   rw [zbw, hl, za3, zaD (by simp)]
   rw [show pre.length = (pre.map fun x => AV.sc (e x)).length by simp, zbq]
   rfl
  rw [N7 1 _ _ pre.length _ hlt (by simpa using hlt), hd, Pj, N7 1 _ _ pre.length _ hlt (by simpa using hlt), hd, Pj, hne, Do, if_neg (by simp), G4 _ _ (by omega)]
  have ih := Aa2 (n := n) e k hne L hL l hlen H r (pre ++ [x]) m (by rw [hl]; simp) (by simpa using hm)
  rw [zad, zas] at ih
  exact ih
theorem Zk {α : Type} {n f : Nat} (e : α → Value) (hne : ∀ (x : α) (γ : Type) (k : AV → Option γ), Ci .neq (.sc (e x)) (.sc (e x)) k = k (.sc (.bool false))) (L : (AV → Ab → Option AV) → Nat → AV → AV → AV → Ab → Option AV)
  (hL : ∀ k m a b i H, L k (m + 1) a b i H = I5 a fun t13 => Ci .lss i t13 fun t14 => Ec t14 (Dn 1 a i fun t19 => Cz false 1 t19 H fun t20 => Dn 1 b i fun t23 => Cz false 1 t23 H fun t24 => Ci .neq t20 t24 fun t25 => Ec t25 (k (.sc (.bool false)) H) (Ci .add i (.sc (.int .i64 1)) fun t16 => L k m a b t16 H)) (k (.sc (.bool true)) H))
  (hF : ∀ a b H k, Eh E0 (n + 1) AV f [a, b] H k = I5 a fun t7 => I5 b fun t9 => Ci .neq t7 t9 fun t10 => Ec t10 (k (.sc (.bool false)) H) (L k n a b (.sc (.int .i64 0)) H))
  (l : List α) (hlen : l.length ≤ 1048576) (hn : 1048576 < n) (tb' : Nat) :
  C0 E0 (n + 1) tb' f [.ro l.length (l.map fun x => .sc (e x)), .ro l.length (l.map fun x => .sc (e x))] = some (.sc (.bool true)) := by
 rw [A7, hF, Gc, Gc, Sd, Do, if_neg (by simp)]
 have key := Aa2 (n := n) e (fun x H => A8 As E0.tp tb' H x) hne (L fun x H => A8 As E0.tp tb' H x) (hL fun x H => A8 As E0.tp tb' H x) l hlen [] l [] n (by simp) (by omega)
 simp only [zaw, zaR] at key
 rw [key]
 rfl
def P2 {α : Type} (wt : α → Nat) : List α → Nat
 | [] => 0
 | x :: l => 1 + wt x + P2 wt l
def wtS {α : Type} (wt : α → Nat) : List α → Nat
 | [] => 0
 | x :: l => wt x + wtS wt l
theorem P3 {α : Type} (wt : α → Nat) : ∀ l : List α, P2 wt l = l.length + wtS wt l
 | [] => rfl
 | x :: l => by rw [P2, wtS, P3 wt l, zam]; omega
theorem Uy {α : Type} {wt : α → Nat} : ∀ {l : List α} {x : α}, x ∈ l → wt x ≤ wtS wt l
 | y :: l, x, h => by
  rw [wtS]
  rcases zbF.1 h with rfl | h
  ·omega
  ·have := Uy (wt := wt) h
   omega
end ops
end
section
open Go
variable {β : Type} {n : Nat}
theorem U8 (cs : List AV) (H : Ab) (k : KO β) (h : cs.all R4 = true) : AaW (.agg cs) H k = k (.ptr H.length 0) (H ++ [⟨cs, true, true⟩]) := by
 rw [AaW, Aa9 h]
 rfl
theorem ldT {m id off : Nat} {H : Ab} {cs : List AV} (h : Be H id off m = some cs) (k : AV → Option β) : Cz true m (.ptr id off) H k = k (.agg cs) := by
 simp only [Cz, h, zac, if_true]
theorem ldF {id off : Nat} {H : Ab} {c : AV} (h : Be H id off 1 = some [c]) (k : AV → Option β) : Cz false 1 (.ptr id off) H k = k c := by
 simp only [Cz, h, zac, zaa, if_false, one]
theorem M2 {o : Nat} {H : Ab} {v : Value} {A K r : Option β} (h0 : Be H 0 o 1 = some [.sc v]) (h1 : Be H 1 o 1 = some [.sc v]) (hv : ∀ k : AV → Option β, Ci .neq (.sc v) (.sc v) k = k (.sc (.bool false))) (h : K = r) :
  (Es o (.ptr 0 0) fun t5 => Cz false 1 t5 H fun t6 => Es o (.ptr 1 0) fun t7 => Cz false 1 t7 H fun t8 => Ci .neq t6 t8 fun t9 => Ec t9 A K) = r := by
 simp only [Es, za1]
 rw [ldF h0, ldF h1, hv, Do]
 exact h
theorem Aa0 {o : Nat} {H : Ab} {b : Bool} {A K r : Option β} (h0 : Be H 0 o 1 = some [.sc (.bool b)]) (h1 : Be H 1 o 1 = some [.sc (.bool b)]) (h : K = r) :
  (Es o (.ptr 0 0) fun t5 => Cz false 1 t5 H fun t6 => Es o (.ptr 1 0) fun t7 => Cz false 1 t7 H fun t8 => Pw .neq t6 t8 fun t9 => Ec t9 A K) = r := by
 simp only [Es, za1]
 rw [ldF h0, ldF h1]
 simp only [Pw, asB, zac, binB, beq_self_eq_true, za0]
 exact h
theorem Yi {o tb g : Nat} {H : Ab} {len : Nat} {cells : List AV} {A : Ab → Option β} {K : Ab → Option β} {r : Option β} (h0 : Be H 0 o 1 = some [.ro len cells]) (h1 : Be H 1 o 1 = some [.ro len cells]) (hh : F3 g = false) (ht : C0 E0 n tb g [.ro len cells, .ro len cells] = some (.sc (.bool true))) (h : K H = r) :
  (Es o (.ptr 0 0) fun t5 => Cz false 1 t5 H fun t6 => Es o (.ptr 1 0) fun t7 => Cz false 1 t7 H fun t8 => (PR n β).call tb (.fn g [] []) [t6, t8] H fun t H => pUn .not t fun t9 => Ec t9 (A H) (K H)) = r := by
 simp only [Es, za1]
 rw [ldF h0, ldF h1, Kw (vs := [.ro len cells, .ro len cells]) hh (by simp only [zaF, AhB]; rfl) ht, Hw, zap]
 exact h
theorem Oc (z : Int) (k : AV → Option β) : Ci .neq (.sc (.int .i64 z)) (.sc (.int .i64 z)) k = k (.sc (.bool false)) := by
 show k (.sc (.bool (z != z))) = _
 rw [bne_self_eq_false]
theorem Tc (s : ByteArray) (k : AV → Option β) : Ci .neq (.sc (.string s)) (.sc (.string s)) k = k (.sc (.bool false)) := by
 show k (.sc (.bool (!(s.toList == s.toList)))) = _
 rw [beq_self_eq_true, za0]
theorem AmO (z : Int) (k : AV → Option β) : Ci .neq (.sc (.int .u8 z)) (.sc (.int .u8 z)) k = k (.sc (.bool false)) := by
 show k (.sc (.bool (z != z))) = _
 rw [bne_self_eq_false]
abbrev Ad (s : ByteArray) : AV := .ro s.size (Bg s)
abbrev D5 (l : List Int) : AV := .ro l.length (l.map fun z => .sc (.int .i64 z))
abbrev D6 (l : List ByteArray) : AV := .ro l.length (l.map fun s => .sc (.string s))
abbrev Bt {α : Type} (enc : α → List AV) (l : List α) : AV := .ro l.length (l.map enc).flatten
def okS (s : ByteArray) : Prop := s.size ≤ 9223372036854775807
theorem Y2 {f : Nat → AV → Prop} {α : Type} (e : α → Value) (hf : ∀ t v, f t (.sc v)) : ∀ (ts : List Nat) (l : List α), ts.length = l.length → G7 f ts (l.map fun x => .sc (e x))
 | [], [], _ => trivial
 | t :: ts, x :: l, h => ⟨hf _ _, Y2 e hf ts l (by simpa using h)⟩
 | [], _ :: _, h => by simp at h
 | _ :: _, [], h => by simp at h
theorem Lu {α : Type} {ty d : Nat} (e : α → Value) (hty : ∃ i j, As ty = some i ∧ As i.elem = some j ∧ j.size = 1 ∧ j.cty.length = 1) (l : List α) : H8 As E0.tp (d + 2) ty (.ro l.length (l.map fun x => .sc (e x))) := by
 obtain ⟨i, j, h1, h2, h3, h4⟩ := hty
 exact ⟨i, j, h1, h2, by simp [h3], Y2 e (fun _ _ => trivial) _ l (by simp [h4])⟩
theorem Hn {d ty : Nat} (hty : ∃ i j, As ty = some i ∧ As i.elem = some j ∧ j.size = 1 ∧ j.cty.length = 1) (s : ByteArray) : H8 As E0.tp (d + 2) ty (Ad s) := by
 have := Lu (d := d) (fun b : UInt8 => .int .u8 b.toNat) hty s.data.toList
 have e : s.data.toList.length = s.size := by simp
 rw [e] at this
 exact this
theorem Hi {α : Type} {ty d w : Nat} {cty : List Nat} {enc : α → List AV} (hw : ∀ x, (enc x).length = w) (hty : ∃ i j, As ty = some i ∧ As i.elem = some j ∧ j.size = w ∧ j.cty = cty) (he : ∀ x, G7 (H8 As E0.tp d) cty (enc x)) (l : List α) : H8 As E0.tp (d + 1) ty (Bt enc l) := by
 obtain ⟨i, j, h1, h2, h3, rfl⟩ := hty
 exact ⟨i, j, h1, h2, by rw [Xd hw, h3], Te l fun x _ => he x⟩
theorem Ahl {α : Type} {enc : α → List AV} {ok : α → Prop} {n t e : Nat} {cs : List AV} (hi : ∃ i, As t = some i ∧ i.isB = false ∧ i.ik = none ∧ i.isStr = false ∧ i.sl = true ∧ i.elem = e) (hel : ∀ n cs, okT As n e cs → ∃ x, cs = enc x ∧ ok x) (h : okT As n t cs) :
  ∃ l : List α, cs = [Bt enc l] ∧ l.length ≤ 9223372036854775807 ∧ ∀ x ∈ l, ok x := by
 cases n with
 | zero => cases h
 | succ n =>
  obtain ⟨i, h1, h2, h3, h4, h5, rfl⟩ := hi
  obtain ⟨i', hi', h⟩ := h
  rw [h1] at hi'
  obtain rfl := Option.some.inj hi'
  simp only [h2, h3, h4, h5] at h
  obtain ⟨rows, rfl, hl, hr⟩ := h
  have hm : maxLen = 9223372036854775807 := by decide
  rw [hm] at hl
  have key : ∀ rows : List (List AV), (∀ r ∈ rows, okT As n i.elem r) → ∃ l : List α, rows = l.map enc ∧ ∀ x ∈ l, ok x := by
   intro rows
   induction rows with
   | nil => intro _; exact ⟨[], rfl, fun x h => by cases h⟩
   | cons r rows ih =>
    intro h
    obtain ⟨l, h1, h2⟩ := ih fun r hr => h r (zat _ hr)
    obtain ⟨x, hx, hox⟩ := hel n r (h r zay)
    exact ⟨x :: l, by rw [h1, hx]; rfl, fun y hy => by rcases zbF.1 hy with rfl | hy; exact hox; exact h2 y hy⟩
  obtain ⟨l, rfl, h2⟩ := key rows hr
  exact ⟨l, by simp, by simpa using hl, h2⟩
theorem AeF {n : Nat} {cs : List AV} (h : okT As n 5 cs) : ∃ b : UInt8, cs = [.sc (.int .u8 b.toNat)] := by
 cases n with
 | zero => cases h
 | succ n =>
  obtain ⟨i, hi, h⟩ := h
  obtain rfl := Option.some.inj (show some _ = some i from hi)
  obtain ⟨z, rfl, hw⟩ := (show ∃ z, cs = [.sc (.int .u8 z)] ∧ (Lit.int .u8 z).wf = true from h)
  have hz : 0 ≤ z ∧ z < 256 := by
   have hw' : IntKind.u8.min ≤ z ∧ z ≤ IntKind.u8.max := by simpa [Lit.wf] using hw
   have e1 : IntKind.u8.min = 0 := by decide
   have e2 : IntKind.u8.max = 255 := by decide
   rw [e1, e2] at hw'
   omega
  refine ⟨UInt8.ofNat z.toNat, ?_⟩
  have : (UInt8.ofNat z.toNat).toNat = z.toNat := by simp [UInt8.toNat_ofNat']; omega
  rw [this, Int.toNat_of_nonneg hz.1]
theorem Rv {α : Type} (e : α → AV) (l : List α) : (l.map fun x => [e x]).flatten = l.map e := by
 induction l with
 | nil => rfl
 | cons x l ih => rw [zaq, zaz, ih]; rfl
theorem Acf {n t : Nat} {cs : List AV} (hi : ∃ i, As t = some i ∧ i.isB = false ∧ i.ik = none ∧ i.isStr = false ∧ i.sl = true ∧ i.elem = 5) (h : okT As n t cs) : ∃ s : ByteArray, cs = [Ad s] ∧ okS s := by
 obtain ⟨l, rfl, h1, _⟩ := Ahl (α := UInt8) (enc := fun b => [.sc (.int .u8 b.toNat)]) (ok := fun _ => True) hi (fun n cs h => by obtain ⟨b, h⟩ := AeF h; exact ⟨b, h, trivial⟩) h
 refine ⟨⟨l.toArray⟩, ?_, ?_⟩
 ·rw [Bt, Rv]
  simp [Ad, Bg]
  rfl
 ·exact h1
end
section
open Go
theorem Ji : ∃ i j, As 22 = some i ∧ As i.elem = some j ∧ j.size = 1 ∧ j.cty.length = 1 := ⟨_, _, rfl, rfl, rfl, rfl⟩
theorem Qm (n : Nat) (hn : 1048576 < n) (s : ByteArray) (h : s.size ≤ 1048576) : C0 E0 (n + 1) 22 32 [Ad s] = some (Ad s) := by
 have e : s.data.toList.length = s.size := by simp
 have h0 := AjN (n := n) (bytes := 1) (fun b : UInt8 => .int .u8 b.toNat) (.sc (.int .u8 0)) (fun _ => rfl) Ji (fun k => Vs (PR n AV) n k) (fun k m a o i H => rfl) (fun a H k => AkV n a H k) (by decide) s.data.toList (by rw [e]; exact h) hn
 rw [e] at h0
 exact h0
theorem P9 (n : Nat) (hn : 1048576 < n) (tb : Nat) (s : ByteArray) (h : s.size ≤ 1048576) : C0 E0 (n + 1) tb 35 [Ad s, Ad s] = some (.sc (.bool true)) := by
 have e : s.data.toList.length = s.size := by simp
 have h0 := Zk (n := n) (fun b : UInt8 => .int .u8 b.toNat) (fun x γ k => AmO _ k) (fun k => Vt (PR n AV) n k) (fun k m a b i H => rfl) (fun a b H k => AkY n a b H k) s.data.toList (by rw [e]; exact h) hn tb
 rw [e] at h0
 exact h0
theorem Acp : ∃ i j, As 57 = some i ∧ As i.elem = some j ∧ j.size = 1 ∧ j.cty.length = 1 := ⟨_, _, rfl, rfl, rfl, rfl⟩
theorem Afi (n : Nat) (hn : 1048576 < n) (tb : Nat) (s : List Int) (h : s.length ≤ 1048576) : C0 E0 (n + 1) tb 75 [D5 s, D5 s] = some (.sc (.bool true)) :=
 Zk (n := n) (fun z : Int => .int .i64 z) (fun x γ k => Oc _ k) (fun k => V6 (PR n AV) n k) (fun k m a b i H => rfl) (fun a b H k => Aly n a b H k) s h hn tb
theorem Tq : ∃ i j, As 56 = some i ∧ As i.elem = some j ∧ j.size = 1 ∧ j.cty.length = 1 := ⟨_, _, rfl, rfl, rfl, rfl⟩
theorem Aaz (n : Nat) (hn : 1048576 < n) (tb : Nat) (s : List ByteArray) (h : s.length ≤ 1048576) : C0 E0 (n + 1) tb 74 [D6 s, D6 s] = some (.sc (.bool true)) :=
 Zk (n := n) (fun s : ByteArray => .string s) (fun x γ k => Tc _ k) (fun k => V5 (PR n AV) n k) (fun k m a b i H => rfl) (fun a b H k => Alx n a b H k) s h hn tb
structure WantV where
 fFilter : ByteArray
 fQos : Int
def Bp (x : WantV) : List AV := .sc (.string x.fFilter) :: .sc (.int .i64 x.fQos) :: []
def Il (x : WantV) : Nat := x.fFilter.size + 0
theorem F5 (x : WantV) : (Bp x).length = 2 := rfl
theorem V8 (x : WantV) : (Bp x).all R4 = true := rfl
def Zj : List Nat := [9, 3]
theorem Z4 (d : Nat) (x : WantV) : G7 (H8 As E0.tp (d + 1)) Zj (Bp x) := ⟨trivial, ⟨trivial, trivial⟩⟩
theorem AjO : ∃ i j, As 55 = some i ∧ As i.elem = some j ∧ j.size = 2 ∧ j.cty = Zj := ⟨_, _, rfl, rfl, rfl, rfl⟩
theorem Afj (n : Nat) (hn : 1048576 < n) (tb : Nat) (x : WantV) (h : Il x ≤ 1048576) : C0 E0 (n + 1) tb 114 [.agg (Bp x), .agg (Bp x)] = some (.sc (.bool true)) := by
 rw [A7, Aij, f114]
 simp only [Lm, H4, Gg, Ez, Is, Qr, Ee]
 rw [U8 _ _ _ (V8 x), U8 _ _ _ (V8 x)]
 simp only [zaw, zal, zam, zau, za1, Nat.reduceAdd]
 refine M2 (v := .string x.fFilter) rfl rfl (fun k => Tc _ k) ?_
 refine M2 (v := .int .i64 x.fQos) rfl rfl (fun k => Oc _ k) ?_
 rfl
theorem Adx (n : Nat) (hn : 1048576 < n) (tb : Nat) (l : List WantV) (h : P2 Il l ≤ 1048576) : C0 E0 (n + 2) tb 73 [Bt Bp l, Bt Bp l] = some (.sc (.bool true)) := by
 have e := P3 Il l
 exact Aa1 (n := n + 1) Bp F5 (by decide) V8 rfl (fun k => V4 (PR (n + 1) AV) (n + 1) k) (fun k m a b i H => rfl) (fun a b H k => Alw (n + 1) a b H k) l (fun x hx => Afj n hn _ x (by have := Uy (wt := Il) hx; omega)) (by omega) (by omega) tb
structure PacketV where
 fType : Int
 fDup : Bool
 fQos : Int
 fRetain : Bool
 fId : Int
 fTopic : ByteArray
 fBody : ByteArray
 fClient : ByteArray
 fLevel : Int
 fClean : Bool
 fKeep : Int
 fHasWill : Bool
 fWTopic : ByteArray
 fWBody : ByteArray
 fWQos : Int
 fWRetain : Bool
 fHasUser : Bool
 fUser : ByteArray
 fHasPass : Bool
 fPass : ByteArray
 fCode : Int
 fPresent : Bool
 fWants : List WantV
 fNames : List ByteArray
 fCodes : List Int
def An (x : PacketV) : List AV := .sc (.int .i64 x.fType) :: .sc (.bool x.fDup) :: .sc (.int .i64 x.fQos) :: .sc (.bool x.fRetain) :: .sc (.int .i64 x.fId) :: .sc (.string x.fTopic) :: Ad x.fBody :: .sc (.string x.fClient) :: .sc (.int .i64 x.fLevel) :: .sc (.bool x.fClean) :: .sc (.int .i64 x.fKeep) :: .sc (.bool x.fHasWill) :: .sc (.string x.fWTopic) :: Ad x.fWBody :: .sc (.int .i64 x.fWQos) :: .sc (.bool x.fWRetain) :: .sc (.bool x.fHasUser) :: .sc (.string x.fUser) :: .sc (.bool x.fHasPass) :: Ad x.fPass :: .sc (.int .i64 x.fCode) :: .sc (.bool x.fPresent) :: Bt Bp x.fWants :: D6 x.fNames :: D5 x.fCodes :: []
def Co (x : PacketV) : Nat := x.fTopic.size + (x.fBody.size + (x.fClient.size + (x.fWTopic.size + (x.fWBody.size + (x.fUser.size + (x.fPass.size + (P2 Il x.fWants + (P2 zbk x.fNames + (x.fCodes.length + 0)))))))))
theorem Ge (x : PacketV) : (An x).length = 25 := rfl
theorem Ct (x : PacketV) : (An x).all R4 = true := rfl
def P7 : List Nat := [3, 4, 3, 4, 3, 9, 22, 9, 3, 4, 3, 4, 9, 22, 3, 4, 4, 9, 4, 22, 3, 4, 55, 56, 57]
theorem H9 (d : Nat) (x : PacketV) : G7 (H8 As E0.tp (d + 2)) P7 (An x) := ⟨trivial, ⟨trivial, ⟨trivial, ⟨trivial, ⟨trivial, ⟨trivial, ⟨Hn (d := d + 0) Ji x.fBody, ⟨trivial, ⟨trivial, ⟨trivial, ⟨trivial, ⟨trivial, ⟨trivial, ⟨Hn (d := d + 0) Ji x.fWBody, ⟨trivial, ⟨trivial, ⟨trivial, ⟨trivial, ⟨trivial, ⟨Hn (d := d + 0) Ji x.fPass, ⟨trivial, ⟨trivial, ⟨Hi (d := d + 1) F5 AjO (Z4 (d + 0)) x.fWants, ⟨Lu (d := d + 0) (fun s : ByteArray => .string s) Tq x.fNames, ⟨Lu (d := d + 0) (fun z : Int => .int .i64 z) Acp x.fCodes, trivial⟩⟩⟩⟩⟩⟩⟩⟩⟩⟩⟩⟩⟩⟩⟩⟩⟩⟩⟩⟩⟩⟩⟩⟩⟩
theorem I4 : ∃ i j, As 33 = some i ∧ As i.elem = some j ∧ j.size = 25 ∧ j.cty = P7 := ⟨_, _, rfl, rfl, rfl, rfl⟩
theorem Ab6 (n : Nat) (hn : 1048576 < n) (tb : Nat) (x : PacketV) (h : Co x ≤ 1048576) : C0 E0 (n + 3) tb 34 [.agg (An x), .agg (An x)] = some (.sc (.bool true)) := by
 rw [A7, AkX, f34]
 simp only [Lm, H4, Gg, Ez, Is, Qr, Ee]
 rw [U8 _ _ _ (Ct x), U8 _ _ _ (Ct x)]
 simp only [zaw, zal, zam, zau, za1, Nat.reduceAdd]
 refine M2 (v := .int .i64 x.fType) rfl rfl (fun k => Oc _ k) ?_
 refine Aa0 (b := x.fDup) rfl rfl ?_
 refine M2 (v := .int .i64 x.fQos) rfl rfl (fun k => Oc _ k) ?_
 refine Aa0 (b := x.fRetain) rfl rfl ?_
 refine M2 (v := .int .i64 x.fId) rfl rfl (fun k => Oc _ k) ?_
 refine M2 (v := .string x.fTopic) rfl rfl (fun k => Tc _ k) ?_
 refine Yi rfl rfl rfl (P9 (n + 1) (by omega) _ x.fBody (by unfold Co at h; omega)) ?_
 refine M2 (v := .string x.fClient) rfl rfl (fun k => Tc _ k) ?_
 refine M2 (v := .int .i64 x.fLevel) rfl rfl (fun k => Oc _ k) ?_
 refine Aa0 (b := x.fClean) rfl rfl ?_
 refine M2 (v := .int .i64 x.fKeep) rfl rfl (fun k => Oc _ k) ?_
 refine Aa0 (b := x.fHasWill) rfl rfl ?_
 refine M2 (v := .string x.fWTopic) rfl rfl (fun k => Tc _ k) ?_
 refine Yi rfl rfl rfl (P9 (n + 1) (by omega) _ x.fWBody (by unfold Co at h; omega)) ?_
 refine M2 (v := .int .i64 x.fWQos) rfl rfl (fun k => Oc _ k) ?_
 refine Aa0 (b := x.fWRetain) rfl rfl ?_
 refine Aa0 (b := x.fHasUser) rfl rfl ?_
 refine M2 (v := .string x.fUser) rfl rfl (fun k => Tc _ k) ?_
 refine Aa0 (b := x.fHasPass) rfl rfl ?_
 refine Yi rfl rfl rfl (P9 (n + 1) (by omega) _ x.fPass (by unfold Co at h; omega)) ?_
 refine M2 (v := .int .i64 x.fCode) rfl rfl (fun k => Oc _ k) ?_
 refine Aa0 (b := x.fPresent) rfl rfl ?_
 refine Yi rfl rfl rfl (Adx (n + 0) (by omega) _ x.fWants (by unfold Co at h; omega)) ?_
 refine Yi rfl rfl rfl (Aaz (n + 1) (by omega) _ x.fNames (by unfold Co at h; have := P3 zbk x.fNames; omega)) ?_
 refine Yi rfl rfl rfl (Afi (n + 1) (by omega) _ x.fCodes (by unfold Co at h; omega)) ?_
 rfl
theorem O6 (n : Nat) (hn : 1048576 < n) (tb : Nat) (l : List PacketV) (h : P2 Co l ≤ 1048576) : C0 E0 (n + 4) tb 22 [Bt An l, Bt An l] = some (.sc (.bool true)) := by
 have e := P3 Co l
 exact Aa1 (n := n + 3) An Ge (by decide) Ct rfl (fun k => Vp (PR (n + 3) AV) (n + 3) k) (fun k m a b i H => rfl) (fun a b H k => AkR (n + 3) a b H k) l (fun x hx => Ab6 n hn _ x (by have := Uy (wt := Co) hx; omega)) (by omega) (by omega) tb
end
section
open Go
variable {β : Type} {n : Nat} {H : Ab} {r : Option β}
theorem Iq : ([] : List AV).mapM (Dm H 8) = some [] := rfl
theorem Ds {x v : AV} {xs vs : List AV} (h : Vw H x v) (hs : xs.mapM (Dm H 8) = some vs) : (x :: xs).mapM (Dm H 8) = some (v :: vs) := by
 simp only [zaF, h.now, hs, zaW, zaJ, zac]
theorem Aao {i : Nat} {b : Jm} (h : H[i]? = some b) (X : List Jm) : (H ++ X)[i]? = some b := by
 rw [zak (zae.1 h).1]
 exact h
theorem Ku {ty f : Nat} {args vs : List AV} {v : Value} {K : KO β} (hh : F3 f = false) (hv : args.mapM (Dm H 8) = some vs) (ht : C0 E0 n ty f vs = some (.sc v)) (h : K (.sc v) H = r) : (PR n β).call ty (.fn f [] []) args H (fun x H => K x H) = r := by
 rw [Kw hh hv ht, Hw, zap]
 exact h
theorem AjY (a b : Int) (k : AV → Option β) : Ci .eql (.sc (.int .i64 a)) (.sc (.int .i64 b)) k = k (.sc (.bool (a == b))) := rfl
theorem Ak2 (a b : Int) (k : AV → Option β) : Ci .neq (.sc (.int .i64 a)) (.sc (.int .i64 b)) k = k (.sc (.bool (a != b))) := rfl
theorem Yv (a b : Int) (k : AV → Option β) : Ci .leq (.sc (.int .i64 a)) (.sc (.int .i64 b)) k = k (.sc (.bool (decide (a ≤ b)))) := rfl
theorem Akz (a b : Int) (k : AV → Option β) : Ci .gtr (.sc (.int .i64 a)) (.sc (.int .i64 b)) k = k (.sc (.bool (decide (a > b)))) := rfl
theorem Acw (a b : Int) (k : AV → Option β) : Ci .add (.sc (.int .i64 a)) (.sc (.int .i64 b)) k = k (.sc (.int .i64 (IntKind.i64.wrap (a + b)))) := rfl
theorem AmN (a b : Int) (k : AV → Option β) : Ci .mul (.sc (.int .i64 a)) (.sc (.int .i64 b)) k = k (.sc (.int .i64 (IntKind.i64.wrap (a * b)))) := rfl
theorem AnA (a b : ByteArray) (k : AV → Option β) : Ci .neq (.sc (.string a)) (.sc (.string b)) k = k (.sc (.bool (!(a.toList == b.toList)))) := rfl
theorem An9 (a b : Bool) (k : AV → Option β) : Pw .neq (.sc (.bool a)) (.sc (.bool b)) k = k (.sc (.bool (!(a == b)))) := rfl
theorem Wp (s : ByteArray) (k : AV → Option β) : W7 (.sc (.string s)) k = k (.sc (.int .i64 s.size)) := rfl
theorem AmS (ty : Nat) (H : Ab) (v : Value) : A8 As E0.tp ty H (.sc v) = some (.sc v) := rfl
end
section
open Go
section
variable {β : Type} {n : Nat} {H : Ab} {r : Option β} {K : AV → Option β} {KH : KO β}
theorem Adk {cs : List AV} (hf : cs.all R4 = true) (h : ∀ i, i = H.length → (H ++ [⟨cs, true, true⟩])[i]? = some ⟨cs, true, true⟩ → KH (.ptr i 0) (H ++ [⟨cs, true, true⟩]) = r) : AaW (.agg cs) H (fun x H => KH x H) = r := by
 rw [U8 cs H _ hf]
 exact h _ rfl (by rw [zaj (zan _), zba]; rfl)
theorem A5 {o id off : Nat} (h : K (.ptr id (off + o)) = r) : Es o (.ptr id off) (fun x => K x) = r := h
theorem Cq {i off : Nat} {cs : List AV} {c : AV} (hi : H[i]? = some ⟨cs, true, true⟩) (hl : off < cs.length) (hc : (cs.drop off).take 1 = [c]) (h : K c = r) : Cz false 1 (.ptr i off) H (fun x => K x) = r := by
 have e : Be H i off 1 = some [c] := by
  simp only [Be, hi, if_true]
  rw [if_pos (by omega), hc]
 rw [ldF e]
 exact h
theorem De {op : BinOp} {x y v : AV} (e : ∀ k : AV → Option β, Ci op x y k = k v) (h : K v = r) : Ci op x y (fun t => K t) = r := (e _).trans h
theorem Ik {op : BinOp} {x y v : AV} (e : ∀ k : AV → Option β, Pw op x y k = k v) (h : K v = r) : Pw op x y (fun t => K t) = r := (e _).trans h
theorem Zb {b : Bool} (h : K (.sc (.bool (!b))) = r) : pUn .not (.sc (.bool b)) (fun t => K t) = r := h
theorem AhF {s : ByteArray} (h : K (.sc (.int .i64 s.size)) = r) : W7 (.sc (.string s)) (fun t => K t) = r := h
theorem Nj {m : Nat} {cs : List AV} (h : K (.sc (.int .i64 m)) = r) : I5 (.ro m cs) (fun t => K t) = r := h
theorem Aa {g : Prop} (b : Bool) (ht : b = true → g) (hf : b = false → g) : g := by
 cases h : b
 ·exact hf h
 ·exact ht h
theorem Qq {b : Bool} {x y : Option β} (hb : b = true) (h : x = r) : Ec (.sc (.bool b)) x y = r := by subst hb; exact h
theorem Tt {b : Bool} {x y : Option β} (hb : b = false) (h : y = r) : Ec (.sc (.bool b)) x y = r := by subst hb; exact h
theorem Az {b : Bool} {m : (KO β) → Option β} (hb : b = true) (h : m (fun x H => KH x H) = r) : Ix (.sc (.bool b)) true H m (fun x H => KH x H) = r := by subst hb; exact h
theorem Ay {b : Bool} {m : (KO β) → Option β} (hb : b = false) (h : KH (.sc undef) H = r) : Ix (.sc (.bool b)) true H m (fun x H => KH x H) = r := by subst hb; exact h
theorem Ir {b : Bool} {m : (KO β) → Option β} (hb : b = false) (h : m (fun x H => KH x H) = r) : Ix (.sc (.bool b)) false H m (fun x H => KH x H) = r := by subst hb; exact h
theorem Jp {b : Bool} {m : (KO β) → Option β} (hb : b = true) (h : KH (.sc undef) H = r) : Ix (.sc (.bool b)) false H m (fun x H => KH x H) = r := by subst hb; exact h
theorem AeQ {b : Bool} {x y : AV} (hb : b = true) (h : K x = r) : Nb (.sc (.bool b)) x y (fun t => K t) = r := by
 subst hb
 cases x <;> cases y <;> exact h
theorem Acq {b : Bool} {x y : AV} (hb : b = false) (h : K y = r) : Nb (.sc (.bool b)) x y (fun t => K t) = r := by
 subst hb
 cases x <;> cases y <;> exact h
def Jn {α : Type} (p : α → α → Bool) : List α → List α → Bool
 | x :: a, y :: b => if p x y then Jn p a b else false
 | _, _ => true
theorem Lq {α : Type} {w : Nat} (enc : α → List AV) (hw : ∀ x, (enc x).length = w) (h0 : 0 < w) (pk : α → AV) (LOAD : AV → (AV → Option β) → Option β) (hld : ∀ x rest k, LOAD (.rp (enc x ++ rest)) k = k (pk x)) (NE : AV → AV → (AV → Option β) → Option β) (pr : α → α → Bool) (hne : ∀ x y k, NE (pk x) (pk y) k = k (.sc (.bool (!(pr x y)))))
  (l q : List α) (hlq : l.length = q.length) (hlen : l.length ≤ 1048576) (L : Nat → AV → Option β) (KF KT : Option β)
  (hL : ∀ m i, L (m + 1) i = Ci .lss i (.sc (.int .i64 l.length)) fun t14 => Ec t14 (Dn w (Bt enc l) i fun t19 => LOAD t19 fun t20 => Dn w (Bt enc q) i fun t23 => LOAD t23 fun t24 => NE t20 t24 fun t25 => Ec t25 KF (Ci .add i (.sc (.int .i64 1)) fun t16 => L m t16)) KT) :
  ∀ (s t pl pq : List α) (m : Nat), l = pl ++ s → q = pq ++ t → pl.length = pq.length → s.length < m → L m (.sc (.int .i64 pl.length)) = if Jn pr s t then KT else KF
 | [], t, pl, pq, m + 1, hl, hq, hpp, hm => by
  rw [zap] at hl
  subst hl
  rw [hL, G5, Do]
  cases t <;> simp [Jn]
 | x :: s, [], pl, pq, m + 1, hl, hq, hpp, hm => by
  have h1 := congrArg List.length hl
  have h2 := congrArg List.length hq
  simp only [zad, zam, zaw] at h1 h2
  omega
 | x :: s, y :: t, pl, pq, m + 1, hl, hq, hpp, hm => by
  have hlt : pl.length < l.length := by rw [hl]; simp
  rw [hL, G5, Do, if_pos (by simpa using hlt)]
  have hel := fun k => Ac1 (β := β) hw h0 pl x s k
  rw [← hl] at hel
  have heq := fun k => Ac1 (β := β) hw h0 pq y t k
  rw [← hq, ← hpp] at heq
  rw [hel, hld, heq, hld, hne, Do, Jn]
  cases hpx : pr x y
  ·simp
  ·simp only [za0, zaa, if_false, if_true]
   rw [G4 _ _ (by omega)]
   have ih := Lq enc hw h0 pk LOAD hld NE pr hne l q hlq hlen L KF KT hL s t (pl ++ [x]) (pq ++ [y]) m (by rw [hl]; simp) (by rw [hq]; simp) (by simp [hpp]) (by simpa using hm)
   rw [zad, zas] at ih
   exact ih
def Vi (z : Int) : List AV := [.sc (.int .i64 z)]
def Vj (s : ByteArray) : List AV := [.sc (.string s)]
theorem Lg (l : List Int) : D5 l = Bt Vi l := by
 rw [Bt, show (Vi) = fun z => [AV.sc (.int .i64 z)] from rfl, Rv]
theorem Lk (l : List ByteArray) : D6 l = Bt Vj l := by
 rw [Bt, show (Vj) = fun z => [AV.sc (.string z)] from rfl, Rv]
theorem ldI (z : Int) (rest : List AV) (H : Ab) (k : AV → Option β) : Cz false 1 (.rp (Vi z ++ rest)) H k = k (.sc (.int .i64 z)) := Pj _ _ _ _
theorem ldS (z : ByteArray) (rest : List AV) (H : Ab) (k : AV → Option β) : Cz false 1 (.rp (Vj z ++ rest)) H k = k (.sc (.string z)) := Pj _ _ _ _
def eqI (x y : Int) : Bool := x == y
def S2 (x y : ByteArray) : Bool := x.toList == y.toList
def G2 {α : Type} (p : α → α → Bool) (a b : List α) : Bool := if a.length = b.length then Jn p a b else false
theorem neI (x y : Int) (k : AV → Option β) : Ci .neq (.sc (.int .i64 x)) (.sc (.int .i64 y)) k = k (.sc (.bool (!(eqI x y)))) := rfl
theorem neS (x y : ByteArray) (k : AV → Option β) : Ci .neq (.sc (.string x)) (.sc (.string y)) k = k (.sc (.bool (!(S2 x y)))) := rfl
theorem Acy (qs : List Nat) (cs ds : List AV) (b : Bool) (h : Mi qs cs ds = some b) (k : AV → Option β) : Qu .neq qs (.agg cs) (.agg ds) k = k (.sc (.bool (!b))) := by
 simp only [Qu, h, zac]
theorem Bv {X : Option β} (e : Bool) {K : Bool → Option β} (h1 : ∀ b, b = e → X = K b) (h2 : ∀ b, b = e → K b = r) : X = r := (h1 e rfl).trans (h2 e rfl)
theorem Dg {c v b : Bool} {y : AV} (hc : c = true) (hv : v = b) (h : K (.sc (.bool b)) = r) : Nb (.sc (.bool c)) (.sc (.bool v)) y (fun t => K t) = r := by
 subst hc
 subst hv
 cases y <;> exact h
theorem Df {c v b : Bool} {x : AV} (hc : c = false) (hv : v = b) (h : K (.sc (.bool b)) = r) : Nb (.sc (.bool c)) x (.sc (.bool v)) (fun t => K t) = r := by
 subst hc
 subst hv
 cases x <;> exact h
theorem Fp {b c v : Bool} (hb : b = (c && v)) (h : c = true) : v = b := by rw [hb, h]; rfl
theorem Fo {b c v : Bool} (hb : b = (c && v)) (h : c = false) : false = b := by rw [hb, h]; rfl
theorem mOT {b c v : Bool} (hb : b = (c || v)) (h : c = true) : true = b := by rw [hb, h]; rfl
theorem mOF {b c v : Bool} (hb : b = (c || v)) (h : c = false) : v = b := by rw [hb, h]; rfl
theorem Xx {ty : Nat} {b b' : Bool} (h : b = b') : A8 As E0.tp ty H (.sc (.bool b)) = some (.sc (.bool b')) := by subst h; rfl
theorem AeV {ty : Nat} {f : FuncId} {caps args vs : List AV} {t : AV} {k : KO β} (hh : F3 f = false) (hv : (args ++ caps).mapM (Dm H 8) = some vs) (ht : C0 E0 n ty f vs = some t) :
  (PR n β).call ty (.fn f [] caps) args H k = k (B5 As E0.tp H.length ty t).1 (H ++ (B5 As E0.tp H.length ty t).2) := by
 show Mf E0 (Eh E0 n) ty f ([] ++ args ++ caps) H k = _
 simp only [Mf, Y7 hh, AaZ hh, zal, zaa, if_false, Aas, hv, zac]
 have ht : Tp E0 (Eh E0 n) ty f vs = some t := ht
 rw [ht]
 rfl
theorem Ak1 (s : ByteArray) (i : Nat) (b : UInt8) (k : AV → Option β) (h : s.data.toList[i]? = some b) : AeI (.sc (.string s)) (.sc (.int .i64 i)) k = k (.sc (.int .u8 b.toNat)) := by
 have hlt : i < s.size := by
  have := (zae.1 h).1
  simpa using this
 have hb : s[i]'hlt = b := by
  have := (zae.1 h).2
  simp only [Array.getElem_toList] at this
  exact this
 simp only [AeI, asI, asS, zac, zbl]
 rw [dif_pos ⟨by omega, hlt⟩, hb]
theorem nT {b : Bool} (h : b = false) : (!b) = true := by rw [h]; rfl
theorem nF {b : Bool} (h : b = true) : (!b) = false := by rw [h]; rfl
end
end
section
open Go
def Bu (x lo hi : Int) : Bool := decide (lo ≤ x) && decide (x ≤ hi)
theorem Hh (n : Nat) (ty : Nat) (x : Int) (lo : Int) (hi : Int) : C0 E0 (n + 1) ty 81 [.sc (.int .i64 x), .sc (.int .i64 lo), .sc (.int .i64 hi)] = some (.sc (.bool (Bu x lo hi))) := by
 rw [A7, Al1, f81]
 try simp only [Lm, Nt, H4, Gg, I7, Ez, Is, Kv, Qr, Ee, Fe, Pr.gT, Pr.gF, Pr.hT, Pr.hF, Pr.kT, Pr.kF, Gh, I6, H5, It, Ns, My, I0, Kc, J6, P4, O0, Nr, Mb]
 refine De (v := sb (decide (x ≥ lo))) (fun k => rfl) ?_
 apply Bv ((decide (x ≥ lo)) && (decide (x ≤ hi)))
 intro b1 q1
 refine Aa ((decide (x ≥ lo))) (fun h1 => ?_) fun h1 => ?_
 exact Az h1 (Az h1 (Az h1 (De (v := sb (decide (x ≤ hi))) (fun k => rfl) (Dg h1 (Fp q1 h1) rfl))))
 exact Ay h1 (Ay h1 (Ay h1 (Df h1 (Fo q1 h1) rfl)))
 intro b1 q1
 exact Xx (by first | (simp_all [Bu]; done) | (rw [zb6]; simp [Bu] at *; omega))
theorem Jk (n : Nat) (ty : Nat) (x : Int) (lo : Int) (hi : Int) : C0 E0 (n + 1) ty 98 [.sc (.int .i64 x), .sc (.int .i64 lo), .sc (.int .i64 hi)] = some (.sc (.bool (Bu x lo hi))) := by
 rw [A7, AlE, f98]
 try simp only [Lm, Nt, H4, Gg, I7, Ez, Is, Kv, Qr, Ee, Fe, Pr.gT, Pr.gF, Pr.hT, Pr.hF, Pr.kT, Pr.kF, Gh, I6, H5, It, Ns, My, I0, Kc, J6, P4, O0, Nr, Mb]
 refine De (v := sb (decide (x ≥ lo))) (fun k => rfl) ?_
 apply Bv ((decide (x ≥ lo)) && (decide (x ≤ hi)))
 intro b1 q1
 refine Aa ((decide (x ≥ lo))) (fun h1 => ?_) fun h1 => ?_
 exact Az h1 (Az h1 (Az h1 (De (v := sb (decide (x ≤ hi))) (fun k => rfl) (Dg h1 (Fp q1 h1) rfl))))
 exact Ay h1 (Ay h1 (Ay h1 (Df h1 (Fo q1 h1) rfl)))
 intro b1 q1
 exact Xx (by first | (simp_all [Bu]; done) | (rw [zb6]; simp [Bu] at *; omega))
theorem R7 (n : Nat) (ty : Nat) (s t : ByteArray) : C0 E0 (n + 1) ty 65 [Ad s, Ad t] = some (.sc (.bool (s.toList == t.toList))) := by
 rw [A7, Alo, f65]
 have e : ∀ u : ByteArray, Dt [] 1 (.ro u.size (Bg u)) = some (Bg u) := by
  intro u
  simp [Dt, Ew]
 have eb : ∀ u : ByteArray, (Bg u).mapM Kl = some u.data.toList := fun u => Kx _
 simp only [Mb, Ez, Ot, e, eb, zac, Ci, X2]
 simp
theorem Kd (n : Nat) (ty : Nat) (s t : ByteArray) : C0 E0 (n + 1) ty 71 [Ad s, Ad t] = some (.sc (.bool (s.toList == t.toList))) := by
 rw [A7, Alu, f71]
 have e : ∀ u : ByteArray, Dt [] 1 (.ro u.size (Bg u)) = some (Bg u) := by
  intro u
  simp [Dt, Ew]
 have eb : ∀ u : ByteArray, (Bg u).mapM Kl = some u.data.toList := fun u => Kx _
 simp only [Mb, Ez, Ot, e, eb, zac, Ci, X2]
 simp
end
section
open Go
theorem Amk : ∀ X : Fin 256, bits .and .i64 ((X.val : Nat) : Int) 31 = ((X.val % 32 : Nat) : Int) := by decide +kernel
theorem Amj : ∀ X : Fin 256, bits .and .i64 ((X.val : Nat) : Int) 15 = ((X.val % 16 : Nat) : Int) := by decide +kernel
theorem Aml : ∀ X : Fin 256, bits .and .i64 ((X.val : Nat) : Int) 7 = ((X.val % 8 : Nat) : Int) := by decide +kernel
def Tl (d : Nat × Nat) (i : Nat) : AV := if d.1 = 65533 ∧ d.2 = 1 then .tup [.sc (.int .i64 0), .sc (.int .i64 0), .sc (.bool false)] else .tup [.sc (.int .i64 d.1), .sc (.int .i64 ((i + d.2 : Nat) : Int)), .sc (.bool true)]
def AbQ : AV := .tup [.sc (.int .i64 0), .sc (.int .i64 0), .sc (.bool false)]
theorem AjX (s : ByteArray) (i : Nat) (h : i < s.size) (H : Ab) (k : AV → Option AV) : (Dn 1 (Ad s) (.sc (.int .i64 i)) fun t => Cz false 1 t H k) = k (.sc (.int .u8 (s.data.toList.getD i 0).toNat)) := by
 rw [N7 1 _ _ i _ h (by rw [Ew]; omega)]
 have hl : i < s.data.toList.length := by simpa using h
 have hd : (Bg s).drop (i * 1) = .sc (.int .u8 (s.data.toList.getD i 0).toNat) :: (Bg s).drop (i + 1) := by
  rw [zbw, zbd (by rw [Ew]; omega)]
  congr 1
  simp [Bg, zbp, h]
 rw [hd, Pj]
section loop
variable (n : Nat) (k : AV → Ab → Option AV) (H : Ab) (s : ByteArray)
theorem Li (m at' N v i : Nat) (least : Int) (hi : i ≤ N) (hb : at' + i < s.size) (hN : N ≤ 3) (hv : v < 100000000) (hs : s.size ≤ 1048576) :
  Ja (PR n AV) n k (m + 1) (Ad s) (si at') (si N) (si least) (si v) (si i) H =
   if (s.data.toList.getD (at' + i) 0).toNat / 64 = 2 then Ja (PR n AV) n k m (Ad s) (si at') (si N) (si least) (si ((v * 64 + (s.data.toList.getD (at' + i) 0).toNat % 64 : Nat) : Int)) (si ((i + 1 : Nat) : Int)) H else k AbQ H := by
 obtain ⟨y, hy⟩ : ∃ y, (s.data.toList.getD (at' + i) 0).toNat = y := ⟨_, rfl⟩
 have hylt : y < 256 := by rw [← hy]; exact (s.data.toList.getD (at' + i) 0).toNat_lt
 have hba := AjX s (at' + i) hb H
 rw [hy] at hba ⊢
 rw [Ja]
 simp only [Ez, Ee, It, Gg, Nr, Fe, Pr.gT, Pr.gF, Pr.hT, Pr.hF, Pr.kT, Pr.kF, Gh]
 rw [Yv, Do, if_pos (by simp; omega), Acw, ← Int.natCast_add, H3 _ (by omega) (by omega), hba]
 simp only [W5, asI, zac]
 rw [H3 _ (by omega) (by omega), Wu]
 by_cases h1 : y < 128
 refine Jp (by simp; omega) (Jp (by simp; omega) (AeQ (by simp; omega) ?_))
 rw [if_neg (by omega)]
 rfl
 refine Ir (by simp; omega) (Ir (by simp; omega) ?_)
 rw [Akz]
 refine Acq (by simp; omega) ?_
 by_cases h2 : y ≤ 191
 rw [Do, if_neg (by simp; omega), if_pos (by omega), AmN, show (v : Int) * 64 = ((v * 64 : Nat) : Int) by omega, H3 _ (by omega) (by omega), Acw, ← Int.natCast_add, H3 _ (by omega) (by omega), Xq _ _ _ (by omega) (by omega), G4 _ _ (by omega)]
 congr 3
 omega
 rw [Do, if_pos (by simp; omega), if_neg (by omega)]
 rfl
theorem Xg (n' : Nat) (hnn : n = n' + 1) (m at' N v least : Nat) (hN : N ≤ 3) (hv : v < 100000000) (ha : at' ≤ 1048576) :
  Ja (PR n AV) n k (m + 1) (Ad s) (si at') (si N) (si least) (si v) (si ((N + 1 : Nat) : Int)) H =
   if v ≥ least ∧ (v < 55296 ∨ (57344 ≤ v ∧ v ≤ 1114111)) then k (.tup [si v, si ((at' + (N + 1) : Nat) : Int), bT]) H else k AbQ H := by
 subst hnn
 rw [Ja]
 simp only [Ez, Ee, It, Gg, Nr, Fe, Pr.gT, Pr.gF, Pr.hT, Pr.hF, Pr.kT, Pr.kF, Gh]
 rw [Yv, Do, if_neg (by simp; omega), Wu]
 by_cases h1 : v < least
 have e : decide ((v : Int) < (least : Int)) = true := by simp; omega
 refine Jp e (Jp e (AeQ e (Jp rfl (Jp rfl (AeQ rfl (Qq rfl ?_))))))
 rw [if_neg (by omega)]
 rfl
 have e : decide ((v : Int) < (least : Int)) = false := by simp; omega
 refine Ir e (Ir e (De (v := sb (decide ((v : Int) > 1114111))) (fun k => rfl) (Acq e ?_)))
 by_cases h2 : v > 1114111
 have e2 : decide ((v : Int) > 1114111) = true := by simp; omega
 refine Jp e2 (Jp e2 (AeQ e2 (Qq rfl ?_)))
 rw [if_neg (by omega)]
 rfl
 have e2 : decide ((v : Int) > 1114111) = false := by simp; omega
 refine Ir e2 (Ir e2 (Ku rfl (Ds (Jr _ _) (Ds (Jr _ _) (Ds (Jr _ _) Iq))) (Hh n' _ v 55296 57343) (Acq e2 ?_)))
 by_cases h3 : 55296 ≤ v ∧ v ≤ 57343
 refine Qq (by simp [Bu]; omega) ?_
 rw [if_neg (by omega)]
 rfl
 refine Tt (by simp [Bu]; omega) ?_
 have e5 : ((at' : Int) + 1 + (N : Int)) = ((at' + (N + 1) : Nat) : Int) := by omega
 rw [if_pos (by omega), Acw, H3 _ (by omega) (by omega), Acw, H3 _ (by omega) (by omega), e5]
 rfl
end loop
theorem Ff (H : Ab) (a b c : Value) : A8 As E0.tp 110 H (.tup [.sc a, .sc b, .sc c]) = some (.tup [.sc a, .sc b, .sc c]) := rfl
set_option maxHeartbeats 1600000 in
theorem AjC (n : Nat) (hn : 1048576 < n) (s : ByteArray) (i : Nat) (hs : s.size ≤ 1048576) (hi : i < s.size) : C0 E0 (n + 2) 110 143 [Ad s, .sc (.int .i64 i)] = some (Tl (Lib.decodeL (s.data.toList.drop i)) i) := by
 have hg : ∀ j, (s.data.toList.drop i).getD j 0 = s.data.toList.getD (i + j) 0 := fun j => by simp [zbp, zaT]
 have hL : (s.data.toList.drop i).length = s.size - i := by simp
 have hg0 : (s.data.toList.drop i).getD 0 0 = s.data.toList.getD i 0 := hg 0
 rw [Lib.decodeL_N, hL, hg0, hg 1, hg 2, hg 3]
 obtain ⟨x, hx⟩ : ∃ x, (s.data.toList.getD i 0).toNat = x := ⟨_, rfl⟩
 have hxl : x < 256 := by rw [← hx]; exact (s.data.toList.getD i 0).toNat_lt
 obtain ⟨y1, hy1⟩ : ∃ x, (s.data.toList.getD (i + 1) 0).toNat = x := ⟨_, rfl⟩
 obtain ⟨y2, hy2⟩ : ∃ x, (s.data.toList.getD (i + 2) 0).toNat = x := ⟨_, rfl⟩
 obtain ⟨y3, hy3⟩ : ∃ x, (s.data.toList.getD (i + 3) 0).toNat = x := ⟨_, rfl⟩
 have b1 : y1 < 256 := by rw [← hy1]; exact (s.data.toList.getD (i + 1) 0).toNat_lt
 have b2 : y2 < 256 := by rw [← hy2]; exact (s.data.toList.getD (i + 2) 0).toNat_lt
 have b3 : y3 < 256 := by rw [← hy3]; exact (s.data.toList.getD (i + 3) 0).toNat_lt
 have hba := AjX s i hi []
 rw [hx] at hba
 rw [hx, hy1, hy2, hy3]
 have fails : Lib.decodeN (s.size - i) x y1 y2 y3 = (65533, 1) → some AbQ = some (Tl (Lib.decodeN (s.size - i) x y1 y2 y3) i) := fun h => by rw [h]; rfl
 have goes : ∀ v w, Lib.decodeN (s.size - i) x y1 y2 y3 = (v, w) → (w = 1 → v < 128) → some (.tup [si v, si ((i + w : Nat) : Int), bT]) = some (Tl (Lib.decodeN (s.size - i) x y1 y2 y3) i) := fun v w h hw => by
  rw [h, Tl, if_neg (by intro h; simp only at h; omega)]
 rw [A7, Ai1, f143]
 simp only [Ez, Ee, It, Gg, Nr, Fe, Pr.gT, Pr.gF, Pr.hT, Pr.hF, Pr.kT, Pr.kF, Gh, I6]
 have e0 : decide ((i : Int) < 0) = false := by simp
 rw [Wu]
 refine Ir e0 (Ir e0 (Ir e0 (Nj (Ir e0 (De (v := .sc (.bool (decide ((i : Int) ≥ (s.size : Int))))) (fun k => rfl) (Acq e0 (Tt (by simp; omega) ?_)))))))
 rw [hba]
 simp only [W5, asI, zac]
 rw [H3 _ (by omega) (by omega), Wu]
 by_cases c1 : x < 128
 refine Qq (by simp; omega) ?_
 rw [G4 _ _ (by omega)]
 exact (Ff _ _ _ _).trans (goes x 1 (by rw [Lib.decodeN, if_pos c1]) (fun _ => c1))
 refine Tt (by simp; omega) ?_
 obtain ⟨q, rfl⟩ : ∃ q, n = q + 4 := ⟨n - 4, by omega⟩
 apply Bv (decide ((x : Int) ≥ 192) && decide ((x : Int) < 224))
 intro b hb
 refine De (v := sb (decide ((x : Int) ≥ 192))) (fun k => rfl) (Aa (decide ((x : Int) ≥ 192)) (fun h => ?_) fun h => ?_)
 exact Az h (Az h (De (v := sb (decide ((x : Int) < 224))) (fun k => rfl) (Dg h (Fp hb h) rfl)))
 exact Ay h (Ay h (Df h (Fo hb h) rfl))
 intro b0 hb0
 by_cases d0 : 192 ≤ x ∧ x < 224
 refine Qq (by rw [hb0]; simp; omega) (De (v := .sc (.int .i64 ((x % 32 : Nat) : Int))) (fun k => by show k (.sc (.int .i64 (bits .and .i64 (x : Int) 31))) = _; rw [Amk ⟨x, hxl⟩]) (Nj (De (v := .sc (.int .i64 ((s.size : Int) - 1))) (fun k => Xq _ _ _ (by omega) (by omega)) (De (v := .sc (.int .i64 ((s.size : Int) - 1 - 1))) (fun k => Xq _ _ _ (by omega) (by omega)) (De (v := .sc (.bool (decide ((i : Int) > (s.size : Int) - 1 - 1)))) (fun k => rfl) ?_)))))
 by_cases c3 : i + 1 < s.size
 ·refine Tt (by simp; omega) ?_
  have r1 := Li (q + 4 + 1) (fun x H => A8 As E0.tp 110 H x) [] s (q + 4) i 1 (x % 32) 1 128 (by omega) (by omega) (by omega) (by omega) hs
  rw [hy1] at r1
  refine r1.trans ?_
  by_cases k1 : y1 / 64 = 2
  rotate_left
  rw [if_neg k1]
  exact (Ff _ _ _ _).trans (fails (by unfold Lib.decodeN; rw [if_neg c1, if_neg (by omega), if_neg (by omega), if_neg (by omega)]))
  rw [if_pos k1]
  refine (Xg (q + 4 + 1) (fun x H => A8 As E0.tp 110 H x) [] s (q + 4) rfl (q + 3) i 1 ((x % 32) * 64 + y1 % 64) 128 (by omega) (by omega) (by omega)).trans ?_
  have hv : (x % 32) * 64 + y1 % 64 = x % 32 * 64 + y1 % 64 := by omega
  rw [hv]
  split
  exact (Ff _ _ _ _).trans (goes _ 2 (by unfold Lib.decodeN; rw [if_neg c1, if_pos (by omega), if_pos (by omega)]) (by omega))
  exact (Ff _ _ _ _).trans (fails (by unfold Lib.decodeN; rw [if_neg c1, if_pos (by omega), if_neg (by omega)]))
 exact Qq (by simp; omega) ((Ff _ _ _ _).trans (fails (by unfold Lib.decodeN; rw [if_neg c1, if_neg (by omega), if_neg (by omega), if_neg (by omega)])))
 refine Tt (by rw [hb0]; simp; omega) ?_
 apply Bv (decide ((x : Int) ≥ 224) && decide ((x : Int) < 240))
 intro b hb
 refine De (v := sb (decide ((x : Int) ≥ 224))) (fun k => rfl) (Aa (decide ((x : Int) ≥ 224)) (fun h => ?_) fun h => ?_)
 exact Az h (Az h (De (v := sb (decide ((x : Int) < 240))) (fun k => rfl) (Dg h (Fp hb h) rfl)))
 exact Ay h (Ay h (Df h (Fo hb h) rfl))
 intro b1 hb1
 by_cases d1 : 224 ≤ x ∧ x < 240
 refine Qq (by rw [hb1]; simp; omega) (De (v := .sc (.int .i64 ((x % 16 : Nat) : Int))) (fun k => by show k (.sc (.int .i64 (bits .and .i64 (x : Int) 15))) = _; rw [Amj ⟨x, hxl⟩]) (Nj (De (v := .sc (.int .i64 ((s.size : Int) - 1))) (fun k => Xq _ _ _ (by omega) (by omega)) (De (v := .sc (.int .i64 ((s.size : Int) - 1 - 2))) (fun k => Xq _ _ _ (by omega) (by omega)) (De (v := .sc (.bool (decide ((i : Int) > (s.size : Int) - 1 - 2)))) (fun k => rfl) ?_)))))
 by_cases c3 : i + 2 < s.size
 ·refine Tt (by simp; omega) ?_
  have r1 := Li (q + 4 + 1) (fun x H => A8 As E0.tp 110 H x) [] s (q + 4) i 2 (x % 16) 1 2048 (by omega) (by omega) (by omega) (by omega) hs
  rw [hy1] at r1
  refine r1.trans ?_
  by_cases k1 : y1 / 64 = 2
  rotate_left
  rw [if_neg k1]
  exact (Ff _ _ _ _).trans (fails (by unfold Lib.decodeN; rw [if_neg c1, if_neg (by omega), if_neg (by omega), if_neg (by omega)]))
  rw [if_pos k1]
  have r2 := Li (q + 4 + 1) (fun x H => A8 As E0.tp 110 H x) [] s (q + 3) i 2 ((x % 16) * 64 + y1 % 64) 2 2048 (by omega) (by omega) (by omega) (by omega) hs
  rw [hy2] at r2
  refine r2.trans ?_
  by_cases k2 : y2 / 64 = 2
  rotate_left
  rw [if_neg k2]
  exact (Ff _ _ _ _).trans (fails (by unfold Lib.decodeN; rw [if_neg c1, if_neg (by omega), if_neg (by omega), if_neg (by omega)]))
  rw [if_pos k2]
  refine (Xg (q + 4 + 1) (fun x H => A8 As E0.tp 110 H x) [] s (q + 4) rfl (q + 2) i 2 (((x % 16) * 64 + y1 % 64) * 64 + y2 % 64) 2048 (by omega) (by omega) (by omega)).trans ?_
  have hv : ((x % 16) * 64 + y1 % 64) * 64 + y2 % 64 = x % 16 * 4096 + y1 % 64 * 64 + y2 % 64 := by omega
  rw [hv]
  split
  exact (Ff _ _ _ _).trans (goes _ 3 (by unfold Lib.decodeN; rw [if_neg c1, if_neg (by omega), if_pos (by omega), if_pos (by omega)]) (by omega))
  exact (Ff _ _ _ _).trans (fails (by unfold Lib.decodeN; rw [if_neg c1, if_neg (by omega), if_pos (by omega), if_neg (by omega)]))
 exact Qq (by simp; omega) ((Ff _ _ _ _).trans (fails (by unfold Lib.decodeN; rw [if_neg c1, if_neg (by omega), if_neg (by omega), if_neg (by omega)])))
 refine Tt (by rw [hb1]; simp; omega) ?_
 apply Bv (decide ((x : Int) ≥ 240) && decide ((x : Int) < 248))
 intro b hb
 refine De (v := sb (decide ((x : Int) ≥ 240))) (fun k => rfl) (Aa (decide ((x : Int) ≥ 240)) (fun h => ?_) fun h => ?_)
 exact Az h (Az h (De (v := sb (decide ((x : Int) < 248))) (fun k => rfl) (Dg h (Fp hb h) rfl)))
 exact Ay h (Ay h (Df h (Fo hb h) rfl))
 intro b2 hb2
 by_cases d2 : 240 ≤ x ∧ x < 248
 refine Qq (by rw [hb2]; simp; omega) (De (v := .sc (.int .i64 ((x % 8 : Nat) : Int))) (fun k => by show k (.sc (.int .i64 (bits .and .i64 (x : Int) 7))) = _; rw [Aml ⟨x, hxl⟩]) (Nj (De (v := .sc (.int .i64 ((s.size : Int) - 1))) (fun k => Xq _ _ _ (by omega) (by omega)) (De (v := .sc (.int .i64 ((s.size : Int) - 1 - 3))) (fun k => Xq _ _ _ (by omega) (by omega)) (De (v := .sc (.bool (decide ((i : Int) > (s.size : Int) - 1 - 3)))) (fun k => rfl) ?_)))))
 by_cases c3 : i + 3 < s.size
 ·refine Tt (by simp; omega) ?_
  have r1 := Li (q + 4 + 1) (fun x H => A8 As E0.tp 110 H x) [] s (q + 4) i 3 (x % 8) 1 65536 (by omega) (by omega) (by omega) (by omega) hs
  rw [hy1] at r1
  refine r1.trans ?_
  by_cases k1 : y1 / 64 = 2
  rotate_left
  rw [if_neg k1]
  exact (Ff _ _ _ _).trans (fails (by unfold Lib.decodeN; rw [if_neg c1, if_neg (by omega), if_neg (by omega), if_neg (by omega)]))
  rw [if_pos k1]
  have r2 := Li (q + 4 + 1) (fun x H => A8 As E0.tp 110 H x) [] s (q + 3) i 3 ((x % 8) * 64 + y1 % 64) 2 65536 (by omega) (by omega) (by omega) (by omega) hs
  rw [hy2] at r2
  refine r2.trans ?_
  by_cases k2 : y2 / 64 = 2
  rotate_left
  rw [if_neg k2]
  exact (Ff _ _ _ _).trans (fails (by unfold Lib.decodeN; rw [if_neg c1, if_neg (by omega), if_neg (by omega), if_neg (by omega)]))
  rw [if_pos k2]
  have r3 := Li (q + 4 + 1) (fun x H => A8 As E0.tp 110 H x) [] s (q + 2) i 3 (((x % 8) * 64 + y1 % 64) * 64 + y2 % 64) 3 65536 (by omega) (by omega) (by omega) (by omega) hs
  rw [hy3] at r3
  refine r3.trans ?_
  by_cases k3 : y3 / 64 = 2
  rotate_left
  rw [if_neg k3]
  exact (Ff _ _ _ _).trans (fails (by unfold Lib.decodeN; rw [if_neg c1, if_neg (by omega), if_neg (by omega), if_neg (by omega)]))
  rw [if_pos k3]
  refine (Xg (q + 4 + 1) (fun x H => A8 As E0.tp 110 H x) [] s (q + 4) rfl (q + 1) i 3 ((((x % 8) * 64 + y1 % 64) * 64 + y2 % 64) * 64 + y3 % 64) 65536 (by omega) (by omega) (by omega)).trans ?_
  have hv : (((x % 8) * 64 + y1 % 64) * 64 + y2 % 64) * 64 + y3 % 64 = x % 8 * 262144 + y1 % 64 * 4096 + y2 % 64 * 64 + y3 % 64 := by omega
  rw [hv]
  split
  exact (Ff _ _ _ _).trans (goes _ 4 (by unfold Lib.decodeN; rw [if_neg c1, if_neg (by omega), if_neg (by omega), if_pos (by omega), if_pos (by omega)]) (by omega))
  exact (Ff _ _ _ _).trans (fails (by unfold Lib.decodeN; rw [if_neg c1, if_neg (by omega), if_neg (by omega), if_pos (by omega), if_neg (by omega)]))
 exact Qq (by simp; omega) ((Ff _ _ _ _).trans (fails (by unfold Lib.decodeN; rw [if_neg c1, if_neg (by omega), if_neg (by omega), if_neg (by omega)])))
 exact Tt (by rw [hb2]; simp; omega) ((Ff _ _ _ _).trans (fails (by unfold Lib.decodeN; rw [if_neg c1, if_neg (by omega), if_neg (by omega), if_neg (by omega)])))
theorem Yr (N ty : Nat) (a b c : Value) : B5 As E0.tp N ty (.tup [.sc a, .sc b, .sc c]) = (.tup [.sc a, .sc b, .sc c], []) := rfl
theorem AeW (s : ByteArray) : Vw [⟨Bg s, true, false⟩] (.sl 0 0 s.size 1) (Ad s) := fun X => by
 have e2 : Be ([⟨Bg s, true, false⟩] ++ X) 0 0 (s.size * 1) = some (Bg s) := by
  have hl := Ew s
  show (if (0 + s.size * 1 ≤ (Bg s).length) then some (((Bg s).drop 0).take (s.size * 1)) else none) = _
  rw [if_pos (by omega), zaL, zbw, ← hl, zaC]
 rw [Sx, e2, zac]
 have e3 : (Bg s).mapM (Dm ([⟨Bg s, true, false⟩] ++ X) 7) = some (Bg s) := by
  rw [Aby]
  exact AcY _
 rw [e3]
 rfl
theorem Oj {vs : List AV} {i : Nat} {x : AV} {K : AV → Option AV} {r : Option AV} (hx : vs[i]? = some x) (h : K x = r) : Sk (.tup vs) i (fun t => K t) = r := by
 show (vs[i]?).bind _ = r
 rw [hx]
 exact h
theorem Ve (n : Nat) (hn : 1048576 < n) (k : AV → Ab → Option AV) (s : ByteArray) (hs : s.size ≤ 60) : ∀ (b m pos c : Nat), s.size ≤ pos + b → pos ≤ s.size → c ≤ pos → b < m →
  ∃ r : Int, Qa (PR (n + 2) AV) (n + 2) k m (.sl 0 0 s.size 1) (si c) (si pos) [⟨Bg s, true, false⟩] = k (si r) [⟨Bg s, true, false⟩] ∧ (Pz b (s.data.toList.drop pos) = true → 0 ≤ r) ∧ (Pz b (s.data.toList.drop pos) = false → r = -1)
 | b, m + 1, pos, c, hb, hp, hc, hm => by
  rw [Qa]
  simp only [I6, Ez, Ee, Acu, Qr, Fe, Pr.gT, Pr.gF, Pr.hT, Pr.hF, Pr.kT, Pr.kF, Gh]
  have hlen : ∀ k : AV → Option AV, I5 (.sl 0 0 s.size 1) k = k (si s.size) := fun _ => rfl
  rw [hlen, G5, Do]
  by_cases hlt : pos < s.size
  rw [if_pos (by simpa using hlt)]
  obtain ⟨b, rfl⟩ : ∃ b', b = b' + 1 := ⟨b - 1, by omega⟩
  have hne : s.data.toList.drop pos ≠ [] := by
   intro h
   have := congrArg List.length h
   simp at this
   omega
  have hw := Lib.decodeL_width (s.data.toList.drop pos)
  have hle := Lib.decodeL_le (s.data.toList.drop pos) hne
  have hll : (s.data.toList.drop pos).length = s.size - pos := by simp
  rw [hll] at hle
  rw [Pz, if_neg hne]
  generalize hd : Lib.decodeL (s.data.toList.drop pos) = d at hw hle ⊢
  have ht := AjC n hn s pos (by omega) hlt
  rw [hd] at ht
  rw [Kw (vs := [Ad s, .sc (.int .i64 pos)]) rfl (Ds (AeW s) (Ds (Jr _ _) Iq)) ht]
  by_cases hf : d.1 = 65533 ∧ d.2 = 1
  rw [Tl, if_pos hf, Yr, zap, if_pos hf]
  refine ⟨-1, ?_, (fun h => by cases h), (fun _ => rfl)⟩
  refine Oj rfl (Oj rfl (Oj rfl (Zb (Jp rfl (Jp rfl (AeQ rfl (Qq rfl ?_)))))))
  rfl
  rw [Tl, if_neg hf, Yr, zap, if_neg hf]
  by_cases hz : d.1 = 0
  rw [if_pos hz]
  refine ⟨-1, ?_, (fun h => by cases h), (fun _ => rfl)⟩
  refine Oj rfl (Oj rfl (Oj rfl (Zb (Ir rfl (Ir rfl (De (v := .sc (.bool ((d.1 : Int) == 0))) (fun k => rfl) (Acq rfl (Qq (by simp [hz]) ?_))))))))
  rfl
  rw [if_neg hz, zbj]
  obtain ⟨r, h1, h2, h3⟩ := Ve n hn k s hs b m (pos + d.2) (c + 1) (by omega) (by omega) (by omega) (by omega)
  refine ⟨r, ?_, h2, h3⟩
  refine Oj rfl (Oj rfl (Oj rfl (Zb (Ir rfl (Ir rfl (De (v := .sc (.bool ((d.1 : Int) == 0))) (fun k => rfl) (Acq rfl (Tt (by simp; omega) ?_))))))))
  rw [G4 _ _ (by omega)]
  exact h1
  rw [if_neg (by simpa using hlt)]
  have hnil : s.data.toList.drop pos = [] := by
   apply List.drop_of_length_le
   simp
   omega
  refine ⟨c, rfl, fun _ => by omega, fun h => ?_⟩
  rw [hnil] at h
  cases b <;> simp [Pz] at h
theorem AkN (n : Nat) (hn : 1048576 < n) (ty : Nat) (s : ByteArray) : ∃ r : Int, C0 E0 (n + 3) ty 115 [.sc (.string s)] = some (.sc (.int .i64 r)) ∧ (Bo s = true → 0 ≤ r) ∧ (Bo s = false → r = -1) := by
 rw [A7, Aik, f115]
 simp only [H5, Ez, Ee, AhK]
 unfold Bo
 by_cases h : s.size ≤ 60
 obtain ⟨r, h1, h2, h3⟩ := Ve n hn (fun x H => A8 As E0.tp ty H x) s h s.size (n + 2) 0 0 (by omega) (by omega) (by omega) (by omega)
 refine ⟨r, ?_, ?_, ?_⟩
 refine AhF (De (v := .sc (.bool (decide ((s.size : Int) > 60)))) (fun k => rfl) (Tt (by simp; omega) ?_))
 simp only [W6, asS, zac]
 rw [if_pos (by omega)]
 exact h1
 intro hv
 refine h2 ?_
 simpa [h] using hv
 intro hv
 refine h3 ?_
 simpa [h] using hv
 refine ⟨-1, ?_, (fun hv => by simp [h] at hv), (fun _ => rfl)⟩
 refine AhF (De (v := .sc (.bool (decide ((s.size : Int) > 60)))) (fun k => rfl) (Qq (by simp; omega) ?_))
 rfl
theorem I3 (n : Nat) (hn : 1048576 < n) (ty : Nat) (s : ByteArray) : C0 E0 (n + 4) ty 80 [.sc (.string s)] = some (.sc (.bool (Bo s))) := by
 rw [A7, Al0, f80]
 simp only [Ez]
 obtain ⟨r, h1, h2, h3⟩ := AkN n hn 3 s
 refine Ku rfl (Ds (Jr _ _) Iq) h1 (De (v := sb (decide (r ≥ 0))) (fun k => rfl) (Xx ?_))
 cases hv : Bo s
 rw [h3 hv]
 rfl
 simpa using h2 hv
theorem Ahh {β : Type} {n : Nat} {H : Ab} {r : Option β} {ty f : Nat} {g : Nat → List AV → Option AV} {args vs : List AV} {v : Value} {K : KO β} (hg : E0.ext f = some g) (hv : args.mapM (Dm H 8) = some vs) (ht : g ty vs = some (.sc v)) (h : K (.sc v) H = r) : (PR n β).call ty (.fn f [] []) args H (fun x H => K x H) = r := by
 rw [Abq hg hv ht, Hw, zap]
 exact h
theorem M3 (ty : Nat) (s : ByteArray) (hs : okS s) : Zm ty [.sc (.string s)] = some (.sc (.bool (Bo s))) := by
 have hm : maxLen = 9223372036854775807 := by decide
 show (if s.size ≤ maxLen then _ else _) = _
 rw [hm, if_pos (show s.size ≤ 9223372036854775807 from hs)]
end
section
open Go
section own
variable {ti : Nat → Option TI} {tp : Nat → Option (List Nat)}
theorem Ho {f : Nat → AV → Option (AV × List Nat)} {t : Nat} {ts : List Nat} {x : AV} {xs : List AV} {p : List AV × List Nat} (h : D7 f (t :: ts) (x :: xs) = some p) :
  ∃ a b, f t x = some a ∧ D7 f ts xs = some b ∧ p = (a.1 :: b.1, a.2 ++ b.2) := by
 simp only [D7, zab] at h
 obtain ⟨a, h1, b, h2, h3⟩ := h
 exact ⟨a, b, h1, h2, (Option.some.inj h3).symm⟩
theorem Je {f : Nat → AV → Option (AV × List Nat)} {ts : List Nat} {p : List AV × List Nat} (h : D7 f ts [] = some p) : ts = [] ∧ p = ([], []) := by
 cases ts with
 | nil => exact ⟨rfl, (Option.some.inj h).symm⟩
 | cons t ts => simp [D7] at h
theorem W1 {f : Nat → AV → Option (AV × List Nat)} : ∀ {ts : List Nat} {xs : List AV} {p : List AV × List Nat}, D7 f ts xs = some p → ts.length = xs.length ∧ p.1.length = xs.length
 | ts, [], p, h => by
  obtain ⟨rfl, rfl⟩ := Je h
  exact ⟨rfl, rfl⟩
 | [], _ :: _, p, h => by simp [D7] at h
 | t :: ts, x :: xs, p, h => by
  obtain ⟨a, b, h1, h2, rfl⟩ := Ho h
  obtain ⟨e1, e2⟩ := W1 h2
  simp [e1, e2]
theorem Ps {f : Nat → AV → Option (AV × List Nat)} : ∀ {ts us : List Nat} {xs ys : List AV} {p q : List AV × List Nat}, D7 f ts xs = some p → D7 f us ys = some q → D7 f (ts ++ us) (xs ++ ys) = some (p.1 ++ q.1, p.2 ++ q.2)
 | ts, us, [], ys, p, q, h, h' => by
  obtain ⟨rfl, rfl⟩ := Je h
  exact h'
 | [], _, _ :: _, _, _, _, h, _ => by simp [D7] at h
 | t :: ts, us, x :: xs, ys, p, q, h, h' => by
  obtain ⟨a, b, h1, h2, rfl⟩ := Ho h
  have ih := Ps h2 h'
  rw [zau, zau, D7, h1, zac, ih]
  simp
theorem G8 {f f' : Nat → AV → Option (AV × List Nat)} : ∀ {ts : List Nat} {xs : List AV} {p : List AV × List Nat}, (∀ t x a, f t x = some a → (∀ i ∈ a.2, i ∈ p.2) → f' t x = some a) → D7 f ts xs = some p → D7 f' ts xs = some p
 | ts, [], p, _, h => by
  obtain ⟨rfl, rfl⟩ := Je h
  rfl
 | [], _ :: _, p, _, h => by simp [D7] at h
 | t :: ts, x :: xs, p, hf, h => by
  obtain ⟨a, b, h1, h2, rfl⟩ := Ho h
  have e1 := hf t x a h1 fun i hi => za8 _ hi
  have e2 := G8 (f' := f') (fun t x a' h hi => hf t x a' h fun i hi' => zaE _ (hi i hi')) h2
  rw [D7, e1, zac, e2]
  rfl
theorem Fz {H H' : Ab} : ∀ (d ty : Nat) (x : AV) (p : AV × List Nat), C9 ti tp H d ty x = some p → (∀ i ∈ p.2, H'[i]? = H[i]?) → C9 ti tp H' d ty x = some p
 | 0, _, _, _, h, _ => by simp [C9] at h
 | d + 1, ty, x, p, h, hs => by
  cases x with
  | sc v => exact h
  | nl => exact h
  | sl id off n z =>
   rw [Jg] at h ⊢
   simp only [zab] at h
   obtain ⟨i, h1, j, h2, h3⟩ := h
   split at h3
   case isFalse => cases h3
   rename_i hz
   split at h3
   case isFalse => cases h3
   rename_i ha
   simp only [zab] at h3
   obtain ⟨cs, h4, q, h5, h6⟩ := h3
   obtain rfl := (Option.some.inj h6).symm
   have hid := hs id zay
   have e1 : Js H' id = true := by simpa only [Js, hid] using ha
   have e2 : Be H' id off (n * z) = some cs := by simpa only [Be, hid] using h4
   have e3 := G8 (f' := C9 ti tp H' d) (fun t x a h hi => Fz d t x a h fun i' hi' => hs i' (zat _ (hi i' hi'))) h5
   simp only [h1, h2, zac, hz, if_true, e1, e3]
   rw [hz] at e2
   rw [e2]
   simp only [zac, e3]
  | agg cs =>
   rw [Jf] at h ⊢
   simp only [zab] at h
   obtain ⟨i, h1, q, h2, h3⟩ := h
   obtain rfl := (Option.some.inj h3).symm
   have e3 := G8 (f' := C9 ti tp H' d) (fun t x a h hi => Fz d t x a h fun i' hi' => hs i' (hi i' hi')) h2
   rw [h1, zac, e3]
   rfl
  | tup cs =>
   rw [Kg] at h ⊢
   simp only [zab] at h
   obtain ⟨i, h1, q, h2, h3⟩ := h
   obtain rfl := (Option.some.inj h3).symm
   have e3 := G8 (f' := C9 ti tp H' d) (fun t x a h hi => Fz d t x a h fun i' hi' => hs i' (hi i' hi')) h2
   rw [h1, zac, e3]
   rfl
  | _ => simp [C9] at h
theorem Sh {f : Nat → AV → Option (AV × List Nat)} {N : Nat} : ∀ {ts : List Nat} {xs : List AV} {p : List AV × List Nat}, (∀ t x a, f t x = some a → ∀ i ∈ a.2, i < N) → D7 f ts xs = some p → ∀ i ∈ p.2, i < N
 | ts, [], p, _, h => by
  obtain ⟨rfl, rfl⟩ := Je h
  intro i hi
  cases hi
 | [], _ :: _, p, _, h => by simp [D7] at h
 | t :: ts, x :: xs, p, hf, h => by
  obtain ⟨a, b, h1, h2, rfl⟩ := Ho h
  intro i hi
  rcases zaQ.1 hi with hi | hi
  ·exact hf t x a h1 i hi
  ·exact Sh hf h2 i hi
theorem Pu {H : Ab} : ∀ (d ty : Nat) (x : AV) (p : AV × List Nat), C9 ti tp H d ty x = some p → ∀ i ∈ p.2, i < H.length
 | 0, _, _, _, h => by simp [C9] at h
 | d + 1, ty, x, p, h => by
  cases x with
  | sc v =>
   obtain rfl := (Option.some.inj h).symm
   intro i hi
   cases hi
  | nl =>
   obtain rfl := (Option.some.inj h).symm
   intro i hi
   cases hi
  | sl id off n z =>
   rw [Jg] at h
   simp only [zab] at h
   obtain ⟨i, h1, j, h2, h3⟩ := h
   split at h3
   case isFalse => cases h3
   split at h3
   case isFalse => cases h3
   rename_i ha
   simp only [zab] at h3
   obtain ⟨cs, h4, q, h5, h6⟩ := h3
   obtain rfl := (Option.some.inj h6).symm
   intro i' hi'
   rcases zbF.1 hi' with rfl | hi'
   ·unfold Js at ha
    cases hg : H[i']? with
    | none => rw [hg] at ha; cases ha
    | some b => exact (zae.1 hg).1
   ·exact Sh (fun t x a h => Pu d t x a h) h5 i' hi'
  | agg cs =>
   rw [Jf] at h
   simp only [zab] at h
   obtain ⟨i, h1, q, h2, h3⟩ := h
   obtain rfl := (Option.some.inj h3).symm
   exact Sh (fun t x a h => Pu d t x a h) h2
  | tup cs =>
   rw [Kg] at h
   simp only [zab] at h
   obtain ⟨i, h1, q, h2, h3⟩ := h
   obtain rfl := (Option.some.inj h3).symm
   exact Sh (fun t x a h => Pu d t x a h) h2
  | _ => simp [C9] at h
end own
def OwnC (d : Nat) (H : Ab) (ts : List Nat) (raw cells : List AV) (ids : List Nat) : Prop := D7 (C9 As E0.tp H d) ts raw = some (cells, ids)
theorem OwnC.frame {d : Nat} {H H' : Ab} {ts : List Nat} {raw cells : List AV} {ids : List Nat} (h : OwnC d H ts raw cells ids) (hs : ∀ i ∈ ids, H'[i]? = H[i]?) : OwnC d H' ts raw cells ids :=
 G8 (fun t x a h hi => Fz d t x a h fun i hi' => hs i (hi i hi')) h
theorem OwnC.lt {d : Nat} {H : Ab} {ts : List Nat} {raw cells : List AV} {ids : List Nat} (h : OwnC d H ts raw cells ids) : ∀ i ∈ ids, i < H.length := Sh (fun t x a h => Pu d t x a h) h
theorem OwnC.grow {d : Nat} {H : Ab} {ts : List Nat} {raw cells : List AV} {ids : List Nat} (h : OwnC d H ts raw cells ids) (X : List Jm) : OwnC d (H ++ X) ts raw cells ids :=
 h.frame fun i hi => zak (h.lt i hi)
theorem OwnC.append {d : Nat} {H : Ab} {ts us : List Nat} {raw raw' cells cells' : List AV} {ids ids' : List Nat} (h : OwnC d H ts raw cells ids) (h' : OwnC d H us raw' cells' ids') : OwnC d H (ts ++ us) (raw ++ raw') (cells ++ cells') (ids ++ ids') := Ps h h'
theorem OwnC.len {d : Nat} {H : Ab} {ts : List Nat} {raw cells : List AV} {ids : List Nat} (h : OwnC d H ts raw cells ids) : ts.length = raw.length ∧ cells.length = raw.length := W1 h
def OwnS (d : Nat) (H : Ab) (w : Nat) (cty : List Nat) (x : AV) (k : Nat) (cells : List AV) : Prop :=
 (x = .nl ∧ k = 0 ∧ cells = []) ∨ ∃ id raw ids, x = .sl id 0 k w ∧ H[id]? = some ⟨raw, true, true⟩ ∧ raw.length = k * w ∧ OwnC d H (zai k cty).flatten raw cells ids ∧ (id :: ids).Nodup
theorem OwnS.nil (d : Nat) (H : Ab) (w : Nat) (cty : List Nat) : OwnS d H w cty .nl 0 [] := .inl ⟨rfl, rfl, rfl⟩
theorem OwnS.grow {d : Nat} {H : Ab} {w : Nat} {cty : List Nat} {x : AV} {k : Nat} {cells : List AV} (h : OwnS d H w cty x k cells) (X : List Jm) : OwnS d (H ++ X) w cty x k cells := by
 rcases h with h | ⟨id, raw, ids, h1, h2, h3, h4, h5⟩
 ·exact .inl h
 ·exact .inr ⟨id, raw, ids, h1, by rw [zak (zae.1 h2).1]; exact h2, h3, h4.grow X, h5⟩
variable {β : Type} {n : Nat} {r : Option β}
theorem Amd (A : Ab) (b b' : Jm) (R : Ab) : (A ++ b :: R).set A.length b' = A ++ b' :: R := by
 rw [List.set_append_right _ _ (zan _), zba]
 rfl
theorem Zw (A : Ab) (b : Jm) (R : Ab) : (A ++ b :: R)[A.length]? = some b := by
 rw [zaj (zan _), zba]
 rfl
theorem AhO {d : Nat} {H X : Ab} {w bytes : Nat} {cty : List Nat} {x : AV} {k : Nat} {cells er ec : List AV} {eids : List Nat} {K : KO β} (hx : OwnS d H w cty x k cells) (hw : er.length = w) (hl : er.all Bk = true)
  (he : OwnC d (H ++ X) cty er ec eids) (hn : eids.Nodup) (hge : ∀ i ∈ eids, H.length ≤ i) (hb : (k + 1) * bytes ≤ 140737488355328)
  (h : ∀ x' H', OwnS d H' w cty x' (k + 1) (cells ++ ec) → K x' H' = r) :
  Gx 1 w er true (H ++ X) (fun y G => K7 w bytes x y G K) = r := by
 have hy : ∀ G : Ab, Dt (G ++ [⟨er, true, true⟩]) w (.sl G.length 0 1 w) = some er := by
  intro G
  simp only [Dt, if_true, Nat.one_mul, Be, Zw G _ [], za1, hw, zan, zaL]
  rw [← hw, zaC]
 have hell : (H ++ X).length ∉ eids := fun hm => Nat.lt_irrefl _ (he.lt _ hm)
 rcases hx with ⟨rfl, rfl, rfl⟩ | ⟨id, raw, ids, rfl, h2, h3, h4, h5⟩
 ·simp only [Gx, K7, Jo, zac, hy]
  rw [show Dt (H ++ X ++ [⟨er, true, true⟩]) w .nl = some [] from rfl]
  simp only [zac, S9]
  rw [if_pos hb, if_pos hl]
  refine h _ _ (.inr ⟨_, er, eids, rfl, ?_, by simp [hw], ?_, ?_⟩)
  ·rw [zaj (zan _), zba]
   rfl
  ·simp only [za1, List.replicate_one, zaz, zb2, zap, zal]
   exact (he.grow _).grow _
  ·rw [zbe]
   refine ⟨fun hm => ?_, hn⟩
   have := he.lt _ hm
   simp at this
   omega
 ·have hid : id < H.length := (zae.1 h2).1
  have hg : (H ++ X ++ [(⟨er, true, true⟩ : Jm)])[id]? = some ⟨raw, true, true⟩ := by
   rw [zaf, zak hid]
   exact h2
  have hcx : Dt (H ++ X ++ [⟨er, true, true⟩]) w (.sl id 0 k w) = some raw := by
   simp only [Dt, if_true, Be, hg, za1, h3, zan, zaL]
   rw [← h3, zaC]
  simp only [Gx, K7, Jo, zac, hy, hcx, S9, hg, if_true]
  rw [if_pos hb, if_pos hl]
  have hn5 := zbe.1 h5
  have hne : ∀ i ∈ ids, i ≠ id := fun i hi e => hn5.1 (e ▸ hi)
  have hne2 : ∀ i ∈ eids, i ≠ id := fun i hi e => by
   have := hge i hi
   omega
  refine h _ _ (.inr ⟨_, raw ++ er, ids ++ eids, rfl, ?_, by simp [h3, hw, zbs], ?_, ?_⟩)
  ·rw [zaj (zan _), zba]
   rfl
  ·have e : (zai (k + 1) cty).flatten = (zai k cty).flatten ++ cty := by
    rw [List.replicate_succ', zbm]
    simp
   rw [e]
   refine OwnC.append ?_ ?_
   ·refine OwnC.grow (OwnC.frame (H := H ++ X ++ [⟨er, true, true⟩]) ((h4.grow X).grow _) fun i hi => ?_) _
    rw [zb9 (fun e => hne i hi e.symm)]
   ·refine OwnC.grow (OwnC.frame (H := H ++ X ++ [⟨er, true, true⟩]) (he.grow _) fun i hi => ?_) _
    rw [zb9 (fun e => hne2 i hi e.symm)]
  ·rw [zbe]
   refine ⟨fun hm => ?_, ?_⟩
   ·rcases zaQ.1 hm with hm | hm
    ·have := h4.lt _ hm
     simp at this
     omega
    ·have := he.lt _ hm
     simp at this
     omega
   ·rw [zaU]
    refine ⟨hn5.2, hn, fun a ha b hb e => ?_⟩
    have h1 := h4.lt a ha
    have h2 := hge b hb
    omega
theorem Aj2 {d : Nat} {H : Ab} {w tyS k : Nat} {cty : List Nat} {x : AV} {cells : List AV} (hty : ∃ i j, As tyS = some i ∧ As i.elem = some j ∧ j.size = w ∧ j.cty = cty) (h : OwnS d H w cty x k cells) : ∃ ids, C9 As E0.tp H (d + 1) tyS x = some (.ro k cells, ids) ∧ ids.Nodup := by
 rcases h with ⟨rfl, rfl, rfl⟩ | ⟨id, raw, ids, rfl, h2, h3, h4, h5⟩
 ·exact ⟨[], rfl, List.nodup_nil⟩
 ·obtain ⟨i, j, e1, e2, rfl, rfl⟩ := hty
  refine ⟨id :: ids, ?_, h5⟩
  rw [Jg]
  have ha : Js H id = true := by simp only [Js, h2]
  have hr : Be H id 0 (k * j.size) = some raw := by
   simp only [Be, h2, if_true, za1, h3, zan, zaL]
   rw [← h3, zaC]
  have h4' : D7 (C9 As E0.tp H d) (zai k j.cty).flatten raw = some (cells, ids) := h4
  simp only [e1, e2, zac, if_true, ha, hr, h4']
end
section
open Go
def C3 (s : ByteArray) : Bool := Bo s && !(s.toList == (⟨#[]⟩ : ByteArray).toList) && !(Ip s 43) && !(Ip s 35) && decide (((Bl s).length : Int) ≤ 6)
section
variable {β : Type} {n : Nat} {H : Ab} {r : Option β}
theorem AcX {ty f len : Nat} {args vs cells : List AV} {K : KO β} (hh : F3 f = false) (hv : args.mapM (Dm H 8) = some vs) (ht : C0 E0 n ty f vs = some (.ro len cells)) (h : ∀ N X sz, K (.sl N 0 len sz) (H ++ X) = r) : (PR n β).call ty (.fn f [] []) args H (fun x H => K x H) = r := by
 rw [Kw hh hv ht]
 exact h _ _ _
theorem AhD {b b' : Bool} (h : b = b') : some (AV.sc (.bool b)) = some (AV.sc (.bool b')) := by rw [h]
theorem AhE {id off m w : Nat} {K : AV → Option β} (h : K (.sc (.int .i64 m)) = r) : I5 (.sl id off m w) (fun t => K t) = r := h
end
section has
variable (n : Nat) (k : AV → Ab → Option AV) (H : Ab)
theorem AaC (s : ByteArray) (b : UInt8) (hs : s.size ≤ 1048576) : ∀ (r pre : List UInt8) (m : Nat), s.data.toList = pre ++ r → r.length < m →
  Ny (PR n AV) n k m (ss s) (su b.toNat) (si pre.length) H = k (sb (r.any fun c => c == b)) H
 | [], pre, m + 1, hl, hm => by
  have h1 : s.size = pre.length := by
   have := congrArg List.length hl
   simpa using this
  rw [Ny]
  simp only [H5, Ez, Ee]
  rw [Wp, G5, h1, Do, if_neg (by simp)]
  rfl
 | c :: r, pre, m + 1, hl, hm => by
  have h1 : s.size = pre.length + r.length + 1 := by
   have := congrArg List.length hl
   simpa [za9] using this
  rw [Ny]
  simp only [H5, Ez, Ee, Ns]
  rw [Wp, G5, Do, if_pos (by simp; omega), Ak1 s pre.length c _ (by rw [hl]; simp)]
  have he : ∀ K : AV → Option AV, Ci .eql (su (c.toNat : Int)) (su (b.toNat : Int)) K = K (sb (c == b)) := by
   intro K
   show K (.sc (.bool ((c.toNat : Int) == (b.toNat : Int)))) = _
   congr 3
   rw [zb6, beq_iff_eq, beq_iff_eq, Int.ofNat_inj, UInt8.toNat_inj]
  rw [he, Do, zb8]
  cases hcb : (c == b)
  rw [if_neg (by simp), G4 _ _ (by omega)]
  have ih := AaC s b hs r (pre ++ [c]) m (by rw [hl]; simp) (by simpa using hm)
  rw [zad, zas] at ih
  rw [ih]
  rfl
  rw [if_pos rfl]
  rfl
end has
theorem AmI (n : Nat) (hn : 1048576 < n) (ty : Nat) (s : ByteArray) (b : UInt8) (hs : s.size ≤ 1048576) : C0 E0 (n + 1) ty 127 [.sc (.string s), .sc (.int .u8 b.toNat)] = some (.sc (.bool (Ip s b))) := by
 rw [A7, Ain, f127]
 have key := AaC n (fun x H => A8 As E0.tp ty H x) [] s b hs s.data.toList [] n rfl (by simp; omega)
 simp only [zaw, zaR] at key
 rw [key]
 rfl
theorem Ak0 (n : Nat) (hn : 1048576 < n) (ty : Nat) (s : ByteArray) (hs : s.size ≤ 1048576) : C0 E0 (n + 1) ty 127 [.sc (.string s), .sc (.int .u8 43)] = some (.sc (.bool (Ip s 43))) := AmI n hn ty s 43 hs
theorem AgR (n : Nat) (hn : 1048576 < n) (ty : Nat) (s : ByteArray) (hs : s.size ≤ 1048576) : C0 E0 (n + 1) ty 127 [.sc (.string s), .sc (.int .u8 35)] = some (.sc (.bool (Ip s 35))) := AmI n hn ty s 35 hs
theorem AjM : ∃ i j, As 56 = some i ∧ As i.elem = some j ∧ j.size = 1 ∧ j.cty = [i.elem] := ⟨_, _, rfl, rfl, rfl, rfl⟩
def AjL (l : List UInt8) : AV := .sc (.string (ofL l))
theorem AaO (s : ByteArray) (P cur r : List UInt8) (h : s.data.toList = P ++ (cur ++ r)) : s.extract P.length (P.length + cur.length) = ofL cur := by
 have : (s.extract P.length (P.length + cur.length)).data.toList = cur := by
  rw [ByteArray.data_extract, Array.toList_extract, List.extract, h]
  rw [zaD (zan _), zbq, zal, zbh, List.take_append_of_le_length (zan _), zaC]
 rw [← AaN (s.extract _ _), this]
theorem Yw {H : Ab} {x : AV} {cnt : Nat} {cells : List AV} {K : AV → Ab → Option AV} {r : Option AV} (s : ByteArray) (P cur rest : List UInt8) (hl : s.data.toList = P ++ (cur ++ rest)) (hs : s.size ≤ 1048576) (hx : OwnS 7 H 1 [9] x cnt cells) (hc : cnt ≤ 1048577)
  (h : ∀ x' H', OwnS 7 H' 1 [9] x' (cnt + 1) (cells ++ [AjL cur]) → K x' H' = r) :
  (Qh (ss s) (some (si P.length)) (some (si ((P.length + cur.length : Nat) : Int))) fun t27 => (I1 [sE] [(0, 1, t27)]).bind fun ct28 => Gx 1 1 ct28 true H fun t28 H => K7 1 16 x t28 H K) = r := by
 have hsz : P.length + cur.length ≤ s.size := by
  have := congrArg List.length hl
  simp at this
  omega
 simp only [Qh, asS, Ol, asI, zac]
 rw [if_pos (by omega)]
 simp only [zbl]
 rw [AaO s P cur rest hl]
 have hf : I1 [sE] [(0, 1, ss (ofL cur))] = some [ss (ofL cur)] := rfl
 rw [hf, zac]
 have key := AhO (H := H) (X := []) (bytes := 16) (er := [ss (ofL cur)]) (ec := [AjL cur]) (eids := []) (K := K) (r := r) hx rfl rfl rfl List.nodup_nil (fun i hi => by cases hi) (by omega) h
 rw [zap] at key
 exact key
theorem Wq (n : Nat) (s : ByteArray) (hs : s.size ≤ 1048576) : ∀ (r P cur : List UInt8) (m : Nat) (x : AV) (H : Ab) (cnt : Nat) (cells : List AV), s.data.toList = P ++ (cur ++ r) → r.length + 1 < m → OwnS 7 H 1 [9] x cnt cells → cnt ≤ P.length →
  K3 (PR n AV) n (fun x H => A8 As E0.tp 56 H x) m (ss s) x (si P.length) (si ((P.length + cur.length : Nat) : Int)) H = some (.ro (cnt + (lvL cur r).length) (cells ++ (lvL cur r).map AjL))
 | [], P, cur, m + 2, x, H, cnt, cells, hl, hm, hx, hc => by
  have h1 : s.size = P.length + cur.length := by
   have := congrArg List.length hl
   simpa using this
  rw [K3]
  simp only [H5, Ez, Ee, Fe, Pr.gT, Pr.gF, Pr.hT, Pr.hF, Pr.kT, Pr.kF, Gh, I0, J6, Kc, O0, Ns]
  rw [Wp, Yv, Do, if_pos (by simp; omega), Wp, AjY]
  have he : (((P.length + cur.length : Nat) : Int) == (s.size : Int)) = true := by simp; omega
  refine Jp he (Jp he (Jp he (Jp he (AeQ he (Qq rfl (Yw s P cur [] hl hs hx (by omega) fun x' H' hx' => ?_))))))
  rw [G4 _ _ (by omega), G4 _ _ (by omega)]
  rw [K3]
  simp only [H5, Ez, Ee]
  rw [Wp, Yv, Do, if_neg (by simp; omega)]
  obtain ⟨i, j, e1, e2, e3, e4⟩ := AjM
  obtain ⟨ids, ho, hno⟩ := Aj2 (d := 7) (tyS := 56) (w := 1) (cty := [9]) ⟨_, _, rfl, rfl, rfl, rfl⟩ hx'
  rw [A8, ho, zac, if_pos hno]
  rfl
 | c :: r, P, cur, m + 1, x, H, cnt, cells, hl, hm, hx, hc => by
  have h1 : s.size = P.length + cur.length + r.length + 1 := by
   have := congrArg List.length hl
   simp at this
   omega
  have hidx : s.data.toList[P.length + cur.length]? = some c := by
   rw [hl, ← zaf, ← zad, zaj (zan _), zba]
   rfl
  rw [K3]
  simp only [H5, Ez, Ee, Fe, Pr.gT, Pr.gF, Pr.hT, Pr.hF, Pr.kT, Pr.kF, Gh, I0, J6, Kc, O0, Ns]
  rw [Wp, Yv, Do, if_pos (by simp; omega), Wp, AjY]
  have he : (((P.length + cur.length : Nat) : Int) == (s.size : Int)) = false := by simp; omega
  refine Ir he (Ir he (Ir he ?_))
  rw [Ak1 s (P.length + cur.length) c _ hidx]
  refine Ir he (De (v := sb (c == 47)) (fun K => ?_) ?_)
  show K (.sc (.bool ((c.toNat : Int) == (47 : Int)))) = _
  congr 3
  rw [zb6, beq_iff_eq, beq_iff_eq, show (47 : Int) = (((47 : UInt8).toNat : Nat) : Int) from rfl, Int.ofNat_inj, UInt8.toNat_inj]
  refine Acq he ?_
  rw [lvL]
  by_cases h47 : c = 47
  refine Qq (by simp [h47]) (Yw s P cur (c :: r) hl hs hx (by omega) fun x' H' hx' => ?_)
  rw [G4 _ _ (by omega), G4 _ _ (by omega), if_pos h47]
  have ih := Wq n s hs r (P ++ cur ++ [c]) [] m x' H' (cnt + 1) (cells ++ [AjL cur]) (by rw [hl]; simp) (by simpa using hm) hx' (by simp; omega)
  simp only [zad, zaw, zas, zaM] at ih
  rw [ih]
  simp [za9, zbD]
  refine Tt (by simpa using h47) ?_
  rw [G4 _ _ (by omega), if_neg h47]
  have ih := Wq n s hs r P (cur ++ [c]) m x H cnt cells (by rw [hl]; simp) (by simpa using hm) hx hc
  rw [zad, zas, ← za9] at ih
  exact ih
theorem Ud (n : Nat) (hn : 1048577 < n) (s : ByteArray) (hs : s.size ≤ 1048576) : C0 E0 (n + 1) 56 128 [.sc (.string s)] = some (.ro (Bl s).length ((Bl s).map fun x => .sc (.string x))) := by
 rw [A7, Aio, f128]
 have key := Wq n s hs s.data.toList [] [] n .nl [] 0 [] rfl (by simp; omega) (OwnS.nil _ _ _ _) (by simp)
 simp only [zaw, zaR, za1, zal] at key
 rw [key, Bl, zbG, zbI]
 rfl
theorem T4 (n : Nat) (s : ByteArray) (hs : s.size ≤ 1048576) : C0 E0 (n + 1) 56 137 [.sc (.string s)] = some (.ro (Bl s).length ((Bl s).map fun x => .sc (.string x))) := by
 rw [A7, Aiv, f137]
 have hg : S3 56 [ss s, .sc (.string ⟨#[47]⟩)] = some (.ro (Bl s).length ((Bl s).map fun x => ss x)) := by
  unfold S3
  exact if_pos ⟨rfl, rfl, by omega⟩
 rw [Abq (g := S3) rfl (Ds (Jr _ _) (Ds (Jr _ _) Iq)) hg]
 refine Aj3 [] _ _ ?_
 refine ⟨_, _, rfl, rfl, by simp, ?_⟩
 have := Te (f := H8 As E0.tp 7) (cty := [9]) (enc := fun x : ByteArray => [ss x]) (Bl s) (fun x _ => ⟨trivial, trivial⟩)
 rw [Rv] at this
 exact this
theorem Yg (ty : Nat) (s : ByteArray) (hs : s.size ≤ 1048576) : Vk ty [.sc (.string s), .sc (.string ⟨#[43, 35]⟩)] = some (.sc (.bool (vPH s))) := by
 unfold Vk
 exact if_pos ⟨rfl, by omega⟩
end
section
open Go
section
variable {ti : Nat → Option TI} {tp : Nat → Option (List Nat)} {H : Ab}
theorem Pt {d d' : Nat} (hd : ∀ ty x t I, C9 ti tp H d ty x = some (t, I) → H8 ti tp d' ty t → C9 ti tp H d' ty x = some (t, I)) : ∀ (ts : List Nat) (xs cells : List AV) (I : List Nat), D7 (C9 ti tp H d) ts xs = some (cells, I) → G7 (H8 ti tp d') ts cells → D7 (C9 ti tp H d') ts xs = some (cells, I)
 | ts, [], cells, I, h, _ => by
  obtain ⟨rfl, e⟩ := Je h
  cases e
  rfl
 | [], _ :: _, _, _, h, _ => by simp [D7] at h
 | t :: ts, x :: xs, cells, I, h, ho => by
  obtain ⟨a, b, h1, h2, e⟩ := Ho h
  cases e
  have e1 := hd t x a.1 a.2 h1 ho.1
  have e2 := Pt hd ts xs b.1 b.2 h2 ho.2
  rw [D7, e1, zac, e2]
  rfl
theorem Jh : ∀ (d d' ty : Nat) (x t : AV) (I : List Nat), C9 ti tp H d ty x = some (t, I) → H8 ti tp d' ty t → C9 ti tp H d' ty x = some (t, I)
 | 0, _, _, _, _, _, h, _ => by simp [C9] at h
 | d + 1, 0, _, _, _, _, _, ho => by cases ho
 | d + 1, d' + 1, ty, x, t, I, h, ho => by
  cases x with
  | sc v =>
   obtain ⟨rfl, rfl⟩ : AV.sc v = t ∧ [] = I := by simpa [C9] using h
   rfl
  | nl =>
   obtain ⟨rfl, rfl⟩ : AV.ro 0 [] = t ∧ [] = I := by simpa [C9] using h
   rfl
  | sl id off n z =>
   rw [Jg] at h ⊢
   simp only [zab] at h
   obtain ⟨i, h1, j, h2, h3⟩ := h
   split at h3
   case isFalse => cases h3
   rename_i hz
   split at h3
   case isFalse => cases h3
   rename_i ha
   simp only [zab] at h3
   obtain ⟨cs, h4, q, h5, h6⟩ := h3
   obtain ⟨rfl, rfl⟩ : AV.ro n q.1 = t ∧ id :: q.2 = I := by simpa using h6
   obtain ⟨i', j', g1, g2, g3, g4⟩ := ho
   rw [h1] at g1
   cases g1
   rw [h2] at g2
   cases g2
   have e3 := Pt (fun ty x t I h ho => Jh d d' ty x t I h ho) _ _ _ _ h5 g4
   rw [hz] at h4
   simp only [h1, h2, zac, hz, if_true, ha, h4, e3]
  | agg cs =>
   rw [Jf] at h ⊢
   simp only [zab] at h
   obtain ⟨i, h1, q, h2, h3⟩ := h
   obtain ⟨rfl, rfl⟩ : AV.agg q.1 = t ∧ q.2 = I := by simpa using h3
   obtain ⟨i', g1, g2⟩ := ho
   rw [h1] at g1
   cases g1
   have e3 := Pt (fun ty x t I h ho => Jh d d' ty x t I h ho) _ _ _ _ h2 g2
   rw [h1, zac, e3]
   rfl
  | tup cs =>
   rw [Kg] at h ⊢
   simp only [zab] at h
   obtain ⟨i, h1, q, h2, h3⟩ := h
   obtain ⟨rfl, rfl⟩ : AV.tup q.1 = t ∧ q.2 = I := by simpa using h3
   obtain ⟨i', g1, g2⟩ := ho
   rw [h1] at g1
   cases g1
   have e3 := Pt (fun ty x t I h ho => Jh d d' ty x t I h ho) _ _ _ _ h2 g2
   rw [h1, zac, e3]
   rfl
  | _ => simp [C9] at h
theorem Y6 {d : Nat} (hd : ∀ ty x t I, C9 ti tp H d ty x = some (t, I) → Dm H d x = some t) : ∀ (ts : List Nat) (xs cells : List AV) (I : List Nat), D7 (C9 ti tp H d) ts xs = some (cells, I) → xs.mapM (Dm H d) = some cells
 | ts, [], cells, I, h => by
  obtain ⟨rfl, e⟩ := Je h
  cases e
  rfl
 | [], _ :: _, _, _, h => by simp [D7] at h
 | t :: ts, x :: xs, cells, I, h => by
  obtain ⟨a, b, h1, h2, e⟩ := Ho h
  cases e
  simp only [zaF, hd t x a.1 a.2 h1, Y6 hd ts xs b.1 b.2 h2, zaW, zaJ, zac]
theorem Pv : ∀ (d ty : Nat) (x t : AV) (I : List Nat), C9 ti tp H d ty x = some (t, I) → Dm H d x = some t
 | 0, _, _, _, _, h => by simp [C9] at h
 | d + 1, ty, x, t, I, h => by
  have ih := Y6 (ti := ti) (tp := tp) (H := H) (d := d) (fun ty x t I h => Pv d ty x t I h)
  cases x with
  | sc v =>
   obtain ⟨rfl, rfl⟩ : AV.sc v = t ∧ [] = I := by simpa [C9] using h
   rfl
  | nl =>
   obtain ⟨rfl, rfl⟩ : AV.ro 0 [] = t ∧ [] = I := by simpa [C9] using h
   rfl
  | sl id off n z =>
   rw [Jg] at h
   simp only [zab] at h
   obtain ⟨i, h1, j, h2, h3⟩ := h
   split at h3
   case isFalse => cases h3
   split at h3
   case isFalse => cases h3
   simp only [zab] at h3
   obtain ⟨cs, h4, q, h5, h6⟩ := h3
   obtain ⟨rfl, rfl⟩ : AV.ro n q.1 = t ∧ id :: q.2 = I := by simpa using h6
   rw [Sx, h4, zac, ih _ _ _ _ h5]
   rfl
  | agg cs =>
   rw [Jf] at h
   simp only [zab] at h
   obtain ⟨i, h1, q, h2, h3⟩ := h
   obtain ⟨rfl, rfl⟩ : AV.agg q.1 = t ∧ q.2 = I := by simpa using h3
   rw [Ni, ih _ _ _ _ h2]
   rfl
  | tup cs =>
   rw [Kg] at h
   simp only [zab] at h
   obtain ⟨i, h1, q, h2, h3⟩ := h
   obtain ⟨rfl, rfl⟩ : AV.tup q.1 = t ∧ q.2 = I := by simpa using h3
   show (cs.mapM (Dm H d)).bind _ = _
   rw [ih _ _ _ _ h2]
   rfl
  | _ => simp [C9] at h
theorem Na {f g : Nat → AV → Prop} (hfg : ∀ t x, f t x → g t x) : ∀ {ts : List Nat} {cs : List AV}, G7 f ts cs → G7 g ts cs
 | [], [], h => h
 | _ :: ts, _ :: cs, h => ⟨hfg _ _ h.1, Na hfg h.2⟩
theorem Sg : ∀ (d ty : Nat) (x : AV), H8 ti tp d ty x → H8 ti tp (d + 1) ty x
 | 0, _, _, h => by cases h
 | d + 1, ty, x, h => by
  cases x with
  | sc v => trivial
  | ro n cells =>
   obtain ⟨i, j, h1, h2, h3, h4⟩ := h
   exact ⟨i, j, h1, h2, h3, Na (Sg d) h4⟩
  | agg cs =>
   obtain ⟨i, h1, h2⟩ := h
   exact ⟨i, h1, Na (Sg d) h2⟩
  | tup cs =>
   obtain ⟨i, h1, h2⟩ := h
   exact ⟨i, h1, Na (Sg d) h2⟩
  | _ => cases h
theorem Bs {d d' ty : Nat} {x : AV} (h : H8 ti tp d ty x) (hd : d ≤ d') : H8 ti tp d' ty x := by
 induction hd with
 | refl => exact h
 | step _ ih => exact Sg _ _ _ ih
theorem Aj0 {d d' : Nat} {ts : List Nat} {cs : List AV} (h : G7 (H8 ti tp d) ts cs) (hd : d ≤ d') : G7 (H8 ti tp d') ts cs := Na (fun _ _ h => Bs h hd) h
end
inductive Ck where
 | blk (id : Nat) (cs : List AV) (a : Bool)
 | own (x : AV) (ty : Nat) (t : AV)
 | shr (x : AV) (ty : Nat) (t : AV) (y : AV) (ty' : Nat) (t' : AV)
 | shs (x : AV) (ty : Nat) (t : AV) (ys : List (AV × Nat × AV))
def CkOk (H : Ab) (c : Ck) (I : List Nat) : Prop :=
 match c with
 | .blk id cs a => I = [id] ∧ H[id]? = some ⟨cs, true, a⟩
 | .own x ty t => Bk x = true ∧ H8 As E0.tp 6 ty t ∧ C9 As E0.tp H 6 ty x = some (t, I)
 | .shr x ty t y ty' t' => (Bk x = true ∧ H8 As E0.tp 6 ty t ∧ C9 As E0.tp H 6 ty x = some (t, I)) ∧ H8 As E0.tp 6 ty' t' ∧ ∃ J, C9 As E0.tp H 6 ty' y = some (t', J) ∧ ∀ i ∈ J, i ∈ I
 | .shs x ty t ys => (Bk x = true ∧ H8 As E0.tp 6 ty t ∧ C9 As E0.tp H 6 ty x = some (t, I)) ∧ ∀ q ∈ ys, H8 As E0.tp 6 q.2.1 q.2.2 ∧ ∃ J, C9 As E0.tp H 6 q.2.1 q.1 = some (q.2.2, J) ∧ ∀ i ∈ J, i ∈ I
def SepI (H : Ab) : List Ck → List Nat → Prop
 | [], I => I = []
 | c :: L, I => ∃ J R, I = J ++ R ∧ CkOk H c J ∧ SepI H L R
def Sep (H : Ab) (L : List Ck) : Prop := ∃ I, SepI H L I ∧ I.Nodup
inductive Pk : List Ck → Ck → List Ck → Prop
 | here {c : Ck} {L : List Ck} : Pk (c :: L) c L
 | there {a c : Ck} {L L' : List Ck} : Pk L c L' → Pk (a :: L) c (a :: L')
section
variable {H H' : Ab} {L L' L1 L2 : List Ck} {c : Ck} {I J R : List Nat}
theorem Ch : Sep H [] := ⟨[], rfl, List.nodup_nil⟩
theorem CkOk.frame (h : CkOk H c I) (hs : ∀ i ∈ I, H'[i]? = H[i]?) : CkOk H' c I := by
 cases c with
 | blk id cs a =>
  obtain ⟨rfl, h2⟩ := h
  exact ⟨rfl, by rw [hs id (by simp)]; exact h2⟩
 | own x ty t => exact ⟨h.1, h.2.1, Fz 6 ty x _ h.2.2 hs⟩
 | shr x ty t y ty' t' =>
  obtain ⟨⟨h1, h2, h3⟩, h4, J, h5, h6⟩ := h
  exact ⟨⟨h1, h2, Fz 6 ty x _ h3 hs⟩, h4, J, Fz 6 ty' y _ h5 fun i hi => hs i (h6 i hi), h6⟩
 | shs x ty t ys =>
  obtain ⟨⟨h1, h2, h3⟩, h4⟩ := h
  exact ⟨⟨h1, h2, Fz 6 ty x _ h3 hs⟩, fun q hq => by
   obtain ⟨g1, J, g2, g3⟩ := h4 q hq
   exact ⟨g1, J, Fz 6 _ _ _ g2 fun i hi => hs i (g3 i hi), g3⟩⟩
theorem CkOk.lt (h : CkOk H c I) : ∀ i ∈ I, i < H.length := by
 cases c with
 | blk id cs a =>
  obtain ⟨rfl, h2⟩ := h
  intro i hi
  rw [zbg] at hi
  subst hi
  exact (zae.1 h2).1
 | own x ty t => exact Pu 6 ty x _ h.2.2
 | shr x ty t y ty' t' => exact Pu 6 ty x _ h.1.2.2
 | shs x ty t ys => exact Pu 6 ty x _ h.1.2.2
theorem SepI.frame : ∀ {L : List Ck} {I : List Nat}, SepI H L I → (∀ i ∈ I, H'[i]? = H[i]?) → SepI H' L I
 | [], I, h, _ => h
 | c :: L, I, h, hs => by
  obtain ⟨J, R, rfl, h1, h2⟩ := h
  exact ⟨J, R, rfl, h1.frame fun i hi => hs i (za8 _ hi), h2.frame fun i hi => hs i (zaE _ hi)⟩
theorem SepI.lt : ∀ {L : List Ck} {I : List Nat}, SepI H L I → ∀ i ∈ I, i < H.length
 | [], I, h => by
  cases (show I = [] from h)
  intro i hi
  cases hi
 | c :: L, I, h => by
  obtain ⟨J, R, rfl, h1, h2⟩ := h
  intro i hi
  rcases zaQ.1 hi with hi | hi
  ·exact h1.lt i hi
  ·exact h2.lt i hi
theorem SepI.grow (h : SepI H L I) (X : List Jm) : SepI (H ++ X) L I := h.frame fun i hi => zak (h.lt i hi)
theorem Sep.grow (h : Sep H L) (X : List Jm) : Sep (H ++ X) L := by
 obtain ⟨I, h1, h2⟩ := h
 exact ⟨I, h1.grow X, h2⟩
theorem Sep.new {X : List Jm} (hs : Sep H L) (hc : CkOk (H ++ X) c J) (hJ : J.Nodup) (hge : ∀ i ∈ J, H.length ≤ i) : Sep (H ++ X) (c :: L) := by
 obtain ⟨I, h1, h2⟩ := hs
 refine ⟨J ++ I, ⟨J, I, rfl, hc, h1.grow X⟩, zaU.2 ⟨hJ, h2, fun a ha b hb e => ?_⟩⟩
 have := h1.lt b hb
 have := hge a ha
 omega
theorem Pk.sepI : ∀ {L L' : List Ck} {c : Ck} {I : List Nat}, Pk L c L' → SepI H L I → ∃ J R, CkOk H c J ∧ SepI H L' R ∧ I.Perm (J ++ R)
 | _, _, _, _, .here, h => by
  obtain ⟨J, R, rfl, h1, h2⟩ := h
  exact ⟨J, R, h1, h2, zb7.refl _⟩
 | _, _, _, _, .there p, h => by
  obtain ⟨J, R, rfl, h1, h2⟩ := h
  obtain ⟨J', R', g1, g2, g3⟩ := p.sepI h2
  refine ⟨J', J ++ R', g1, ⟨J, R', rfl, h1, g2⟩, ?_⟩
  refine (zb7.append_left J g3).trans ?_
  rw [← zaf, ← zaf]
  exact zb7.append_right R' List.perm_append_comm
theorem Sep.pick (h : Sep H L) (p : Pk L c L') : Sep H (c :: L') := by
 obtain ⟨I, h1, h2⟩ := h
 obtain ⟨J, R, g1, g2, g3⟩ := p.sepI h1
 exact ⟨J ++ R, ⟨J, R, rfl, g1, g2⟩, g3.nodup_iff.1 h2⟩
theorem Sep.tail (h : Sep H (c :: L)) : Sep H L := by
 obtain ⟨I, ⟨J, R, rfl, h1, h2⟩, h3⟩ := h
 exact ⟨R, h2, (zaU.1 h3).2.1⟩
theorem Sep.blk {id : Nat} {cs : List AV} {a : Bool} (h : Sep H L) (p : Pk L (.blk id cs a) L') : H[id]? = some ⟨cs, true, a⟩ := by
 obtain ⟨I, ⟨J, R, rfl, h1, h2⟩, h3⟩ := h.pick p
 exact h1.2
theorem Sep.put {id : Nat} {cs : List AV} {a : Bool} (h : Sep H L) (p : Pk L (.blk id cs a) L') (cs' : List AV) (a' : Bool) : Sep (H.set id ⟨cs', true, a'⟩) (.blk id cs' a' :: L') := by
 obtain ⟨I, ⟨J, R, rfl, ⟨rfl, h1⟩, h2⟩, h3⟩ := h.pick p
 have hn := (zbe.1 h3).1
 have hl := (zae.1 h1).1
 refine ⟨[id] ++ R, ⟨[id], R, rfl, ⟨rfl, by rw [List.getElem?_set_self hl]⟩, h2.frame fun i hi => ?_⟩, h3⟩
 rw [zb9]
 rintro rfl
 exact hn hi
theorem Sep.own {x t : AV} {ty : Nat} (h : Sep H L) (p : Pk L (.own x ty t) L') : Bk x = true ∧ H8 As E0.tp 6 ty t ∧ ∃ I, C9 As E0.tp H 6 ty x = some (t, I) ∧ I.Nodup := by
 obtain ⟨I, ⟨J, R, rfl, ⟨h0, h1, h1'⟩, h2⟩, h3⟩ := h.pick p
 exact ⟨h0, h1, J, h1', (zaU.1 h3).1⟩
theorem Sep.seen {x t y t' : AV} {ty ty' : Nat} (h : Sep H L) (p : Pk L (.shr x ty t y ty' t') L') : H8 As E0.tp 6 ty' t' ∧ ∃ I, C9 As E0.tp H 6 ty' y = some (t', I) := by
 obtain ⟨I, ⟨J, R, rfl, ⟨h0, h1, J', h1', h3⟩, h2⟩, h4⟩ := h.pick p
 exact ⟨h1, J', h1'⟩
theorem Sep.ofShs {x t : AV} {ty : Nat} {ys : List (AV × Nat × AV)} (h : Sep H L) (p : Pk L (.shs x ty t ys) L') : Sep H (.own x ty t :: L') := by
 obtain ⟨I, ⟨J, R, rfl, ⟨h0, _⟩, h2⟩, h3⟩ := h.pick p
 exact ⟨J ++ R, ⟨J, R, rfl, h0, h2⟩, h3⟩
theorem Sep.seenS {x t : AV} {ty k : Nat} {ys : List (AV × Nat × AV)} {q : AV × Nat × AV} (h : Sep H L) (p : Pk L (.shs x ty t ys) L') (hk : ys[k]? = some q) : H8 As E0.tp 6 q.2.1 q.2.2 ∧ ∃ I, C9 As E0.tp H 6 q.2.1 q.1 = some (q.2.2, I) := by
 obtain ⟨I, ⟨J, R, rfl, ⟨h0, h1⟩, h2⟩, h4⟩ := h.pick p
 obtain ⟨g1, J', g2, _⟩ := h1 q (List.mem_of_getElem? hk)
 exact ⟨g1, J', g2⟩
theorem Sep.forget {x t y t' : AV} {ty ty' : Nat} (h : Sep H L) (p : Pk L (.shr x ty t y ty' t') L') : Sep H (.own x ty t :: L') := by
 obtain ⟨I, ⟨J, R, rfl, ⟨h0, _⟩, h2⟩, h4⟩ := h.pick p
 exact ⟨J ++ R, ⟨J, R, rfl, h0, h2⟩, h4⟩
theorem Sep.nl {ty : Nat} (h : Sep H L) (hty : ∃ i j, As ty = some i ∧ As i.elem = some j) : Sep H (.own .nl ty (.ro 0 []) :: L) := by
 obtain ⟨I, h1, h2⟩ := h
 obtain ⟨i, j, e1, e2⟩ := hty
 exact ⟨[] ++ I, ⟨[], I, rfl, ⟨rfl, ⟨i, j, e1, e2, by simp, by simp [G7]⟩, rfl⟩, h1⟩, h2⟩
inductive OwnR : List Ck → List AV → List Nat → List AV → List Ck → Prop
 | nil {L : List Ck} : OwnR L [] [] [] L
 | sc {L L' : List Ck} {v : Value} {raw cells : List AV} {ty : Nat} {tys : List Nat} : OwnR L raw tys cells L' → OwnR L (.sc v :: raw) (ty :: tys) (.sc v :: cells) L'
 | nl {L L' : List Ck} {raw cells : List AV} {ty : Nat} {tys : List Nat} : OwnR L raw tys cells L' → OwnR L (.nl :: raw) (ty :: tys) (.ro 0 [] :: cells) L'
 | own {L L1 L' : List Ck} {x t : AV} {raw cells : List AV} {ty : Nat} {tys : List Nat} : Pk L (.own x ty t) L1 → OwnR L1 raw tys cells L' → OwnR L (x :: raw) (ty :: tys) (t :: cells) L'
 | agg {L L1 L' : List Ck} {cs ts raw cells : List AV} {ty : Nat} {tys cty : List Nat} : (∃ i, As ty = some i ∧ i.cty = cty) → OwnR L cs cty ts L1 → OwnR L1 raw tys cells L' → OwnR L (.agg cs :: raw) (ty :: tys) (.agg ts :: cells) L'
theorem OwnR.sound : ∀ {L L' : List Ck} {raw cells : List AV} {tys : List Nat} {I : List Nat}, OwnR L raw tys cells L' → SepI H L I → ∀ d, G7 (H8 As E0.tp d) tys cells → ∃ J R, D7 (C9 As E0.tp H d) tys raw = some (cells, J) ∧ SepI H L' R ∧ I.Perm (J ++ R)
 | _, _, _, _, _, I, .nil, h, d, _ => ⟨[], I, rfl, h, zb7.refl _⟩
 | _, _, _, _, _, I, .sc q, h, d + 1, ho => by
  obtain ⟨J, R, h1, h2, h3⟩ := q.sound h (d + 1) ho.2
  refine ⟨J, R, ?_, h2, h3⟩
  rw [D7, Z5, zac, h1]
  rfl
 | _, _, _, _, _, I, .nl q, h, d + 1, ho => by
  obtain ⟨J, R, h1, h2, h3⟩ := q.sound h (d + 1) ho.2
  refine ⟨J, R, ?_, h2, h3⟩
  rw [D7, show C9 As E0.tp H (d + 1) _ .nl = some (.ro 0 [], []) from rfl, zac, h1]
  rfl
 | _, _, _, _, _, I, .own p q, h, d, ho => by
  obtain ⟨J1, R1, g1, g2, g3⟩ := p.sepI h
  obtain ⟨J, R, h1, h2, h3⟩ := q.sound g2 d ho.2
  have e := Jh 6 d _ _ _ _ g1.2.2 ho.1
  refine ⟨J1 ++ J, R, ?_, h2, ?_⟩
  ·rw [D7, e, zac, h1]
   rfl
  ·refine g3.trans ?_
   rw [zaf]
   exact zb7.append_left J1 h3
 | _, _, _, _, _, I, .agg hty p q, h, d + 1, ho => by
  obtain ⟨i, e1, rfl⟩ := hty
  obtain ⟨i', g1, g2⟩ := ho.1
  rw [e1] at g1
  cases g1
  obtain ⟨J1, R1, a1, a2, a3⟩ := p.sound h (d + 1) (Aj0 g2 (Nat.le_succ d))
  obtain ⟨J, R, h1, h2, h3⟩ := q.sound a2 (d + 1) ho.2
  have a1' := Pt (fun ty x t I h ho => Jh (d + 1) d ty x t I h ho) _ _ _ _ a1 g2
  refine ⟨J1 ++ J, R, ?_, h2, ?_⟩
  ·rw [D7, Jf, e1, zac, a1', zac, zac, h1]
   rfl
  ·refine a3.trans ?_
   rw [zaf]
   exact zb7.append_left J1 h3
 | _, _, _, _, _, I, .sc q, h, 0, ho => by cases ho.1
 | _, _, _, _, _, I, .nl q, h, 0, ho => by cases ho.1
 | _, _, _, _, _, I, .agg _ p q, h, 0, ho => by cases ho.1
end
end
section
open Go
theorem Cn {a0 x : Ck} {L : List Ck} : Pk (a0 :: x :: L) x (a0 :: L) := .there (.here)
theorem C7 {a0 a1 x : Ck} {L : List Ck} : Pk (a0 :: a1 :: x :: L) x (a0 :: a1 :: L) := .there (.there (.here))
theorem L9 {a0 a1 a2 x : Ck} {L : List Ck} : Pk (a0 :: a1 :: a2 :: x :: L) x (a0 :: a1 :: a2 :: L) := .there (.there (.there (.here)))
theorem Ma {a0 a1 a2 a3 x : Ck} {L : List Ck} : Pk (a0 :: a1 :: a2 :: a3 :: x :: L) x (a0 :: a1 :: a2 :: a3 :: L) := .there (.there (.there (.there (.here))))
theorem Uz {a0 a1 a2 a3 a4 x : Ck} {L : List Ck} : Pk (a0 :: a1 :: a2 :: a3 :: a4 :: x :: L) x (a0 :: a1 :: a2 :: a3 :: a4 :: L) := .there (.there (.there (.there (.there (.here)))))
theorem Yb {a0 a1 a2 a3 a4 a5 x : Ck} {L : List Ck} : Pk (a0 :: a1 :: a2 :: a3 :: a4 :: a5 :: x :: L) x (a0 :: a1 :: a2 :: a3 :: a4 :: a5 :: L) := .there (.there (.there (.there (.there (.there (.here))))))
theorem zP7 {a0 a1 a2 a3 a4 a5 a6 x : Ck} {L : List Ck} : Pk (a0 :: a1 :: a2 :: a3 :: a4 :: a5 :: a6 :: x :: L) x (a0 :: a1 :: a2 :: a3 :: a4 :: a5 :: a6 :: L) := .there (.there (.there (.there (.there (.there (.there (.here)))))))
theorem zP8 {a0 a1 a2 a3 a4 a5 a6 a7 x : Ck} {L : List Ck} : Pk (a0 :: a1 :: a2 :: a3 :: a4 :: a5 :: a6 :: a7 :: x :: L) x (a0 :: a1 :: a2 :: a3 :: a4 :: a5 :: a6 :: a7 :: L) := .there (.there (.there (.there (.there (.there (.there (.there (.here))))))))
def Gd {β : Type} (G : Option β → Prop) (o : Option β) : Prop := G o
section
variable {β : Type} {n : Nat} {H : Ab} {L L' L1 L2 : List Ck} {G : Option β → Prop} {K : AV → Option β} {KH : KO β}
theorem D4 {a b : Option β} (e : a = b) (h : Gd G b) : Gd G a := by rw [e]; exact h
theorem Ie {cs : List AV} (hs : Sep H L) (h : ∀ i H', Sep H' (.blk i cs true :: L) → Gd G (KH (.ptr i 0) H')) : Gd G (AaX cs H fun x H => KH x H) :=
 h _ _ (hs.new (J := [H.length]) ⟨rfl, by rw [zaj (zan _), zba]; rfl⟩ (by simp) (by simp))
theorem B9 {k w : Nat} {cs : List AV} {a : Bool} (hs : Sep H L) (h : ∀ i H', Sep H' (.blk i cs a :: L) → Gd G (KH (.sl i 0 k w) H')) : Gd G (Gx k w cs a H fun x H => KH x H) :=
 h _ _ (hs.new (J := [H.length]) ⟨rfl, by rw [zaj (zan _), zba]; rfl⟩ (by simp) (by simp))
theorem Om {x : AV} {cs : List AV} (hs : Sep H L) (hc : F1 x = some cs) (h : ∀ i H', Sep H' (.blk i cs true :: L) → Gd G (KH (.ptr i 0) H')) : Gd G (AaW x H fun x H => KH x H) := by
 refine D4 (b := AaX cs H fun x H => KH x H) ?_ (Ie hs h)
 show (F1 x).bind _ = _
 rw [hc]
 rfl
theorem Gw {cs : List AV} (h : cs.all R4 = true) : F1 (.agg cs) = some cs := Aa9 h
theorem Ah {cs : List AV} (h : cs.all Bk = true) : F1 (.agg cs) = some cs := by
 show (if cs.all Bk then some cs else none) = _
 rw [if_pos h]
theorem Ac {x : AV} {xs : List AV} (h : Bk x = true) (hs : xs.all Bk = true) : (x :: xs).all Bk = true := by
 rw [zax, h, hs]
 rfl
theorem D2 {x : AV} (h : Bk x = true) : F1 x = some [x] := by
 cases x <;> simp_all [F1, Bk]
theorem Ao {i o : Nat} {cs : List AV} {a : Bool} {c : AV} (hs : Sep H L) (hp : Pk L (.blk i cs a) L1) (hc : cs[o]? = some c) (h : Gd G (K c)) : Gd G (Cz false 1 (.ptr i o) H fun x => K x) := by
 refine D4 ?_ h
 obtain ⟨hlt, he⟩ := zae.1 hc
 have e : Be H i o 1 = some [c] := by
  simp only [Be, hs.blk hp, if_true]
  rw [if_pos (by omega), zbd hlt, he]
  rfl
 exact ldF e _
theorem AmG {i o w : Nat} {cs ds : List AV} {a : Bool} (hs : Sep H L) (hp : Pk L (.blk i cs a) L1) (hl : o + w ≤ cs.length) (hc : (cs.drop o).take w = ds) (h : Gd G (K (.agg ds))) : Gd G (Cz true w (.ptr i o) H fun x => K x) := by
 refine D4 ?_ h
 have e : Be H i o w = some ds := by
  simp only [Be, hs.blk hp, if_true]
  rw [if_pos hl, hc]
 exact ldT e _
theorem Aq {i w : Nat} {cs : List AV} {a : Bool} (hs : Sep H L) (hp : Pk L (.blk i cs a) L1) (hl : cs.length = w) (h : Gd G (K (.agg cs))) : Gd G (Cz true w (.ptr i 0) H fun x => K x) :=
 AmG hs hp (by omega) (by rw [zaL, ← hl, zaC]) h
theorem B8 {i o w : Nat} {cs cs' ds : List AV} {a : Bool} {y : AV} {KS : Ab → Option β} (hs : Sep H L) (hp : Pk L (.blk i cs a) L1) (hy : F1 y = some ds) (hd : ds.length = w) (hl : o + w ≤ cs.length) (hc : Ha cs o ds = cs') (h : ∀ H', Sep H' (.blk i cs' a :: L1) → Gd G (KS H')) : Gd G (G9 w (.ptr i o) y H fun H => KS H) := by
 have hb := hs.blk hp
 refine D4 (Ah3 w i o y ⟨cs, true, a⟩ ds H _ hb hy hd hl rfl) ?_
 have := hs.put hp cs' a
 rw [← hc] at this
 exact h _ (by rw [← hc]; exact this)
theorem E5 {cells : List AV} {c : AV} (hc : cells[0]? = some c) (h : Gd G (K c)) : Gd G (Cz false 1 (.rp cells) H fun x => K x) := by
 cases cells with
 | nil => cases hc
 | cons x xs =>
  obtain rfl : x = c := by simpa using hc
  refine D4 (Pj x xs H _) h
theorem Aky {w : Nat} {cs rest : List AV} (hw : cs.length = w) (h : Gd G (K (.agg cs))) : Gd G (Cz true w (.rp (cs ++ rest)) H fun x => K x) := D4 (AaH w cs rest H _ hw) h
theorem Fn {o i off o' : Nat} (e : off + o = o') (h : Gd G (K (.ptr i o'))) : Gd G (Es o (.ptr i off) fun x => K x) := by subst e; exact h
theorem Nl {i : Nat} (h : Gd G (K (.ptr i 0))) : Gd G (Es 0 (.ptr i 0) fun x => K x) := Fn rfl h
theorem Wd {i : Nat} (h : Gd G (K (.ptr i 1))) : Gd G (Es 1 (.ptr i 0) fun x => K x) := Fn rfl h
theorem Ox {i : Nat} (h : Gd G (K (.ptr i 2))) : Gd G (Es 2 (.ptr i 0) fun x => K x) := Fn rfl h
theorem gf3 {i : Nat} (h : Gd G (K (.ptr i 3))) : Gd G (Es 3 (.ptr i 0) fun x => K x) := Fn rfl h
theorem Ig {i : Nat} (h : Gd G (K (.ptr i 4))) : Gd G (Es 4 (.ptr i 0) fun x => K x) := Fn rfl h
theorem gf5 {i : Nat} (h : Gd G (K (.ptr i 5))) : Gd G (Es 5 (.ptr i 0) fun x => K x) := Fn rfl h
theorem gf6 {i : Nat} (h : Gd G (K (.ptr i 6))) : Gd G (Es 6 (.ptr i 0) fun x => K x) := Fn rfl h
theorem gf7 {i : Nat} (h : Gd G (K (.ptr i 7))) : Gd G (Es 7 (.ptr i 0) fun x => K x) := Fn rfl h
theorem gf8 {i : Nat} (h : Gd G (K (.ptr i 8))) : Gd G (Es 8 (.ptr i 0) fun x => K x) := Fn rfl h
theorem gf9 {i : Nat} (h : Gd G (K (.ptr i 9))) : Gd G (Es 9 (.ptr i 0) fun x => K x) := Fn rfl h
theorem We {i : Nat} (h : Gd G (K (.ptr i 10))) : Gd G (Es 10 (.ptr i 0) fun x => K x) := Fn rfl h
theorem Qp {i : Nat} (h : Gd G (K (.ptr i 11))) : Gd G (Es 11 (.ptr i 0) fun x => K x) := Fn rfl h
theorem Wf {i : Nat} (h : Gd G (K (.ptr i 12))) : Gd G (Es 12 (.ptr i 0) fun x => K x) := Fn rfl h
theorem Wg {i : Nat} (h : Gd G (K (.ptr i 13))) : Gd G (Es 13 (.ptr i 0) fun x => K x) := Fn rfl h
theorem Wh {i : Nat} (h : Gd G (K (.ptr i 14))) : Gd G (Es 14 (.ptr i 0) fun x => K x) := Fn rfl h
theorem AaB {i : Nat} (h : Gd G (K (.ptr i 15))) : Gd G (Es 15 (.ptr i 0) fun x => K x) := Fn rfl h
theorem Ow {i : Nat} (h : Gd G (K (.ptr i 16))) : Gd G (Es 16 (.ptr i 0) fun x => K x) := Fn rfl h
theorem Pg {i : Nat} (h : Gd G (K (.ptr i 17))) : Gd G (Es 17 (.ptr i 0) fun x => K x) := Fn rfl h
theorem Ke {i : Nat} (h : Gd G (K (.ptr i 18))) : Gd G (Es 18 (.ptr i 0) fun x => K x) := Fn rfl h
theorem Ms {i : Nat} (h : Gd G (K (.ptr i 19))) : Gd G (Es 19 (.ptr i 0) fun x => K x) := Fn rfl h
theorem Q9 {i : Nat} (h : Gd G (K (.ptr i 20))) : Gd G (Es 20 (.ptr i 0) fun x => K x) := Fn rfl h
theorem Wi {i : Nat} (h : Gd G (K (.ptr i 21))) : Gd G (Es 21 (.ptr i 0) fun x => K x) := Fn rfl h
theorem Kf {i : Nat} (h : Gd G (K (.ptr i 22))) : Gd G (Es 22 (.ptr i 0) fun x => K x) := Fn rfl h
theorem Km {i : Nat} (h : Gd G (K (.ptr i 23))) : Gd G (Es 23 (.ptr i 0) fun x => K x) := Fn rfl h
theorem Kn {i : Nat} (h : Gd G (K (.ptr i 24))) : Gd G (Es 24 (.ptr i 0) fun x => K x) := Fn rfl h
theorem Qb {o : Nat} {cells : List AV} (h : Gd G (K (.rp (cells.drop o)))) : Gd G (Es o (.rp cells) fun x => K x) := h
theorem C5 {id off : Nat} (h : Gd G (K (.ptr id off))) : Gd G (Ahn (.ptr id off) fun t => K t) := h
theorem Jb {z cs z' r : List AV} {o n : Nat} {v : AV} {rest : List (Nat × Nat × AV)} (h : F1 v = some cs) (hl : cs.length = n) (ho : o + n ≤ z.length) (hz : Ha z o cs = z') (h2 : I1 z' rest = some r) : I1 z ((o, n, v) :: rest) = some r := by
 subst hz
 subst hl
 simp only [I1, h, zac, if_true, if_pos ho]
 exact h2
theorem Bb {zs cs : List AV} {ps : List (Nat × Nat × AV)} {KL : List AV → Option β} (hf : I1 zs ps = some cs) (h : Gd G (KL cs)) : Gd G ((I1 zs ps).bind fun c => KL c) := by
 rw [hf]
 exact h
theorem Bm {i : Nat} {vs : List AV} {v : AV} (hv : vs[i]? = some v) (h : Gd G (K v)) : Gd G (Sk (.tup vs) i fun x => K x) := by
 refine D4 ?_ h
 show (vs[i]?).bind _ = _
 rw [hv]
 rfl
theorem Cu {m : Nat} {cs : List AV} (h : Gd G (K (.sc (.int .i64 m)))) : Gd G (I5 (.ro m cs) fun x => K x) := h
theorem AgN {s : ByteArray} (h : Gd G (K (.sc (.int .i64 s.size)))) : Gd G (W7 (.sc (.string s)) fun x => K x) := h
theorem Ajs {d ty m : Nat} {x : AV} {cells : List AV} {I : List Nat} (h : C9 As E0.tp H d ty x = some (.ro m cells, I)) : Jo x = some m := by
 cases d with
 | zero => simp [C9] at h
 | succ d =>
  cases x with
  | sc v => simp [C9] at h
  | nl =>
   have := (Option.some.inj h)
   simp only [Prod.mk.injEq, AV.ro.injEq] at this
   rw [← this.1.1]
   rfl
  | sl id off n z =>
   rw [Jg] at h
   simp only [zab] at h
   obtain ⟨i, h1, j, h2, h3⟩ := h
   split at h3
   case isFalse => cases h3
   split at h3
   case isFalse => cases h3
   simp only [zab] at h3
   obtain ⟨cs, h4, q, h5, h6⟩ := h3
   obtain ⟨h7, -⟩ : AV.ro n q.1 = .ro m cells ∧ _ := by simpa only [Prod.mk.injEq, Option.some.injEq] using h6
   cases h7
   rfl
  | agg cs =>
   rw [Jf] at h
   simp only [zab] at h
   obtain ⟨i, h1, q, h2, h3⟩ := h
   simp at h3
  | tup cs =>
   rw [Kg] at h
   simp only [zab] at h
   obtain ⟨i, h1, q, h2, h3⟩ := h
   simp at h3
  | _ => simp [C9] at h
theorem Jz {x : AV} {ty m : Nat} {cells : List AV} (hs : Sep H L) (hp : Pk L (.own x ty (.ro m cells)) L1) (h : Gd G (K (.sc (.int .i64 m)))) : Gd G (I5 x fun x => K x) := by
 obtain ⟨_, _, I, e, _⟩ := hs.own hp
 have hl := Ajs e
 refine D4 ?_ h
 have key : ∀ (x : AV), (∀ v, x ≠ .sc v) → Jo x = some m → I5 x K = K (.sc (.int .i64 m)) := by
  intro x hx hl
  cases x with
  | sc v => exact absurd rfl (hx v)
  | nl => cases hl; rfl
  | ro n cs => cases hl; rfl
  | sl a b c d => cases hl; rfl
  | _ => cases hl
 refine key x (fun v hv => ?_) hl
 subst hv
 simp [C9] at e
theorem Qs {op : BinOp} {x y v : AV} (e : ∀ k : AV → Option β, Ci op x y k = k v) (h : Gd G (K v)) : Gd G (Ci op x y fun t => K t) := D4 (e _) h
theorem Ba {a b : Int} (h : Gd G (K (.sc (.bool (decide (a = b)))))) : Gd G (Ci .eql (.sc (.int .i64 a)) (.sc (.int .i64 b)) fun t => K t) := h
theorem Ks {a b : Int} (h : Gd G (K (.sc (.bool (!decide (a = b)))))) : Gd G (Ci .neq (.sc (.int .i64 a)) (.sc (.int .i64 b)) fun t => K t) := h
theorem Di {a b : Int} (h : Gd G (K (.sc (.bool (decide (a < b)))))) : Gd G (Ci .lss (.sc (.int .i64 a)) (.sc (.int .i64 b)) fun t => K t) := h
theorem Pd {a b : Int} (h : Gd G (K (.sc (.bool (decide (a ≤ b)))))) : Gd G (Ci .leq (.sc (.int .i64 a)) (.sc (.int .i64 b)) fun t => K t) := h
theorem Eb {a b : Int} (h : Gd G (K (.sc (.bool (decide (b < a)))))) : Gd G (Ci .gtr (.sc (.int .i64 a)) (.sc (.int .i64 b)) fun t => K t) := h
theorem Akx {a b : Int} (h : Gd G (K (.sc (.bool (decide (b ≤ a)))))) : Gd G (Ci .geq (.sc (.int .i64 a)) (.sc (.int .i64 b)) fun t => K t) := h
theorem Bw {a b : Int} (h0 : -9223372036854775808 ≤ a + b) (h1 : a + b ≤ 9223372036854775807) (h : Gd G (K (.sc (.int .i64 (a + b))))) : Gd G (Ci .add (.sc (.int .i64 a)) (.sc (.int .i64 b)) fun t => K t) := by
 refine D4 ?_ h
 show K (.sc (.int .i64 (IntKind.i64.wrap (a + b)))) = _
 rw [H3 _ h0 h1]
theorem Pf {a b : Int} (h0 : -9223372036854775808 ≤ a - b) (h1 : a - b ≤ 9223372036854775807) (h : Gd G (K (.sc (.int .i64 (a - b))))) : Gd G (Ci .sub (.sc (.int .i64 a)) (.sc (.int .i64 b)) fun t => K t) := by
 refine D4 ?_ h
 show K (.sc (.int .i64 (IntKind.i64.wrap (a - b)))) = _
 rw [H3 _ h0 h1]
theorem Rz {a b : Int} (h0 : -9223372036854775808 ≤ a * b) (h1 : a * b ≤ 9223372036854775807) (h : Gd G (K (.sc (.int .i64 (a * b))))) : Gd G (Ci .mul (.sc (.int .i64 a)) (.sc (.int .i64 b)) fun t => K t) := by
 refine D4 ?_ h
 show K (.sc (.int .i64 (IntKind.i64.wrap (a * b)))) = _
 rw [H3 _ h0 h1]
theorem AgM {a b : ByteArray} (h : Gd G (K (.sc (.bool (a.toList == b.toList))))) : Gd G (Ci .eql (.sc (.string a)) (.sc (.string b)) fun t => K t) := h
theorem S6 {a b : ByteArray} (h : Gd G (K (.sc (.bool (!(a.toList == b.toList)))))) : Gd G (Ci .neq (.sc (.string a)) (.sc (.string b)) fun t => K t) := h
theorem Cr {b : Bool} (h : Gd G (K (.sc (.bool (!b))))) : Gd G (pUn .not (.sc (.bool b)) fun t => K t) := h
theorem C8 {α : Sort _} {γ : Type} {G : Option γ → Prop} {x : α} {f : α → Option γ} (h : Gd G (f x)) : Gd G (Et x f) := h
theorem Ap {b : Bool} {x y : Option β} (hb : b = true) (h : Gd G x) : Gd G (Ec (.sc (.bool b)) x y) := by subst hb; exact h
theorem Au {b : Bool} {x y : Option β} (hb : b = false) (h : Gd G y) : Gd G (Ec (.sc (.bool b)) x y) := by subst hb; exact h
theorem Af {b t : Bool} {m : (KO β) → Option β} (hb : b = t) (h : Gd G (m fun x H => KH x H)) : Gd G (Ix (.sc (.bool b)) t H m fun x H => KH x H) := by
 subst hb
 cases b <;> exact h
theorem Ae {b t : Bool} {m : (KO β) → Option β} (hb : b = !t) (h : Gd G (KH (.sc undef) H)) : Gd G (Ix (.sc (.bool b)) t H m fun x H => KH x H) := by
 subst hb
 cases t <;> exact h
theorem Ef {t : Bool} {m : (KO β) → Option β} (h : Gd G (KH (.sc undef) H)) : Gd G (Ix (.sc undef) t H m fun x H => KH x H) := h
theorem E2 {b : Bool} {x y : AV} (hb : b = true) (h : Gd G (K x)) : Gd G (Nb (.sc (.bool b)) x y fun t => K t) := by
 subst hb
 cases x <;> cases y <;> exact h
theorem E1 {b : Bool} {x y : AV} (hb : b = false) (h : Gd G (K y)) : Gd G (Nb (.sc (.bool b)) x y fun t => K t) := by
 subst hb
 cases x <;> cases y <;> exact h
inductive VwC (L : List Ck) : Nat → AV → AV → Prop
 | sc {d : Nat} {v : Value} : VwC L (d + 1) (.sc v) (.sc v)
 | nl {d : Nat} : VwC L (d + 1) .nl (.ro 0 [])
 | ro {d n : Nat} {cs : List AV} : VwC L (d + 1) (.ro n cs) (.ro n cs)
 | rp {d : Nat} {cs : List AV} : VwC L (d + 1) (.rp cs) (.rp cs)
 | own {d : Nat} {x t : AV} {ty : Nat} {L' : List Ck} : 6 ≤ d → Pk L (.own x ty t) L' → VwC L d x t
 | shr {d : Nat} {x t y t' : AV} {ty ty' : Nat} {L' : List Ck} : 6 ≤ d → Pk L (.shr x ty t y ty' t') L' → VwC L d y t'
 | shsE {d k : Nat} {x t y t' : AV} {ty ty' : Nat} {ys : List (AV × Nat × AV)} {L' : List Ck} : 6 ≤ d → Pk L (.shs x ty t ys) L' → ys[k]? = some (y, ty', t') → VwC L d y t'
 | shsO {d : Nat} {x t : AV} {ty : Nat} {ys : List (AV × Nat × AV)} {L' : List Ck} : 6 ≤ d → Pk L (.shs x ty t ys) L' → VwC L d x t
end
inductive VwL (L : List Ck) : Nat → List AV → List AV → Prop
 | nil {d : Nat} : VwL L d [] []
 | cons {d : Nat} {x t : AV} {xs ts : List AV} : VwC L d x t → VwL L d xs ts → VwL L d (x :: xs) (t :: ts)
 | agg {d : Nat} {cs ds xs ts : List AV} : VwL L d cs ds → VwL L (d + 1) xs ts → VwL L (d + 1) (.agg cs :: xs) (.agg ds :: ts)
 | aggF {d : Nat} {cs xs ts : List AV} : cs.all R4 = true → VwL L (d + 2) xs ts → VwL L (d + 2) (.agg cs :: xs) (.agg cs :: ts)
 | sl {d i k w : Nat} {cs ds xs ts : List AV} {a : Bool} {L' : List Ck} : Pk L (.blk i cs a) L' → cs.length = k * w → VwL L d cs ds → VwL L (d + 1) xs ts → VwL L (d + 1) (.sl i 0 k w :: xs) (.ro k ds :: ts)
 | slA {d i o k w : Nat} {cs ds xs ts : List AV} {a : Bool} {L' : List Ck} : Pk L (.blk i cs a) L' → o + k * w ≤ cs.length → VwL L d ((cs.drop o).take (k * w)) ds → VwL L (d + 1) xs ts → VwL L (d + 1) (.sl i o k w :: xs) (.ro k ds :: ts)
 | ptr {d i : Nat} {cs ds xs ts : List AV} {a : Bool} {L' : List Ck} : Pk L (.blk i cs a) L' → VwL L d cs ds → VwL L (d + 1) xs ts → VwL L (d + 1) (.ptr i 0 :: xs) (.rp ds :: ts)
 | fn {d f : Nat} {ps cs ps' cs' xs ts : List AV} : VwL L d ps ps' → VwL L d cs cs' → VwL L (d + 1) xs ts → VwL L (d + 1) (.fn f ps cs :: xs) (.fn f ps' cs' :: ts)
section
variable {β : Type} {n : Nat} {H : Ab} {L L' L1 L2 : List Ck} {G : Option β → Prop} {K : AV → Option β} {KH : KO β}
theorem VwC.sound (hs : Sep H L) {d : Nat} {x t : AV} (h : VwC L d x t) : Dm H d x = some t := by
 cases h with
 | sc => rfl
 | nl => rfl
 | ro => rfl
 | rp => rfl
 | own hd hp =>
  obtain ⟨_, h1, I, h2, _⟩ := hs.own hp
  exact Pv d _ _ _ I (Jh 6 d _ _ _ _ h2 (Bs h1 hd))
 | shr hd hp =>
  obtain ⟨h1, I, h2⟩ := hs.seen hp
  exact Pv d _ _ _ I (Jh 6 d _ _ _ _ h2 (Bs h1 hd))
 | shsE hd hp hk =>
  obtain ⟨h1, I, h2⟩ := hs.seenS hp hk
  exact Pv d _ _ _ I (Jh 6 d _ _ _ _ h2 (Bs h1 hd))
 | shsO hd hp =>
  obtain ⟨_, h1, I, h2, _⟩ := (hs.ofShs hp).own .here
  exact Pv d _ _ _ I (Jh 6 d _ _ _ _ h2 (Bs h1 hd))
theorem J5 {d : Nat} {x t : AV} {xs ts : List AV} (h : Dm H d x = some t) (hs : xs.mapM (Dm H d) = some ts) : (x :: xs).mapM (Dm H d) = some (t :: ts) := by
 simp only [zaF, h, hs, zaW, zaJ, zac]
theorem VwL.sound (hs : Sep H L) : ∀ {d : Nat} {xs ts : List AV}, VwL L d xs ts → xs.mapM (Dm H d) = some ts
 | _, _, _, .nil => rfl
 | _, _, _, .cons h q => J5 (h.sound hs) (q.sound hs)
 | _, _, _, .agg h q => J5 (by rw [Ni, h.sound hs]; rfl) (q.sound hs)
 | _, _, _, .aggF h q => J5 (by rw [Ni, Zr h]; rfl) (q.sound hs)
 | _, _, _, .sl (i := i) (k := k) (w := w) (cs := cs) hp hl h q => J5 (by
   rw [Sx]
   have hb := hs.blk hp
   have e : Be H i 0 (k * w) = some cs := by
    simp only [Be, hb, if_true, zaL, za1, ← hl, zan, zaC]
   rw [e, zac, h.sound hs]
   rfl) (q.sound hs)
 | _, _, _, .slA (i := i) (o := o) (k := k) (w := w) (cs := cs) hp hl h q => J5 (by
   rw [Sx]
   have hb := hs.blk hp
   have e : Be H i o (k * w) = some ((cs.drop o).take (k * w)) := by
    simp only [Be, hb, if_true, hl]
   rw [e, zac, h.sound hs]
   rfl) (q.sound hs)
 | _, _, _, .ptr (i := i) (cs := cs) hp h q => J5 (by
   have hb := hs.blk hp
   show ((H[i]?).bind fun b => (Be H i 0 (b.cells.length - 0)).bind fun cs => (cs.mapM (Dm H _)).bind fun vs => some (AV.rp vs)) = _
   rw [hb, zac]
   have e : Be H i 0 (cs.length - 0) = some cs := by
    simp only [Be, hb, if_true, zaL, za1, Nat.sub_zero, zan, zaC]
   show (Be H i 0 (cs.length - 0)).bind _ = _
   rw [e, zac, h.sound hs]
   rfl) (q.sound hs)
 | _, _, _, .fn (d := d) (ps := ps) (cs := cs) h1 h2 q => J5 (by
   show ((ps.mapM (Dm H d)).bind fun us => (cs.mapM (Dm H d)).bind fun ws => some (AV.fn _ us ws)) = _
   rw [h1.sound hs, zac, h2.sound hs]
   rfl) (q.sound hs)
theorem Un {ty : Nat} {f : FuncId} {caps args vs : List AV} {t : AV} (hs : Sep H L) (hh : F3 f = false) (hv : VwL L 8 (args ++ caps) vs) (ht : C0 E0 n ty f vs = some t) (h : Gd G (KH (B5 As E0.tp H.length ty t).1 (H ++ (B5 As E0.tp H.length ty t).2))) : Gd G ((PR n β).call ty (.fn f [] caps) args H fun x H => KH x H) := D4 (AeV hh (hv.sound hs) ht) h
theorem Ar {ty : Nat} {f : FuncId} {args vs : List AV} {v : Value} (hs : Sep H L) (hh : F3 f = false) (hv : VwL L 8 args vs) (ht : C0 E0 n ty f vs = some (.sc v)) (h : Gd G (KH (.sc v) H)) : Gd G ((PR n β).call ty (.fn f [] []) args H fun x H => KH x H) := by
 refine Un hs hh (by rw [zap]; exact hv) ht ?_
 rw [Hw, zap]
 exact h
theorem AaE {ty m : Nat} {cells : List AV} (hs : Sep H L) (hok : H8 As E0.tp 6 ty (.ro m cells)) : Bk (B5 As E0.tp H.length ty (.ro m cells)).1 = true ∧ Sep (H ++ (B5 As E0.tp H.length ty (.ro m cells)).2) (.own (B5 As E0.tp H.length ty (.ro m cells)).1 ty (.ro m cells) :: L) := by
 have hl : Bk (B5 As E0.tp H.length ty (.ro m cells)).1 = true := rfl
 refine ⟨hl, hs.new (J := List.range' H.length (B5 As E0.tp H.length ty (.ro m cells)).2.length) ⟨hl, hok, Si 6 ty _ H.length hok (Rj _ _)⟩ List.nodup_range' fun i hi => ?_⟩
 rw [List.mem_range'_1] at hi
 exact hi.1
theorem B7 {ty m : Nat} {f : FuncId} {args vs cells : List AV} (hs : Sep H L) (hh : F3 f = false) (hv : VwL L 8 args vs) (ht : C0 E0 n ty f vs = some (.ro m cells)) (hok : H8 As E0.tp 6 ty (.ro m cells)) (h : ∀ x H', Bk x = true → Sep H' (.own x ty (.ro m cells) :: L) → Gd G (KH x H')) : Gd G ((PR n β).call ty (.fn f [] []) args H fun x H => KH x H) := by
 refine Un hs hh (by rw [zap]; exact hv) ht ?_
 obtain ⟨h1, h2⟩ := AaE hs hok
 exact h _ _ h1 h2
def InsL (ts : List Nat) (cs : List AV) (Φ : List AV → List Ck → Prop) : Prop := ∀ (H : Ab) (L : List Ck), Sep H L → ∃ xs Lx, xs = (Bq As E0.tp H.length ts cs).1 ∧ Sep (H ++ (Bq As E0.tp H.length ts cs).2) (Lx ++ L) ∧ Φ xs Lx
theorem Dz {ts : List Nat} : InsL ts [] fun xs Lx => xs = [] ∧ Lx = [] := fun H L hs => ⟨[], [], rfl, by simpa [Bq] using hs, rfl, rfl⟩
theorem Bd {ts : List Nat} {v : Value} {cs : List AV} {Φ : List AV → List Ck → Prop} (h : InsL ts.tail cs Φ) : InsL ts (.sc v :: cs) fun xs Lx => ∃ ys, xs = .sc v :: ys ∧ Φ ys Lx := fun H L hs => by
 obtain ⟨ys, Ly, e1, e2, e3⟩ := h H L hs
 refine ⟨.sc v :: ys, Ly, ?_, ?_, ys, rfl, e3⟩
 ·simp only [Bq, Hw, zaw, zaM]
  rw [e1]
 ·simpa only [Bq, Hw, zaw, zaM, zal] using e2
theorem Jd {ts : List Nat} {m ty : Nat} {cells cs : List AV} {Φ : List AV → List Ck → Prop} (hty : ts.headD 0 = ty) (hok : H8 As E0.tp 6 ty (.ro m cells)) (h : InsL ts.tail cs Φ) : InsL ts (.ro m cells :: cs) fun xs Lx => ∃ x ys Ly, Bk x = true ∧ xs = x :: ys ∧ Lx = Ly ++ [.own x ty (.ro m cells)] ∧ Φ ys Ly := fun H L hs => by
 subst hty
 obtain ⟨h1, h2⟩ := AaE hs hok
 obtain ⟨ys, Ly, e1, e2, e3⟩ := h _ _ h2
 refine ⟨_ :: ys, Ly ++ [.own _ (ts.headD 0) (.ro m cells)], ?_, ?_, _, ys, Ly, h1, rfl, rfl, e3⟩
 ·simp only [Bq]
  rw [e1, zad]
 ·simp only [Bq]
  rw [zad, zaf] at e2
  rw [zaf]
  exact e2
theorem AcQ {ts cty : List Nat} {cs rest : List AV} {Φ Ψ : List AV → List Ck → Prop} (hty : ∃ i, As (ts.headD 0) = some i ∧ i.cty = cty) (h1 : InsL cty cs Ψ) (h : InsL ts.tail rest Φ) : InsL ts (.agg cs :: rest) fun xs Lx => ∃ ys zs Ly Lz, xs = .agg ys :: zs ∧ Lx = Lz ++ Ly ∧ Ψ ys Ly ∧ Φ zs Lz := fun H L hs => by
 obtain ⟨i, hi, rfl⟩ := hty
 obtain ⟨ys, Ly, a1, a2, a3⟩ := h1 H L hs
 obtain ⟨zs, Lz, b1, b2, b3⟩ := h _ _ a2
 refine ⟨.agg ys :: zs, Lz ++ Ly, ?_, ?_, ys, zs, Ly, Lz, rfl, rfl, a3, b3⟩
 ·simp only [Bq, M5, hi, zaA]
  rw [a1, b1, zad]
 ·simp only [Bq, M5, hi, zaA]
  rw [zad, zaf] at b2
  rw [zaf]
  exact b2
theorem Rx {ty : Nat} {f : FuncId} {args vs cs : List AV} {cty : List Nat} {Φ : List AV → List Ck → Prop} (hs : Sep H L) (hh : F3 f = false) (hv : VwL L 8 args vs) (ht : C0 E0 n ty f vs = some (.agg cs)) (hty : ∃ i, As ty = some i ∧ i.cty = cty) (hi : InsL cty cs Φ) (h : ∀ xs Lx H', Φ xs Lx → Sep H' (Lx ++ L) → Gd G (KH (.agg xs) H')) : Gd G ((PR n β).call ty (.fn f [] []) args H fun x H => KH x H) := by
 refine Un hs hh (by rw [zap]; exact hv) ht ?_
 obtain ⟨i, e1, rfl⟩ := hty
 obtain ⟨xs, Lx, a1, a2, a3⟩ := hi H L hs
 rw [M5, e1, zaA, ← a1]
 exact h _ _ _ a3 a2
theorem D3 {ty : Nat} {f : FuncId} {args vs cs : List AV} {tys : List Nat} {Φ : List AV → List Ck → Prop} (hs : Sep H L) (hh : F3 f = false) (hv : VwL L 8 args vs) (ht : C0 E0 n ty f vs = some (.tup cs)) (hty : E0.tp ty = some tys) (hi : InsL tys cs Φ) (h : ∀ xs Lx H', Φ xs Lx → Sep H' (Lx ++ L) → Gd G (KH (.tup xs) H')) : Gd G ((PR n β).call ty (.fn f [] []) args H fun x H => KH x H) := by
 refine Un hs hh (by rw [zap]; exact hv) ht ?_
 obtain ⟨xs, Lx, a1, a2, a3⟩ := hi H L hs
 rw [S8, hty, zaA, ← a1]
 exact h _ _ _ a3 a2
theorem Jw {ty : Nat} {f : FuncId} {caps args : List AV} (hh : E0.hm f = true) (he : E0.ext f = none) (h : Gd G (Eh E0 n β f (args ++ caps) H fun x H => KH x H)) : Gd G ((PR n β).call ty (.fn f [] caps) args H fun x H => KH x H) := by
 refine D4 ?_ h
 show Mf E0 (Eh E0 n) ty f ([] ++ args ++ caps) H _ = _
 simp only [Mf, he, hh, zal, if_true]
def Src (H : Ab) (L : List Ck) (sz : Nat) (cty : List Nat) (y : AV) (m : Nat) (cb : List AV) (L' : List Ck) : Prop :=
 ∀ I, SepI H L I → ∃ raw J R X, Jo y = some m ∧ Dt H sz y = some raw ∧ raw.all Bk = true ∧ raw.length = m * sz ∧ D7 (C9 As E0.tp H 5) (zai m cty).flatten raw = some (cb, J) ∧ SepI H L' R ∧ I.Perm (J ++ (R ++ X))
def Oy : AV → Bool
 | .sc v => Oo v
 | _ => false
theorem Yt {l : List AV} (h : l.all Oy = true) : l.all Bk = true := by
 rw [za4] at h ⊢
 intro x hx
 have := h x hx
 cases x <;> simp_all [Oy, Bk]
theorem Y4 {d : Nat} : ∀ {ts : List Nat} {l : List AV}, ts.length = l.length → l.all Oy = true → D7 (C9 As E0.tp H (d + 1)) ts l = some (l, [])
 | [], [], _, _ => rfl
 | t :: ts, x :: l, h, hl => by
  rw [zax, zag] at hl
  cases x with
  | sc v =>
   rw [D7, Z5, zac, Y4 (ts := ts) (l := l) (by simpa using h) hl.2]
   rfl
  | _ => simp [Oy] at hl
 | [], _ :: _, h, _ => by simp at h
 | _ :: _, [], h, _ => by simp at h
theorem Ah2 {sz m : Nat} {cty : List Nat} {cells : List AV} (hc : cty.length = sz) (hl : cells.length = m * sz) (hf : cells.all Oy = true) : Src H L sz cty (.ro m cells) m cells L := fun I h => by
 refine ⟨cells, [], I, [], rfl, ?_, Yt hf, hl, Y4 (by simp [hc, hl]) hf, h, by simp⟩
 show (if cells.length = m * sz then some cells else none) = _
 rw [if_pos hl]
theorem Uu {sz m i : Nat} {cty : List Nat} {raw cb : List AV} {a : Bool} (hp : Pk L (.blk i raw a) L1) (hl : raw.length = m * sz) (hf : raw.all Bk = true) (hr : OwnR L1 raw (zai m cty).flatten cb L2) (hok : G7 (H8 As E0.tp 5) (zai m cty).flatten cb) : Src H L sz cty (.sl i 0 m sz) m cb L2 := fun I h => by
 obtain ⟨J, R, ⟨rfl, h1⟩, h2, h3⟩ := hp.sepI h
 obtain ⟨J', R', g1, g2, g3⟩ := hr.sound h2 5 hok
 refine ⟨raw, J', R', [i], rfl, ?_, hf, hl, g1, g2, ?_⟩
 ·show (if sz = sz then Be H i 0 (m * sz) else none) = _
  simp only [if_true, Be, h1, za1, zaL, ← hl, zan, zaC]
 ·refine h3.trans (List.perm_append_comm.trans ?_)
  rw [← zaf]
  exact zb7.append_right [i] g3
theorem Us {d ty m : Nat} {x : AV} {cells : List AV} {I : List Nat} {i j : TI} (h1 : As ty = some i) (h2 : As i.elem = some j) (h : C9 As E0.tp H (d + 1) ty x = some (.ro m cells, I)) :
  (x = .nl ∧ m = 0 ∧ cells = [] ∧ I = []) ∨ ∃ id off raw J b, x = .sl id off m j.size ∧ I = id :: J ∧ H[id]? = some b ∧ b.live = true ∧ b.app = true ∧ Be H id off (m * j.size) = some raw ∧ D7 (C9 As E0.tp H d) (zai m j.cty).flatten raw = some (cells, J) := by
 cases x with
 | sc v => simp [C9] at h
 | nl =>
  have := (Option.some.inj h)
  simp only [Prod.mk.injEq, AV.ro.injEq] at this
  obtain ⟨⟨rfl, rfl⟩, rfl⟩ := this
  exact .inl ⟨rfl, rfl, rfl, rfl⟩
 | sl id off n z =>
  rw [Jg] at h
  simp only [h1, h2, zac] at h
  split at h
  case isFalse => cases h
  rename_i hz
  split at h
  case isFalse => cases h
  rename_i ha
  simp only [zab] at h
  obtain ⟨cs, h4, q, h5, h6⟩ := h
  simp only [Option.some.injEq, Prod.mk.injEq, AV.ro.injEq] at h6
  obtain ⟨⟨rfl, rfl⟩, rfl⟩ := h6
  subst hz
  obtain ⟨hl, b, hb, hlv, _, _⟩ := Ka h4
  have ha' : b.app = true := by simpa only [Js, hb] using ha
  exact .inr ⟨id, off, cs, q.2, b, rfl, rfl, hb, hlv, ha', h4, h5⟩
 | agg cs =>
  rw [Jf] at h
  simp only [zab] at h
  obtain ⟨i, h1, q, h2, h3⟩ := h
  simp at h3
 | tup cs =>
  rw [Kg] at h
  simp only [zab] at h
  obtain ⟨i, h1, q, h2, h3⟩ := h
  simp at h3
 | _ => simp [C9] at h
theorem Abh {sz m ty : Nat} {cty : List Nat} {y : AV} {cb : List AV} (hty : ∃ i j, As ty = some i ∧ As i.elem = some j ∧ j.size = sz ∧ j.cty = cty) (hp : Pk L (.own y ty (.ro m cb)) L2) (hf : cb.all Oy = true) : Src H L sz cty y m cb L := fun I h => by
 obtain ⟨i, j, e1, e2, rfl, rfl⟩ := hty
 obtain ⟨J, R, ⟨_, _, h1⟩, h2, h3⟩ := hp.sepI h
 rcases Us e1 e2 h1 with ⟨rfl, rfl, rfl, rfl⟩ | ⟨id, off, raw, J', b, rfl, rfl, hb, hlv, ha, h4, h5⟩
 ·exact ⟨[], [], I, [], rfl, rfl, rfl, by simp, by simp [D7], h, by simp⟩
 ·have hl := (Ka h4).1
  have key : ∀ {ts : List Nat} {xs cells : List AV} {I : List Nat}, D7 (C9 As E0.tp H 5) ts xs = some (cells, I) → cells.all Oy = true → xs = cells ∧ I = [] := by
   intro ts xs
   induction xs generalizing ts with
   | nil =>
    intro cells I h _
    obtain ⟨_, e⟩ := Je h
    cases e
    exact ⟨rfl, rfl⟩
   | cons x xs ih =>
    intro cells I h hs
    cases ts with
    | nil => simp [D7] at h
    | cons t ts =>
     obtain ⟨a, b, h1, h2, e⟩ := Ho h
     cases e
     rw [zax, zag] at hs
     obtain ⟨rfl, e2⟩ := ih h2 hs.2
     have hx : x = a.1 ∧ a.2 = [] := by
      obtain ⟨a1, a2⟩ := a
      cases a1 with
      | sc v =>
       have := Z6 h1
       subst this
       have : (AV.sc v, ([] : List Nat)) = (.sc v, a2) := Option.some.inj h1
       cases this
       exact ⟨rfl, rfl⟩
      | _ => simp [Oy] at hs
     refine ⟨by rw [hx.1], by rw [hx.2, e2]; rfl⟩
  obtain ⟨rfl, rfl⟩ := key h5 hf
  refine ⟨raw, [], I, [], rfl, ?_, Yt hf, hl, h5, h, by simp⟩
  show (if j.size = j.size then Be H id off (m * j.size) else none) = _
  rw [if_pos rfl, h4]
theorem AgL {sz bytes k m ty : Nat} {cty : List Nat} {x y : AV} {ca cb : List AV} (hs : Sep H L) (hty : ∃ i j, As ty = some i ∧ As i.elem = some j ∧ j.size = sz ∧ j.cty = cty) (hx : Pk L (.own x ty (.ro k ca)) L1) (hy : Src H L1 sz cty y m cb L2) (hok : G7 (H8 As E0.tp 5) (zai m cty).flatten cb) (hb : (k + m) * bytes ≤ 140737488355328)
  (h : ∀ x' H', Bk x' = true → Sep H' (.own x' ty (.ro (k + m) (ca ++ cb)) :: L2) → (∃ id cx cy, x' = .sl id 0 (k + m) sz ∧ H'[id]? = some ⟨cx ++ cy, true, true⟩ ∧ Dt H sz y = some cy ∧ cx.length = k * sz) → Gd G (KH x' H')) : Gd G (K7 sz bytes x y H fun x H => KH x H) := by
 obtain ⟨i, j, e1, e2, rfl, rfl⟩ := hty
 obtain ⟨I, hI, hn⟩ := hs
 obtain ⟨J, R, ⟨hlx, hox, h1⟩, h2, h3⟩ := hx.sepI hI
 obtain ⟨raw, Jy, Ry, X, q1, q2, q3, q4, q5, q6, q7⟩ := hy R h2
 have hn' : (J ++ (Jy ++ (Ry ++ X))).Nodup := (h3.trans (zb7.append_left J q7)).nodup_iff.1 hn
 have hRlt : ∀ i ∈ Jy ++ Ry, i < H.length := fun z hz => by
  refine h2.lt z ?_
  refine q7.symm.mem_iff.1 ?_
  rw [← zaf]
  exact za8 _ hz
 have hok' : H8 As E0.tp 6 ty (.ro (k + m) (ca ++ cb)) := by
  obtain ⟨i', j', g1, g2, g3, g4⟩ := hox
  rw [e1] at g1
  cases g1
  rw [e2] at g2
  cases g2
  refine ⟨i, j, e1, e2, ?_, ?_⟩
  ·have := AaP hok
   have hq := W1 q5
   rw [zad, g3, hq.2, q4, zbB]
  ·rw [← List.replicate_append_replicate, zbm]
   exact Pn g4 hok
 have fin : ∀ (H1 : Ab) (cx : List AV) (Jx : List Nat), H1.length = H.length → cx.all Bk = true ∨ True → D7 (C9 As E0.tp H1 5) (zai k j.cty).flatten cx = some (ca, Jx) → D7 (C9 As E0.tp H1 5) (zai m j.cty).flatten raw = some (cb, Jy) → SepI H1 L2 Ry → (Jx ++ (Jy ++ (Ry ++ X))).Nodup → (∀ i ∈ Jx, i < H1.length) → cx.length = k * j.size →
   Sep (H1 ++ [⟨cx ++ raw, true, true⟩]) (.own (.sl H1.length 0 (k + m) j.size) ty (.ro (k + m) (ca ++ cb)) :: L2) := by
  intro H1 cx Jx hl1 _ a1 a2 a3 a4 a5 a6
  have hg : (H1 ++ [(⟨cx ++ raw, true, true⟩ : Jm)])[H1.length]? = some ⟨cx ++ raw, true, true⟩ := by
   rw [zaj (zan _), zba]
   rfl
  have fr : ∀ z, z < H1.length → (H1 ++ [(⟨cx ++ raw, true, true⟩ : Jm)])[z]? = H1[z]? := fun z hz => zak hz
  have b1 := G8 (f' := C9 As E0.tp (H1 ++ [⟨cx ++ raw, true, true⟩]) 5) (fun t x a h hi => Fz 5 t x a h fun z hz => fr z (a5 z (hi z hz))) a1
  have b2 := G8 (f' := C9 As E0.tp (H1 ++ [⟨cx ++ raw, true, true⟩]) 5) (fun t x a h hi => Fz 5 t x a h fun z hz => fr z (by rw [hl1]; exact hRlt z (za8 _ (hi z hz)))) a2
  have b3 := a3.grow [⟨cx ++ raw, true, true⟩]
  have b4 := Ps b1 b2
  rw [← zbm, List.replicate_append_replicate] at b4
  refine ⟨(H1.length :: (Jx ++ Jy)) ++ Ry, ⟨H1.length :: (Jx ++ Jy), Ry, rfl, ⟨rfl, hok', ?_⟩, b3⟩, ?_⟩
  ·rw [Jg]
   have ha : Js (H1 ++ [⟨cx ++ raw, true, true⟩]) H1.length = true := by simp only [Js, hg]
   have hrd : Be (H1 ++ [⟨cx ++ raw, true, true⟩]) H1.length 0 ((k + m) * j.size) = some (cx ++ raw) := by
    have : (cx ++ raw).length = (k + m) * j.size := by rw [zad, a6, q4, zbB]
    simp only [Be, hg, if_true, za1, zaL, ← this, zan, zaC]
   simp only [e1, e2, zac, if_true, ha, hrd, b4]
  ·rw [zau, zbe]
   have hn3 : (Jx ++ Jy ++ Ry).Nodup := by
    rw [zaf]
    have : (Jx ++ (Jy ++ Ry) ++ X).Nodup := by simpa only [zaf] using a4
    exact (zaU.1 this).1
   refine ⟨fun hm => ?_, hn3⟩
   rcases zaQ.1 hm with hm | hm
   ·rcases zaQ.1 hm with hm | hm
    ·exact Nat.lt_irrefl _ (a5 _ hm)
    ·have := hRlt _ (za8 _ hm)
     omega
   ·have := hRlt _ (zaE _ hm)
    omega
 rcases Us e1 e2 h1 with ⟨rfl, rfl, rfl, rfl⟩ | ⟨id, off, cx, J', b, rfl, rfl, hb1, hlv, hap, h4, h5⟩
 ·have hc : Dt H j.size .nl = some [] := rfl
  refine D4 (b := KH (.sl H.length 0 (0 + m) j.size) (H ++ [⟨[] ++ raw, true, true⟩])) ?_ (h _ _ rfl (fin H [] [] rfl (.inr trivial) (by simp [D7]) q5 q6 (by simpa using hn') (by simp) (by simp)) ⟨_, [], raw, rfl, by rw [zaj (zan _), zba]; rfl, q2, by simp⟩)
  have hl0 : Jo .nl = some 0 := rfl
  have hk0 : S9 H .nl = some H := rfl
  simp only [K7, hl0, zac, q1, q2, hc, hk0]
  rw [if_pos hb, if_pos q3]
  rfl
 ·have hc : Dt H j.size (.sl id off k j.size) = some cx := by
   show (if j.size = j.size then Be H id off (k * j.size) else none) = _
   rw [if_pos rfl, h4]
  have hk : S9 H (.sl id off k j.size) = some (H.set id { b with live := false }) := by
   show (H[id]?).bind (fun b => if b.app then some (H.set id { b with live := false }) else none) = _
   rw [hb1, zac, if_pos hap]
  have hn2 : (id :: (J' ++ (Jy ++ (Ry ++ X)))).Nodup := hn'
  have hnid := (zbe.1 hn2).1
  have hset : ∀ z, z ≠ id → (H.set id { b with live := false })[z]? = H[z]? := fun z hz => zb9 (fun e => hz e.symm)
  have c1 := G8 (f' := C9 As E0.tp (H.set id { b with live := false }) 5) (fun t x a h hi => Fz 5 t x a h fun z hz => hset z (fun e => hnid (e ▸ za8 _ (hi z hz)))) h5
  have c2 := G8 (f' := C9 As E0.tp (H.set id { b with live := false }) 5) (fun t x a h hi => Fz 5 t x a h fun z hz => hset z (fun e => hnid (e ▸ zaE _ (za8 _ (hi z hz))))) q5
  have c3 := q6.frame (H' := H.set id { b with live := false }) fun z hz => hset z (fun e => hnid (e ▸ zaE _ (zaE _ (za8 _ hz))))
  have hJlt : ∀ z ∈ J', z < H.length := fun z hz => Pu 6 ty _ _ h1 z (zat _ hz)
  refine D4 (b := KH (.sl (H.set id { b with live := false }).length 0 (k + m) j.size) (H.set id { b with live := false } ++ [⟨cx ++ raw, true, true⟩])) ?_ (h _ _ rfl (fin _ cx J' (by simp) (.inr trivial) c1 c2 c3 (zbe.1 hn2).2 (fun z hz => by rw [List.length_set]; exact hJlt z hz) (Ka h4).1) ⟨_, cx, raw, rfl, by rw [zaj (zan _), zba]; rfl, q2, (Ka h4).1⟩)
  have hl0 : Jo (.sl id off k j.size) = some k := rfl
  simp only [K7, hl0, zac, q1, q2, hc, hk]
  rw [if_pos hb, if_pos q3]
  rfl
theorem AaA {sz bytes k m ty : Nat} {cty : List Nat} {x y : AV} {ca cb : List AV} (hs : Sep H L) (hty : ∃ i j, As ty = some i ∧ As i.elem = some j ∧ j.size = sz ∧ j.cty = cty) (hx : Pk L (.own x ty (.ro k ca)) L1) (hy : Src H L1 sz cty y m cb L2) (hok : G7 (H8 As E0.tp 5) (zai m cty).flatten cb) (hb : (k + m) * bytes ≤ 140737488355328)
  (h : ∀ x' H', Bk x' = true → Sep H' (.own x' ty (.ro (k + m) (ca ++ cb)) :: L2) → Gd G (KH x' H')) : Gd G (K7 sz bytes x y H fun x H => KH x H) := AgL hs hty hx hy hok hb fun x' H' h1 h2 _ => h x' H' h1 h2
theorem Cm {G : Option AV → Prop} {o : Option AV} (h : Gd G o) : G o := h
theorem B0 {ty : Nat} {tys : List Nat} {raw cells : List AV} (hs : Sep H L) (hts : E0.tp ty = some tys) (hr : OwnR L raw tys cells L') (hok : G7 (H8 As E0.tp 7) tys cells) : A8 As E0.tp ty H (.tup raw) = some (.tup cells) := by
 obtain ⟨I, h1, h2⟩ := hs
 obtain ⟨J, R, g1, g2, g3⟩ := hr.sound h1 7 hok
 have hn := (zaU.1 (g3.nodup_iff.1 h2)).1
 rw [A8, Kg, hts, zac, g1, zac, zac, if_pos hn]
theorem B4 {ty : Nat} {cty : List Nat} {raw cells : List AV} (hs : Sep H L) (hty : ∃ i, As ty = some i ∧ i.cty = cty) (hr : OwnR L raw cty cells L') (hok : G7 (H8 As E0.tp 7) cty cells) : A8 As E0.tp ty H (.agg raw) = some (.agg cells) := by
 obtain ⟨i, e1, rfl⟩ := hty
 obtain ⟨I, h1, h2⟩ := hs
 obtain ⟨J, R, g1, g2, g3⟩ := hr.sound h1 7 hok
 have hn := (zaU.1 (g3.nodup_iff.1 h2)).1
 rw [A8, Jf, e1, zac, g1, zac, zac, if_pos hn]
theorem Da {ty : Nat} {x t : AV} (hs : Sep H L) (hp : Pk L (.own x ty t) L') : A8 As E0.tp ty H x = some t := by
 obtain ⟨_, h1, I, h2, h3⟩ := hs.own hp
 rw [A8, Jh 6 8 ty x t I h2 (Bs h1 (by decide)), zac, if_pos h3]
theorem Al {G : Option AV → Prop} {ty : Nat} {x t : AV} (e : A8 As E0.tp ty H x = some t) (h : G (some t)) : Gd G (A8 As E0.tp ty H x) := by
 rw [e]
 exact h
end
theorem Im {L : List Ck} {d : Nat} {a0 a1 : Value} {xs ts : List AV} (h : VwL L (d + 1) xs ts) : VwL L (d + 1) (.sc a0 :: .sc a1 :: xs) (.sc a0 :: .sc a1 :: ts) := (.cons .sc (.cons .sc h))
theorem P0 {L : List Ck} {d : Nat} {a0 a1 a2 : Value} {xs ts : List AV} (h : VwL L (d + 1) xs ts) : VwL L (d + 1) (.sc a0 :: .sc a1 :: .sc a2 :: xs) (.sc a0 :: .sc a1 :: .sc a2 :: ts) := (.cons .sc (.cons .sc (.cons .sc h)))
theorem L8 {L : List Ck} {d : Nat} {a0 a1 a2 a3 a4 : Value} {xs ts : List AV} (h : VwL L (d + 1) xs ts) : VwL L (d + 1) (.sc a0 :: .sc a1 :: .sc a2 :: .sc a3 :: .sc a4 :: xs) (.sc a0 :: .sc a1 :: .sc a2 :: .sc a3 :: .sc a4 :: ts) := (.cons .sc (.cons .sc (.cons .sc (.cons .sc (.cons .sc h)))))
theorem Gf {L : List Ck} {d : Nat} {a0 a1 a2 a3 a4 a5 : Value} {xs ts : List AV} (h : VwL L (d + 1) xs ts) : VwL L (d + 1) (.sc a0 :: .sc a1 :: .sc a2 :: .sc a3 :: .sc a4 :: .sc a5 :: xs) (.sc a0 :: .sc a1 :: .sc a2 :: .sc a3 :: .sc a4 :: .sc a5 :: ts) := (.cons .sc (.cons .sc (.cons .sc (.cons .sc (.cons .sc (.cons .sc h))))))
theorem X0 {L L' : List Ck} {a0 a1 a2 : Value} {t0 t1 t2 : Nat} {xs cs : List AV} {ts : List Nat} (h : OwnR L xs ts cs L') : OwnR L (.sc a0 :: .sc a1 :: .sc a2 :: xs) (t0 :: t1 :: t2 :: ts) (.sc a0 :: .sc a1 :: .sc a2 :: cs) L' := (.sc (.sc (.sc h)))
theorem G6 {L L' : List Ck} {a0 a1 a2 a3 a4 : Value} {t0 t1 t2 t3 t4 : Nat} {xs cs : List AV} {ts : List Nat} (h : OwnR L xs ts cs L') : OwnR L (.sc a0 :: .sc a1 :: .sc a2 :: .sc a3 :: .sc a4 :: xs) (t0 :: t1 :: t2 :: t3 :: t4 :: ts) (.sc a0 :: .sc a1 :: .sc a2 :: .sc a3 :: .sc a4 :: cs) L' := (.sc (.sc (.sc (.sc (.sc h)))))
theorem Du {L L' : List Ck} {a0 a1 a2 a3 a4 a5 : Value} {t0 t1 t2 t3 t4 t5 : Nat} {xs cs : List AV} {ts : List Nat} (h : OwnR L xs ts cs L') : OwnR L (.sc a0 :: .sc a1 :: .sc a2 :: .sc a3 :: .sc a4 :: .sc a5 :: xs) (t0 :: t1 :: t2 :: t3 :: t4 :: t5 :: ts) (.sc a0 :: .sc a1 :: .sc a2 :: .sc a3 :: .sc a4 :: .sc a5 :: cs) L' := (.sc (.sc (.sc (.sc (.sc (.sc h))))))
theorem E8 {P : Prop} (h : P) : True ∧ True ∧ P := ⟨trivial, trivial, h⟩
theorem X1 {P : Prop} (h : P) : True ∧ True ∧ True ∧ P := ⟨trivial, trivial, trivial, h⟩
theorem Hb {P : Prop} (h : P) : True ∧ True ∧ True ∧ True ∧ True ∧ P := ⟨trivial, trivial, trivial, trivial, trivial, h⟩
theorem Dv {P : Prop} (h : P) : True ∧ True ∧ True ∧ True ∧ True ∧ True ∧ P := ⟨trivial, trivial, trivial, trivial, trivial, trivial, h⟩
theorem zAp {j o : Nat} {ds : List AV} {b : Bool} {L1 L2 : List Ck} (h : Pk L1 (.blk j ds b) L2) : ∀ y ∈ [AV.ptr j o], ∃ j' o' ds' b', y = .ptr j' o' ∧ ∃ L2, Pk L1 (.blk j' ds' b') L2 := fun y hy => by
 cases zbg.1 hy
 exact ⟨_, _, _, _, rfl, _, h⟩
theorem A3 {β : Type} {G : Option β → Prop} {H : Ab} {L L1 : List Ck} {i o : Nat} {cs : List AV} {a : Bool} {y : AV} {KS : Ab → Option β} (hs : Sep H L) (hp : Pk L (.blk i cs a) L1) (hy : Bk y = true) (hl : Nat.ble (o + 1) cs.length = true) (h : ∀ H', Sep H' (.blk i (cs.set o y) a :: L1) → Gd G (KS H')) : Gd G (G9 1 (.ptr i o) y H fun H => KS H) := B8 hs hp (D2 hy) rfl (Ca hl) (by
 unfold Ha
 have := Ca hl
 rw [List.set_eq_take_append_cons_drop, if_pos (by omega)]
 simp) h
end
section
open Go
variable {β : Type}
theorem L7 {d ty : Nat} {cty : List Nat} {cs : List AV} (hty : ∃ i, As ty = some i ∧ i.cty = cty) (h : G7 (H8 As E0.tp d) cty cs) : H8 As E0.tp (d + 1) ty (.agg cs) := by
 obtain ⟨i, hi, rfl⟩ := hty
 exact ⟨i, hi, h⟩
theorem AnJ {d ty : Nat} (h : ∃ i j, As ty = some i ∧ As i.elem = some j) : H8 As E0.tp (d + 1) ty (.ro 0 []) := by
 obtain ⟨i, j, h1, h2⟩ := h
 exact ⟨i, j, h1, h2, by simp, by simp [G7]⟩
theorem A9 {d ty : Nat} (h : ∃ i j, As ty = some i ∧ As i.elem = some j := by exact ⟨_, _, rfl, rfl⟩) : H8 As E0.tp (d + 1) ty (.ro 0 []) := AnJ h
theorem Gd.both {G : Option β → Prop} {a b : Option β} (h1 : Gd G a) (h2 : a = b) : Gd G (Px a b) := by
 rw [AaV rfl h2.symm]
 exact h1
theorem Cx (s : ByteArray) : H8 As E0.tp 6 22 (Ad s) := Hn (d := 4) Ji s
theorem AeE (s : ByteArray) : H8 As E0.tp 5 22 (Ad s) := Hn (d := 3) Ji s
theorem Z3 (l : List Int) : H8 As E0.tp 6 57 (D5 l) := Lu (d := 4) (fun z : Int => .int .i64 z) Acp l
theorem AmQ (l : List Int) : H8 As E0.tp 5 57 (D5 l) := Lu (d := 3) (fun z : Int => .int .i64 z) Acp l
theorem Wy (l : List ByteArray) : H8 As E0.tp 6 56 (D6 l) := Lu (d := 4) (fun z : ByteArray => .string z) Tq l
theorem AmR (l : List ByteArray) : H8 As E0.tp 5 56 (D6 l) := Lu (d := 3) (fun z : ByteArray => .string z) Tq l
theorem K6 (l : List WantV) : H8 As E0.tp 6 55 (Bt Bp l) := Hi (d := 5) F5 ⟨_, _, rfl, rfl, rfl, rfl⟩ (Z4 4) l
theorem AaQ (l : List WantV) : H8 As E0.tp 5 55 (Bt Bp l) := Hi (d := 4) F5 ⟨_, _, rfl, rfl, rfl, rfl⟩ (Z4 3) l
theorem Lh (l : List PacketV) : H8 As E0.tp 6 33 (Bt An l) := Hi (d := 5) Ge ⟨_, _, rfl, rfl, rfl, rfl⟩ (H9 3) l
theorem InsL.mono {ts : List Nat} {cs : List AV} {Φ Ψ : List AV → List Ck → Prop} (h : InsL ts cs Φ) (m : ∀ xs Lx, Φ xs Lx → Ψ xs Lx) : InsL ts cs Ψ := fun H L hs => by
 obtain ⟨xs, Lx, a, b, c⟩ := h H L hs
 exact ⟨xs, Lx, a, b, m _ _ c⟩
theorem J3 (p : PacketV) : InsL P7 (An p) fun xs Lx => ∃ x6 x13 x19 x22 x23 x24 : AV, Bk x6 = true ∧ Bk x13 = true ∧ Bk x19 = true ∧ Bk x22 = true ∧ Bk x23 = true ∧ Bk x24 = true ∧ xs = [.sc (.int .i64 p.fType), .sc (.bool p.fDup), .sc (.int .i64 p.fQos), .sc (.bool p.fRetain), .sc (.int .i64 p.fId), .sc (.string p.fTopic), x6, .sc (.string p.fClient), .sc (.int .i64 p.fLevel), .sc (.bool p.fClean), .sc (.int .i64 p.fKeep), .sc (.bool p.fHasWill), .sc (.string p.fWTopic), x13, .sc (.int .i64 p.fWQos), .sc (.bool p.fWRetain), .sc (.bool p.fHasUser), .sc (.string p.fUser), .sc (.bool p.fHasPass), x19, .sc (.int .i64 p.fCode), .sc (.bool p.fPresent), x22, x23, x24] ∧ Lx = [.own x24 57 (D5 p.fCodes), .own x23 56 (D6 p.fNames), .own x22 55 (Bt Bp p.fWants), .own x19 22 (Ad p.fPass), .own x13 22 (Ad p.fWBody), .own x6 22 (Ad p.fBody)] :=
 InsL.mono (Bd (Bd (Bd (Bd (Bd (Bd (Jd (ty := 22) rfl (Cx p.fBody) (Bd (Bd (Bd (Bd (Bd (Bd (Jd (ty := 22) rfl (Cx p.fWBody) (Bd (Bd (Bd (Bd (Bd (Jd (ty := 22) rfl (Cx p.fPass) (Bd (Bd (Jd (ty := 55) rfl (K6 p.fWants) (Jd (ty := 56) rfl (Wy p.fNames) (Jd (ty := 57) rfl (Z3 p.fCodes) Dz))))))))))))))))))))))))) (by
  rintro _ _ ⟨_, rfl, ⟨_, rfl, ⟨_, rfl, ⟨_, rfl, ⟨_, rfl, ⟨_, rfl, ⟨x6, _, _, l6, rfl, rfl, ⟨_, rfl, ⟨_, rfl, ⟨_, rfl, ⟨_, rfl, ⟨_, rfl, ⟨_, rfl, ⟨x13, _, _, l13, rfl, rfl, ⟨_, rfl, ⟨_, rfl, ⟨_, rfl, ⟨_, rfl, ⟨_, rfl, ⟨x19, _, _, l19, rfl, rfl, ⟨_, rfl, ⟨_, rfl, ⟨x22, _, _, l22, rfl, rfl, ⟨x23, _, _, l23, rfl, rfl, ⟨x24, _, _, l24, rfl, rfl, ⟨rfl, rfl⟩⟩⟩⟩⟩⟩⟩⟩⟩⟩⟩⟩⟩⟩⟩⟩⟩⟩⟩⟩⟩⟩⟩⟩⟩⟩
  exact ⟨x6, x13, x19, x22, x23, x24, l6, l13, l19, l22, l23, l24, rfl, rfl⟩)
end
section
open Go
inductive Sel : List Ck → List Ck → Prop
 | nil {L : List Ck} : Sel L []
 | cons {L L1 L' : List Ck} {c : Ck} : Pk L c L1 → Sel L1 L' → Sel L (c :: L')
 | rest {L : List Ck} : Sel L L
 | skip {L L' : List Ck} {c : Ck} : Sel L L' → Sel (c :: L) L'
theorem zS2 {a0 a1 : Ck} {L : List Ck} : Sel (a0 :: a1 :: L) L := .skip (.skip (.rest))
section
variable {β : Type} {n : Nat} {H : Ab} {L L' L1 L2 : List Ck} {G : Option β → Prop} {K : AV → Option β} {KH : KO β}
theorem Sep.none (h : Sep H L) : Sep H [] := by
 induction L with
 | nil => exact h
 | cons c L ih => exact ih h.tail
theorem Sel.sepI : ∀ {L L' : List Ck} {I : List Nat}, Sel L L' → SepI H L I → ∃ J X, SepI H L' J ∧ I.Perm (J ++ X)
 | _, _, I, .nil, h => ⟨[], I, rfl, zb7.refl _⟩
 | _, _, I, .rest, h => ⟨I, [], h, by simp⟩
 | _, _, I, .skip q, h => by
  obtain ⟨J, R, rfl, g1, g2⟩ := h
  obtain ⟨J', X, e1, e2⟩ := q.sepI g2
  refine ⟨J', J ++ X, e1, ?_⟩
  refine (zb7.append_left J e2).trans ?_
  rw [← zaf, ← zaf]
  exact zb7.append_right X List.perm_append_comm
 | _, _, I, .cons p q, h => by
  obtain ⟨J, R, g1, g2, g3⟩ := p.sepI h
  obtain ⟨J', X, e1, e2⟩ := q.sepI g2
  refine ⟨J ++ J', X, ⟨J, J', rfl, g1, e1⟩, ?_⟩
  rw [zaf]
  exact g3.trans (zb7.append_left J e2)
theorem Sep.sel (h : Sep H L) (q : Sel L L') : Sep H L' := by
 obtain ⟨I, h1, h2⟩ := h
 obtain ⟨J, X, g1, g2⟩ := q.sepI h1
 exact ⟨J, g1, (zaU.1 (g2.nodup_iff.1 h2)).1⟩
theorem F4 {x off : Nat} {ts : List AV} {cs : List AV} {a : Bool} {m : Option β} (hs : Sep H L) (hp : Pk L (.blk x cs a) L1) (ht : ∀ y ∈ ts, ∃ j o ds b, y = .ptr j o ∧ ∃ L2, Pk L1 (.blk j ds b) L2) (h : Gd G m) : Gd G (Re (.ptr x off) ts H m) := by
 have e : U1 (.ptr x off) ts H = true := by
  have hb := hs.blk hp
  simp only [U1, hb, zaK, za4]
  intro y hy
  obtain ⟨j, o, ds, b, rfl, L2, hq⟩ := ht y hy
  obtain ⟨I, ⟨J, R, rfl, ⟨rfl, h1⟩, h2⟩, h3⟩ := hs.pick hp
  obtain ⟨J', R', ⟨rfl, g1⟩, g2, g3⟩ := hq.sepI h2
  have hne : x ≠ j := by
   rintro rfl
   have hn := (zbe.1 h3).1
   exact hn (g3.symm.mem_iff.1 (by simp))
  simp [g1, hne]
 unfold Re
 rw [if_pos e]
 exact h
theorem Gd.bothE {r a b : Option β} (h1 : Gd (· = r) a) (h2 : Gd (· = r) b) : Gd (· = r) (Px a b) := AaV h1 h2
theorem Hp {x o o' : Nat} {m : Option β} (h : Gd G m) : Gd G (Sl (.ptr x o) (.ptr x o') m) := by
 simp only [Sl, if_true]
 exact h
theorem Mr {α : Type} {w : Nat} {enc : α → List AV} {l pre t : List α} {x : α} {i : Int} (hi : i = (pre.length : Nat)) (hw : ∀ x, (enc x).length = w) (h0 : 0 < w) (hl : l = pre ++ x :: t) (h : Gd G (K (.rp (enc x ++ (t.map enc).flatten)))) : Gd G (Dn w (Bt enc l) (.sc (.int .i64 i)) fun t => K t) := by
 subst hl
 subst hi
 exact D4 (Ac1 hw h0 pre x t _) h
theorem J4 {l pre t : List Int} {x i : Int} (hi : i = (pre.length : Nat)) (hl : l = pre ++ x :: t) (h : Gd G (K (.rp (Vi x ++ (t.map Vi).flatten)))) : Gd G (Dn 1 (D5 l) (.sc (.int .i64 i)) fun t => K t) := by
 rw [Lg]
 exact Mr hi (fun _ => rfl) (by decide) hl h
theorem Ng {l pre t : List ByteArray} {x : ByteArray} {i : Int} (hi : i = (pre.length : Nat)) (hl : l = pre ++ x :: t) (h : Gd G (K (.rp (Vj x ++ (t.map Vj).flatten)))) : Gd G (Dn 1 (D6 l) (.sc (.int .i64 i)) fun t => K t) := by
 rw [Lk]
 exact Mr hi (fun _ => rfl) (by decide) hl h
def A2 (s : ByteArray) (i : Int) : Int := ((s.data.toList.getD i.toNat 0).toNat : Nat)
theorem D0 (s : ByteArray) (i : Int) : 0 ≤ A2 s i ∧ A2 s i < 256 := by
 have := (s.data.toList.getD i.toNat 0).toNat_lt
 unfold A2
 omega
theorem Gn {s : ByteArray} {i : Int} (h0 : 0 ≤ i) (h1 : i < (s.size : Nat)) (h : ∀ rest, Gd G (K (.rp (.sc (.int .u8 (A2 s i)) :: rest)))) : Gd G (Dn 1 (Ad s) (.sc (.int .i64 i)) fun t => K t) := by
 have hlt : i.toNat < s.size := by omega
 have e : (Bg s).drop (i.toNat * 1) = .sc (.int .u8 (A2 s i)) :: (Bg s).drop (i.toNat + 1) := by
  rw [zbw, zbd (by rw [Ew]; omega)]
  congr 1
  simp [Bg, A2, zbp, hlt]
 have e2 : (.sc (.int .i64 i) : AV) = .sc (.int .i64 (i.toNat : Nat)) := by
  rw [Int.toNat_of_nonneg h0]
 rw [e2]
 refine D4 (N7 1 s.size (Bg s) i.toNat _ hlt (by rw [Ew]; omega)) ?_
 rw [e]
 exact h _
theorem Abd {α : Type} {enc : α → List AV} (l q : List α) : Bt enc (l ++ q) = .ro (l.length + q.length) ((l.map enc).flatten ++ (q.map enc).flatten) := by
 show AV.ro _ _ = _
 rw [zad, za3, zbm]
theorem Zs {α : Type} {enc : α → List AV} {sz bytes ty : Nat} {cty : List Nat} {x : AV} {l : List α} {i : Nat} {raw cb : List AV} {a : Bool} {e : α} {L3 : List Ck} (hs : Sep H L) (hty : ∃ i j, As ty = some i ∧ As i.elem = some j ∧ j.size = sz ∧ j.cty = cty) (hx : Pk L (.own x ty (Bt enc l)) L1) (hp : Pk L1 (.blk i raw a) L2) (hl : raw.length = sz) (hf : raw.all Bk = true) (hr : OwnR L2 raw cty cb L3) (hok : G7 (H8 As E0.tp 5) cty cb) (he : cb = enc e) (hb : (l.length + 1) * bytes ≤ 140737488355328)
  (h : ∀ x' H', Bk x' = true → Sep H' (.own x' ty (Bt enc (l ++ [e])) :: L3) → Gd G (KH x' H')) : Gd G (K7 sz bytes x (.sl i 0 1 sz) H fun x H => KH x H) := by
 have e1 : (zai 1 cty).flatten = cty := by simp
 refine AaA hs hty hx (Uu hp (by omega) hf (by rw [e1]; exact hr) (by rw [e1]; exact hok)) (by rw [e1]; exact hok) hb fun x' H' lx hs' => h x' H' lx ?_
 rw [Abd]
 simpa [he] using hs'
theorem AcL {ty : Nat} {cty : List Nat} {x : AV} {l : List Int} {i : Nat} {z : Int} {a : Bool} (hs : Sep H L) (hx : Pk L (.own x ty (D5 l)) L1) (hp : Pk L1 (.blk i [.sc (.int .i64 z)] a) L2) (hty : ∃ i j, As ty = some i ∧ As i.elem = some j ∧ j.size = 1 ∧ j.cty = cty) (hc : cty.length = 1) (hb : (l.length + 1) * 8 ≤ 140737488355328)
  (h : ∀ x' H', Bk x' = true → Sep H' (.own x' ty (D5 (l ++ [z])) :: L2) → Gd G (KH x' H')) : Gd G (K7 1 8 x (.sl i 0 1 1) H fun x H => KH x H) := by
 obtain ⟨c, rfl⟩ := zbo.1 hc
 rw [Lg] at hx h
 exact Zs hs hty hx hp rfl rfl (.sc .nil) ⟨trivial, trivial⟩ rfl hb h
theorem Zt {ty : Nat} {cty : List Nat} {x : AV} {l : List ByteArray} {i : Nat} {z : ByteArray} {a : Bool} (hs : Sep H L) (hx : Pk L (.own x ty (D6 l)) L1) (hp : Pk L1 (.blk i [.sc (.string z)] a) L2) (hty : ∃ i j, As ty = some i ∧ As i.elem = some j ∧ j.size = 1 ∧ j.cty = cty) (hc : cty.length = 1) (hb : (l.length + 1) * 16 ≤ 140737488355328)
  (h : ∀ x' H', Bk x' = true → Sep H' (.own x' ty (D6 (l ++ [z])) :: L2) → Gd G (KH x' H')) : Gd G (K7 1 16 x (.sl i 0 1 1) H fun x H => KH x H) := by
 obtain ⟨c, rfl⟩ := zbo.1 hc
 rw [Lk] at hx h
 exact Zs hs hty hx hp rfl rfl (.sc .nil) ⟨trivial, trivial⟩ rfl hb h
theorem Adb {f : Nat → AV → Option (AV × List Nat)} : ∀ {ts : List Nat} {xs cells : List AV} {I : List Nat} {k ty : Nat} {y t : AV}, D7 f ts xs = some (cells, I) → xs[k]? = some y → ts[k]? = some ty → cells[k]? = some t → ∃ J, f ty y = some (t, J) ∧ ∀ i ∈ J, i ∈ I
 | ts, [], cells, I, k, ty, y, t, h, hy, _, _ => by simp at hy
 | [], _ :: _, _, _, _, _, _, _, h, _, _, _ => by simp [D7] at h
 | t0 :: ts, x :: xs, cells, I, k, ty, y, t, h, hy, ht, hc => by
  obtain ⟨a, b, h1, h2, e⟩ := Ho h
  cases e
  cases k with
  | zero =>
   simp only [zaX, Option.some.injEq] at hy ht hc
   subst hy
   subst ht
   subst hc
   exact ⟨a.2, h1, fun i hi => za8 _ hi⟩
  | succ k =>
   obtain ⟨J, g1, g2⟩ := Adb (cells := b.1) (I := b.2) h2 (by simpa using hy) (by simpa using ht) (by simpa using hc)
   exact ⟨J, g1, fun i hi => zaE _ (g2 i hi)⟩
theorem AcM {α : Type} {enc : α → List AV} {sz bytes ty : Nat} {cty : List Nat} {x : AV} {l : List α} {i k ty' : Nat} {y t' : AV} {raw cb : List AV} {a : Bool} {e : α} {L3 : List Ck} (hs : Sep H L) (hty : ∃ i j, As ty = some i ∧ As i.elem = some j ∧ j.size = sz ∧ j.cty = cty) (hx : Pk L (.own x ty (Bt enc l)) L1) (hp : Pk L1 (.blk i raw a) L2) (hl : raw.length = sz) (hf : raw.all Bk = true) (hr : OwnR L2 raw cty cb L3) (hok : G7 (H8 As E0.tp 5) cty cb) (he : cb = enc e) (hb : (l.length + 1) * bytes ≤ 140737488355328)
  (hw : ∀ x, (enc x).length = sz) (hc : cty.length = sz) (hk : raw[k]? = some y) (hk2 : cty[k]? = some ty') (hk3 : cb[k]? = some t') (hok5 : H8 As E0.tp 6 ty' t')
  (h : ∀ x' H', Bk x' = true → Sep H' (.shr x' ty (Bt enc (l ++ [e])) y ty' t' :: L3) → Gd G (KH x' H')) : Gd G (K7 sz bytes x (.sl i 0 1 sz) H fun x H => KH x H) := by
 have e1 : (zai 1 cty).flatten = cty := by simp
 have hblk := (hs.pick hx).tail.blk hp
 obtain ⟨ti, tj, t1, t2, t3, t4⟩ := hty
 refine AgL hs ⟨ti, tj, t1, t2, t3, t4⟩ hx (Uu hp (by omega) hf (by rw [e1]; exact hr) (by rw [e1]; exact hok)) (by rw [e1]; exact hok) hb fun x' H' lx hs' ⟨id, cx, cy, q1, q2, q3, q4⟩ => h x' H' lx ?_
 have hcy : cy = raw := by
  have : Dt H sz (.sl i 0 1 sz) = some raw := by
   show (if sz = sz then Be H i 0 (1 * sz) else none) = _
   simp only [if_true, Be, hblk, Nat.one_mul, za1, zaL, ← hl, zan, zaC]
  rw [this] at q3
  exact (Option.some.inj q3).symm
 subst hcy
 obtain ⟨I, ⟨J, R, rfl, ⟨h0, h1, h2⟩, h3⟩, h4⟩ := hs'
 have hrow : AV.ro (l.length + 1) ((l.map enc).flatten ++ cb) = Bt enc (l ++ [e]) := by
  rw [Abd]
  simp [he]
 rw [hrow] at h1 h2
 refine ⟨J ++ R, ⟨J, R, rfl, ⟨⟨h0, h1, h2⟩, hok5, ?_⟩, h3⟩, h4⟩
 rw [← hrow] at h2
 rcases Us t1 t2 h2 with ⟨rfl, _⟩ | ⟨id', off, raw', J', b, p1, p2, p3, p4, p5, p6, p7⟩
 ·cases q1
 ·rw [q1] at p1
  cases p1
  rw [q2] at p3
  cases p3
  have hraw : raw' = cx ++ cy := by
   have hlen : (cx ++ cy).length = (l.length + 1) * tj.size := by rw [zad, q4, hl, t3, zbB, Nat.one_mul]
   simp only [Be, q2, if_true, za1, zaL] at p6
   rw [if_pos (by rw [hlen]; exact zan _), ← hlen, zaC] at p6
   exact (Option.some.inj p6).symm
  subst hraw
  have hlk : k < cy.length := (zae.1 hk).1
  obtain ⟨J2, g1, g2⟩ := Adb (k := l.length * tj.size + k) (ty := ty') (y := y) (t := t') p7 (by
   rw [zaj (by omega), q4, zbh]
   exact hk) (by
   rw [List.replicate_succ', zbm, zaj (by simp [t4, hc])]
   simp [t4, hc, hk2]) (by
   have hlr := Xd hw l
   rw [zaj (by omega), hlr, zbh]
   exact hk3)
  exact ⟨J2, Jh 5 6 ty' y t' J2 g1 hok5, fun z hz => by rw [p2]; exact zat _ (g2 z hz)⟩
theorem AlH {sz bytes m ty : Nat} {cty : List Nat} {y : AV} {cb : List AV} (hs : Sep H L) (hty : ∃ i j, As ty = some i ∧ As i.elem = some j ∧ j.size = sz ∧ j.cty = cty) (hy : Src H L sz cty y m cb L2) (hok : G7 (H8 As E0.tp 5) (zai m cty).flatten cb) (hb : m * bytes ≤ 140737488355328)
  (h : ∀ x' H', Bk x' = true → Sep H' (.own x' ty (.ro m cb) :: L2) → Gd G (KH x' H')) : Gd G (K7 sz bytes .nl y H fun x H => KH x H) := by
 obtain ⟨i, j, e1, e2, e3, e4⟩ := hty
 refine AaA (hs.nl (ty := ty) ⟨i, j, e1, e2⟩) ⟨i, j, e1, e2, e3, e4⟩ .here hy hok (by rw [za1]; exact hb) fun x' H' lx hs' => h x' H' lx ?_
 rw [za1, zal] at hs'
 exact hs'
theorem Se {d : Nat} : ∀ {ts : List Nat} {l : List AV}, ts.length = l.length → l.all Oy = true → G7 (H8 As E0.tp (d + 1)) ts l
 | [], [], _, _ => trivial
 | t :: ts, x :: l, h, hl => by
  rw [zax, zag] at hl
  refine ⟨?_, Se (by simpa using h) hl.2⟩
  cases x with
  | sc v => trivial
  | _ => simp [Oy] at hl
 | [], _ :: _, h, _ => by simp at h
 | _ :: _, [], h, _ => by simp at h
theorem Ki (s : ByteArray) : (Bg s).all Oy = true := by
 simp only [Bg, List.all_map, za4]
 intro b _
 rfl
theorem AcS {cty : List Nat} {w m : Nat} (h : cty.length = w) : ((zai m cty).flatten).length = m * w := by simp [h]
theorem Jc {s : ByteArray} (hs : Sep H L) (hb : s.size ≤ 140737488355328) (h : ∀ x' H', Bk x' = true → Sep H' (.own x' 22 (Ad s) :: L) → Gd G (KH x' H')) : Gd G (K7 1 1 .nl (Ad s) H fun x H => KH x H) :=
 AlH hs ⟨_, _, rfl, rfl, rfl, rfl⟩ (Ah2 rfl (by rw [Ew]; omega) (Ki s)) (Se (by rw [AcS (w := 1) rfl, Ew, zbw]) (Ki s)) (by omega) h
end
end
section
open Go
section
variable {β : Type} {n : Nat} {H : Ab} {L L' L1 L2 : List Ck} {G : Option β → Prop} {K : AV → Option β} {KH : KO β}
theorem W2 {d : Nat} : ∀ {ts : List Nat} {xs cells : List AV} {I : List Nat}, D7 (C9 As E0.tp H d) ts xs = some (cells, I) → cells.all Oy = true → xs = cells ∧ I = []
 | ts, [], cells, I, h, _ => by
  obtain ⟨_, e⟩ := Je h
  cases e
  exact ⟨rfl, rfl⟩
 | [], _ :: _, _, _, h, _ => by simp [D7] at h
 | t :: ts, x :: xs, cells, I, h, hs => by
  obtain ⟨a, b, h1, h2, e⟩ := Ho h
  cases e
  rw [zax, zag] at hs
  obtain ⟨rfl, e2⟩ := W2 h2 hs.2
  have hx : x = a.1 ∧ a.2 = [] := by
   obtain ⟨a1, a2⟩ := a
   cases a1 with
   | sc v =>
    have := Z6 h1
    subst this
    cases d with
    | zero => simp [C9] at h1
    | succ d =>
     have : (AV.sc v, ([] : List Nat)) = (.sc v, a2) := Option.some.inj h1
     cases this
     exact ⟨rfl, rfl⟩
   | _ => simp [Oy] at hs
  refine ⟨by rw [hx.1], by rw [hx.2, e2]; rfl⟩
theorem T9 {d : Nat} : ∀ {ts : List Nat} {l : List AV}, ts.length = l.length → l.all Oy = true → D7 (C9 As E0.tp H (d + 1)) ts l = some (l, [])
 | [], [], _, _ => rfl
 | t :: ts, x :: l, h, hl => by
  rw [zax, zag] at hl
  cases x with
  | sc v =>
   rw [D7, Z5, zac, T9 (by simpa using h) hl.2]
   rfl
  | _ => simp [Oy] at hl
 | [], _ :: _, h, _ => by simp at h
 | _ :: _, [], h, _ => by simp at h
theorem Sep.closeR {sz m ty id : Nat} {pre cells post : List AV} (hty : ∃ i j, As ty = some i ∧ As i.elem = some j ∧ j.size = sz ∧ j.cty.length = sz) (hs : Sep H (.blk id (pre ++ (cells ++ post)) true :: L)) (hf : cells.all Oy = true) (hl : cells.length = m * sz) : Sep H (.own (.sl id pre.length m sz) ty (.ro m cells) :: L) := by
 obtain ⟨i, j, e1, e2, rfl, e4⟩ := hty
 obtain ⟨I, ⟨J, R, rfl, ⟨rfl, h1⟩, h2⟩, h3⟩ := hs
 have hlen : ((zai m j.cty).flatten).length = cells.length := by simp [e4, hl]
 refine ⟨[id] ++ R, ⟨[id], R, rfl, ⟨rfl, ⟨i, j, e1, e2, hl, Se hlen hf⟩, ?_⟩, h2⟩, h3⟩
 rw [Jg]
 have ha : Js H id = true := by simp only [Js, h1]
 have hrd : Be H id pre.length (m * j.size) = some cells := by
  simp only [Be, h1, if_true]
  rw [if_pos (by simp only [zad]; omega), List.drop_left', ← hl, List.take_left']
  rfl
  rfl
 simp only [e1, e2, zac, if_true, ha, hrd, T9 (d := 4) hlen hf]
theorem Ajd {w m o d : Nat} {z : Int} {K : AV → Option β} (h0 : 0 ≤ z) (h1 : z < m) (hk : Gd G (K (.ptr d (o + z.toNat * w)))) : Gd G (Dn w (.sl d o m w) (.sc (.int .i64 z)) fun t => K t) := by
 have e := Zy w m d o z.toNat (fun t => K t) (by omega)
 rw [show ((z.toNat : Nat) : Int) = z by omega] at e
 exact D4 e hk
end
end
section
open Go
section
variable {β : Type} {n : Nat} {H : Ab} {L L' L1 L2 : List Ck} {G : Option β → Prop} {K : AV → Option β} {KH : KO β}
theorem Y5 {d : Nat} : ∀ {ts : List Nat} {xs cells : List AV} {I : List Nat} {k : Nat} {v : Value}, D7 (C9 As E0.tp H d) ts xs = some (cells, I) → cells[k]? = some (.sc v) → xs[k]? = some (.sc v)
 | ts, [], cells, I, k, v, h, hk => by
  obtain ⟨_, e⟩ := Je h
  cases e
  simp at hk
 | [], _ :: _, _, _, _, _, h, _ => by simp [D7] at h
 | t :: ts, x :: xs, cells, I, k, v, h, hk => by
  obtain ⟨a, b, h1, h2, e⟩ := Ho h
  cases e
  cases k with
  | zero =>
   obtain ⟨a1, a2⟩ := a
   have : a1 = .sc v := by simpa using hk
   subst this
   rw [Z6 h1]
   rfl
  | succ k => simpa using Y5 h2 (by simpa using hk)
theorem Ajc {sz m ty : Nat} {x : AV} {cells : List AV} {i : Int} (hs : Sep H L) (hty : ∃ i j, As ty = some i ∧ As i.elem = some j ∧ j.size = sz) (hp : Pk L (.own x ty (.ro m cells)) L1) (h0 : 0 ≤ i) (h1 : i < (m : Nat))
  (h : ∀ id off, (∀ k v, k < sz → cells[i.toNat * sz + k]? = some (.sc v) → Be H id (off + k) 1 = some [.sc v]) → Gd G (K (.ptr id off))) : Gd G (Dn sz x (si i) fun t => K t) := by
 obtain ⟨ti, tj, e1, e2, rfl⟩ := hty
 obtain ⟨_, _, I, e, _⟩ := hs.own hp
 rcases Us e1 e2 e with ⟨rfl, rfl, rfl, rfl⟩ | ⟨id, off, raw, J', b, rfl, rfl, hb, hlv, ha, h4, h5⟩
 exact absurd h1 (by simp; omega)
 refine Ajd h0 h1 (h _ _ fun k v hk hc => ?_)
 obtain ⟨hl, b', hb', _, hle, hcs⟩ := Ka h4
 rw [hb] at hb'
 cases hb'
 have hr := Y5 h5 hc
 have hlt := (zae.1 hr).1
 rw [hl] at hlt
 have hg : b.cells[off + i.toNat * tj.size + k]? = some (.sc v) := by
  rw [hcs, zbf hlt, zaT] at hr
  rw [← hr]
  congr 1
  omega
 obtain ⟨hlt2, he⟩ := zae.1 hg
 simp only [Be, hb, hlv, if_true]
 rw [if_pos (by omega), zbd hlt2, he]
 rfl
theorem AmH {id o : Nat} {c : AV} (e : Be H id o 1 = some [c]) (h : Gd G (K c)) : Gd G (Cz false 1 (.ptr id o) H fun x => K x) := D4 (ldF e _) h
end
end
section
open Go
section
variable {β : Type} {n : Nat} {H : Ab} {L L' L1 L2 : List Ck} {G : Option β → Prop} {K : AV → Option β} {KH : KO β}
theorem AjB {id o w k v : Nat} {cs : List AV} (e : Be H id o w = some cs) (hk : k + v ≤ w) : Be H id (o + k) v = some ((cs.drop k).take v) := by
 obtain ⟨hl, b, hb, hlv, hle, hcs⟩ := Ka e
 simp only [Be, hb, hlv, if_true]
 rw [if_pos (by omega), hcs, List.drop_take, List.take_take, zbj, Nat.min_eq_left (by omega)]
theorem Q8 {id o k : Nat} {c : AV} {w : Nat} {cs : List AV} (e : Be H id o w = some cs) (hk : k < w) (hc : cs[k]? = some c) (h : Gd G (K c)) : Gd G (Cz false 1 (.ptr id (o + k)) H fun x => K x) := by
 have e2 := AjB (k := k) (v := 1) e (by omega)
 obtain ⟨hlt, he⟩ := zae.1 hc
 rw [zbd hlt, he] at e2
 exact AmH e2 h
def A4 (s : ByteArray) (b : Int) : ByteArray := s.push (UInt8.ofNat b.toNat)
theorem Av (s : ByteArray) (b : Int) : (A4 s b).size = s.size + 1 := by
 unfold A4
 exact ByteArray.size_push
theorem Ht (s : ByteArray) (b : Int) (h0 : 0 ≤ b) (h1 : b < 256) : Ad (A4 s b) = .ro (s.size + 1) (Bg s ++ [.sc (.int .u8 b)]) := by
 show AV.ro (A4 s b).size (Bg (A4 s b)) = _
 rw [Av]
 congr 1
 have e : ((UInt8.ofNat b.toNat).toNat : Int) = b := by
  rw [UInt8.toNat_ofNat']
  omega
 unfold Bg A4
 rw [zbC, Array.toList_push, za3, zaq, zaB, e]
theorem E4 {ty : Nat} {cty : List Nat} {x : AV} {s : ByteArray} {i : Nat} {z : Int} {a : Bool} (hs : Sep H L) (hx : Pk L (.own x ty (Ad s)) L1) (hp : Pk L1 (.blk i [.sc (.int .u8 z)] a) L2) (hty : ∃ i j, As ty = some i ∧ As i.elem = some j ∧ j.size = 1 ∧ j.cty = cty) (hc : cty.length = 1) (hb : 0 ≤ z ∧ z < 256 ∧ s.size + 1 ≤ 140737488355328)
  (h : ∀ x' H', Bk x' = true → Sep H' (.own x' ty (Ad (A4 s z)) :: L2) → Gd G (KH x' H')) : Gd G (K7 1 1 x (.sl i 0 1 1) H fun x H => KH x H) := by
 obtain ⟨c, rfl⟩ := zbo.1 hc
 have e1 : (zai 1 [c]).flatten = [c] := by simp
 rw [Ht s z hb.1 hb.2.1] at h
 exact AaA (m := 1) (cb := [.sc (.int .u8 z)]) hs hty hx (Uu hp rfl rfl (by rw [e1]; exact .sc .nil) (by rw [e1]; exact ⟨trivial, trivial⟩)) (by rw [e1]; exact ⟨trivial, trivial⟩) (by omega) fun x' H' lx hs' => h x' H' lx hs'
theorem Fq {k k' : IntKind} {a z : Int} {K : AV → Option β} (hz : k.wrap a = z) (h : Gd G (K (.sc (.int k z)))) : Gd G (W5 k (.sc (.int k' a)) fun t => K t) := by
 subst hz
 exact h
end
end
section
open Go
section
variable {β : Type} {n : Nat} {H : Ab} {L L1 : List Ck} {G : Option β → Prop} {K : AV → Option β} {KH : KO β}
theorem N3 {ty : Nat} {x : AV} {l : List ByteArray} {y : ByteArray} {i : Int} (hs : Sep H L) (hp : Pk L (.own x ty (D6 l)) L1) (hty : ∃ i j, As ty = some i ∧ As i.elem = some j ∧ j.size = 1) (h0 : 0 ≤ i) (hy : l[i.toNat]? = some y)
  (h : ∀ id off, Be H id off 1 = some [ss y] → Gd G (K (.ptr id off))) : Gd G (Dn 1 x (si i) fun t => K t) := by
 have hlt := (zae.1 hy).1
 exact Ajc (m := l.length) (cells := l.map fun z => .sc (.string z)) hs hty hp h0 (by omega) fun id off hc => h id off (hc 0 _ (by omega) (by simp [hy]))
theorem Wc {ty f : Nat} {g : Nat → List AV → Option AV} {args vs : List AV} {v : Value} (hg : E0.ext f = some g) (hv : args.mapM (Dm H 8) = some vs) (ht : g ty vs = some (.sc v)) (h : Gd G (KH (.sc v) H)) : Gd G ((PR n β).call ty (.fn f [] []) args H fun x H => KH x H) := by
 refine D4 ?_ h
 rw [Abq hg hv ht, Hw, zap]
theorem Br {X : Option β} (e : Bool) {F : Bool → Option β} (h1 : ∀ b, b = e → Gd (· = F b) X) (h2 : ∀ b, b = e → Gd G (F b)) : Gd G X := by
 have h : X = F e := h1 e rfl
 rw [h]
 exact h2 e rfl
theorem A0 {X : Option β} : Gd (· = X) X := rfl
theorem Dc {c v b : Bool} {y : AV} (hc : c = true) (hv : v = b) (h : Gd G (K (.sc (.bool b)))) : Gd G (Nb (.sc (.bool c)) (.sc (.bool v)) y fun t => K t) := by
 subst hc
 subst hv
 exact E2 rfl h
theorem Db {c v b : Bool} {x : AV} (hc : c = false) (hv : v = b) (h : Gd G (K (.sc (.bool b)))) : Gd G (Nb (.sc (.bool c)) x (.sc (.bool v)) fun t => K t) := by
 subst hc
 subst hv
 exact E1 rfl h
end
end
end Go.Proofs.YtlcpigdmekgajaaGreatDoor.Abs
set_option maxHeartbeats 1600000
namespace Go.Proofs.YtlcpigdmekgajaaGreatDoor.Abs
open _root_.Bool renaming false_eq_true → zaa, and_eq_true → zag, not_true → za0, true_and → zaK, false_or → zaN, eq_iff_iff → zb6, true_or → zbE
open _root_.Option renaming bind_eq_some_iff → zab, bind_some → zac, getD_some → zaA, map_eq_some_iff → zaG, bind_eq_bind → zaJ, pure_def → zaW
open _root_.List renaming length_append → zad, getElem?_eq_some_iff → zae, append_assoc → zaf, replicate → zai, getElem?_append_right → zaj, getElem?_append_left → zak, nil_append → zal, length_cons → zam, append_nil → zap, map_cons → zaq, length_singleton → zas, mem_cons_of_mem → zat, cons_append → zau, length_nil → zaw, all_cons → zax, mem_cons_self → zay, flatten_cons → zaz, map_append → za3, all_eq_true → za4, mem_append_left → za8, map_nil → zaB, take_length → zaC, drop_append_of_le_length → zaD, mem_append_right → zaE, mapM_cons → zaF, drop_zero → zaL, mem_append → zaQ, getElem?_map → zaS, getElem?_drop → zaT, nodup_append → zaU, getElem?_cons_zero → zaX, replicate_succ → zbb, drop_eq_getElem_cons → zbd, nodup_cons → zbe, getElem?_take_of_lt → zbf, mem_singleton → zbg, drop_drop → zbj, flatten_append → zbm, length_eq_one_iff → zbo, getD_eq_getElem?_getD → zbp, drop_length → zbq, flatten_nil → zb2, Perm → zb7, any_cons → zb8, getElem?_set_ne → zb9, mem_cons → zbF, length_map → zbG, mem_map → zbH, map_map → zbI
open _root_.ByteArray renaming size → zbk, data_push → zbC
open _root_.Nat renaming le_refl → zan, zero_add → za1, le_trans → za5, add_assoc → za9, add_zero → zaM, eq_of_beq_eq_true → zaP, sub_self → zba, add_sub_cancel_left → zbh, succ_mul → zbs, mul_one → zbw, beq → zb3, add_mul → zbB, add_comm → zbD
open _root_.Array renaming getElem?_eq_some_iff → za6, ext' → zaZ, replicate → zbz, getElem?_setIfInBounds_ne → zb0
open _root_.Int renaming natCast_zero → zaR, toNat_natCast → zbl
section
open Go
def Ft (l : ByteArray) (last : Bool) : Bool := !vPH l || (l.toList == (⟨#[43]⟩ : ByteArray).toList || (l.toList == (⟨#[35]⟩ : ByteArray).toList && last))
def Eo : List ByteArray → Bool
 | [] => true
 | x :: r => Ft x r.isEmpty && Eo r
def Fx (s : ByteArray) : Bool := Bo s && (!(s.toList == (⟨#[]⟩ : ByteArray).toList) && decide (((Bl s).length : Int) ≤ 6))
def Bx (s : ByteArray) : Bool := Eo (Bl s) && Fx s
theorem eqB {a b : ByteArray} : (a.toList == b.toList) = true ↔ a = b := by
 rw [beq_iff_eq]
 constructor
 intro h
 have h2 : a.data.toList = b.data.toList := by simpa [ByteArray.toList_eq] using h
 exact ByteArray.ext (zaZ h2)
 rintro rfl
 rfl
theorem Z2 : ∀ (r cur : List UInt8), (lvL cur r).length ≤ r.length + 1
 | [], cur => by simp [lvL]
 | c :: r, cur => by
  rw [lvL]
  split
  have := Z2 r []
  simp only [zam]
  omega
  have := Z2 r (cur ++ [c])
  simp only [zam]
  omega
theorem Ta : ∀ (r cur : List UInt8), ∀ x ∈ lvL cur r, x.length ≤ cur.length + r.length
 | [], cur, x, h => by
  simp only [lvL, zbg] at h
  subst h
  simp
 | c :: r, cur, x, h => by
  rw [lvL] at h
  split at h
  rcases zbF.1 h with rfl | h
  simp only [zam]
  omega
  have := Ta r [] x h
  simp only [zam, zaw] at *
  omega
  have := Ta r (cur ++ [c]) x h
  simp only [zad, zam, zaw] at *
  omega
theorem J8 (s : ByteArray) (hs : s.size ≤ 1048576) : (Bl s).length ≤ 1048577 := by
 have := Z2 s.data.toList []
 unfold Bl
 rw [zbG]
 have e : s.data.toList.length = s.size := by simp
 omega
theorem Yx (s : ByteArray) (hs : s.size ≤ 1048576) (x : ByteArray) (hx : x ∈ Bl s) : x.size ≤ 1048576 := by
 unfold Bl at hx
 obtain ⟨l, hl, rfl⟩ := zbH.1 hx
 have := Ta s.data.toList [] l hl
 have e : s.data.toList.length = s.size := by simp
 have e2 : (ofL l).size = l.length := by simp [ofL, zbk]
 simp only [zaw] at this
 omega
theorem AmL (a b : Nat) : decide (((a : Nat) : Int) < ((a + (b + 1) : Nat) : Int) - 1) = !decide (((a : Nat) : Int) = ((a + (b + 1) : Nat) : Int) - 1) := by
 by_cases h : b = 0
 rw [decide_eq_false (by omega), decide_eq_true (by omega)]
 rfl
 rw [decide_eq_true (by omega), decide_eq_false (by omega)]
 rfl
theorem AeC (l : ByteArray) (last : Bool) : Ft l last = !((Ip l 43 && !(l.toList == (⟨#[43]⟩ : ByteArray).toList)) || (Ip l 35 && (!(l.toList == (⟨#[35]⟩ : ByteArray).toList) || !last))) := by
 unfold Ft
 rw [show vPH l = (Ip l 43 || Ip l 35) from rfl]
 by_cases h1 : (l.toList == (⟨#[43]⟩ : ByteArray).toList) = true
 obtain rfl := eqB.1 h1
 have e1 : Ip (⟨#[43]⟩ : ByteArray) 43 = true := by decide
 have e2 : Ip (⟨#[43]⟩ : ByteArray) 35 = false := by decide
 rw [e1, e2, h1]
 simp
 by_cases h2 : (l.toList == (⟨#[35]⟩ : ByteArray).toList) = true
 obtain rfl := eqB.1 h2
 have e1 : Ip (⟨#[35]⟩ : ByteArray) 43 = false := by decide
 have e2 : Ip (⟨#[35]⟩ : ByteArray) 35 = true := by decide
 rw [e1, e2, h2, Bool.eq_false_iff.2 h1]
 simp
 rw [Bool.eq_false_iff.2 h1, Bool.eq_false_iff.2 h2]
 cases Ip l 43 <;> cases Ip l 35 <;> rfl
theorem Ahe (n : Nat) (x : ByteArray) (b : Bool) (hx : x.size ≤ 1048576) : C0 E0 (n + 1) 4 150 [.sc (.string x), .sc (.bool b)] = some (.sc (.bool (Ft x b))) := by
 rw [A7, Ai3, f150]
 refine Cm (G := (· = some (sb (Ft x b)))) ?_
 try simp only [Fa, E9]
 have s0 : Sep [] [] := Ch
 refine Wc rfl rfl (Yg _ x hx) (Cr (Aa ((vPH x)) (fun h1 => ?_) fun h1 => ?_))
 refine Af (nF h1) (Af (nF h1) (AgM (E1 (nF h1) (Aa ((x.toList == (⟨#[43]⟩ : ByteArray).toList)) (fun h2 => ?_) fun h2 => ?_))))
 refine Ae h2 (Ae h2 (Ae h2 (Ef (Ae h2 (E2 h2 (Al rfl ?_))))))
 have e : Ft x b = true := by
  unfold Ft; simp only [h1, h2, D9]
 rw [e]
 refine Af h2 (Af h2 (AgM (Af h2 (Aa ((x.toList == (⟨#[35]⟩ : ByteArray).toList)) (fun h3 => ?_) fun h3 => ?_))))
 refine Af h3 (Af h2 (E2 h3 (E1 h2 (Al rfl ?_))))
 have e : Ft x b = b := by
  unfold Ft; simp only [h1, h2, h3, D9]
 rw [e]
 refine Ae h3 (Af h2 (E1 h3 (E1 h2 (Al rfl ?_))))
 have e : Ft x b = false := by
  unfold Ft; simp only [h1, h2, h3, D9]
 rw [e]
 refine Ae (nT h1) (Ae (nT h1) (E2 (nT h1) (Ae rfl (Ae rfl (Ae rfl (Ef (Ae rfl (E2 rfl (Al rfl ?_)))))))))
 have e : Ft x b = true := by
  unfold Ft; simp only [h1, D9]
 rw [e]
theorem Pi (n : Nat) (hn : 1048576 < n) (s : ByteArray) (hs : s.size ≤ 1048576) (ks : okS s)   : ∀ (t pre : List ByteArray) (m : Nat) (i : Int) (x1 : AV) (H : Ab), (Bl s) = pre ++ t → i = ((pre.length : Nat) : Int) → t.length < m → Bk x1 = true → Sep H [.own x1 56 (D6 (Bl s))] → Gd (· = some (.sc (.bool (Eo t && Fx s)))) (Nz (PR (n + 5) AV) (n + 5) (fun x H => A8 As E0.tp 4 H x) m (.sc (.string s)) (x1) (x1) (.sc (.int .i64 (((Bl s).length : Nat) : Int))) (.sc (.int .i64 i)) H)
 | [], pre, m + 1, i, x1, H, he, hi, hm, lx1, s0 => by
  obtain rfl : pre = (Bl s) := by simpa using he.symm
  have hlen : (Bl s).length ≤ 1048577 := J8 s hs
  have hlen : (Bl s).length ≤ 1048577 := J8 s hs
  rw [Nz]
  try simp only [Fa, E9]
  refine Di (Au (by simp [hi]) (Wc rfl rfl (M3 _ s ks) (Aa ((Bo s)) (fun h201 => ?_) fun h201 => ?_)))
  refine Af h201 (Af h201 (S6 (E2 h201 (Aa ((s.toList == (⟨#[]⟩ : ByteArray).toList)) (fun h202 => ?_) fun h202 => ?_))))
  refine Ae (nF h202) (Ae (nF h202) (Ae (nF h202) (E1 (nF h202) (Al rfl ?_))))
  have e : (Eo [] && Fx s) = false := by
   unfold Fx; simp only [Eo, h201, h202, D9]
  rw [e]
  refine Af (nT h202) (Af (nT h202) (Jz s0 (.here) (Af (nT h202) (Pd (E2 (nT h202) (Al rfl ?_))))))
  have e : (Eo [] && Fx s) = (decide ((((Bl s).length : Nat) : Int) ≤ 6)) := by
   unfold Fx; simp only [Eo, h201, h202, D9]
  rw [e]
  refine Ae h201 (Ae h201 (E1 h201 (Ae rfl (Ae rfl (Ae rfl (E1 rfl (Al rfl ?_)))))))
  have e : (Eo [] && Fx s) = false := by
   unfold Fx; simp only [Eo, h201, D9]
  rw [e]
 | y :: t, pre, m + 1, i, x1, H, he, hi, hm, lx1, s0 => by
  have hlt : pre.length < (Bl s).length := by rw [he]; simp
  have hlen : (Bl s).length ≤ 1048577 := J8 s hs
  have hlen : (Bl s).length ≤ 1048577 := J8 s hs
  have hys : y.size ≤ 1048576 := Yx s hs y (by rw [he]; simp)
  have hd : decide (i = (((Bl s).length : Nat) : Int) - 1) = t.isEmpty := by
   rw [he, hi]; cases t <;> simp <;> omega
  rw [Nz]
  try simp only [Fa, E9]
  refine Di (Ap (by simp [hi]; omega) ?_)
  have he201 : ((Bl s))[(i).toNat]? = some y := by rw [he, hi]; simp
  refine N3 (y := y) s0 (.here) ⟨_, _, rfl, rfl, rfl⟩ (by omega) he201 fun de201 oe201 re201 => Q8 (k := 0) re201 (by omega) rfl (Jz s0 (.here) (Pf (by omega) (by omega) (Ba (Ar (v := (.bool (Ft y (decide (i = ((((Bl s).length : Nat) : Int) - 1)))))) s0 rfl (Im .nil) (Ahe (n + 4) y (decide (i = ((((Bl s).length : Nat) : Int) - 1))) hys) (Cr (Aa ((Ft y (decide (i = ((((Bl s).length : Nat) : Int) - 1))))) (fun h203 => ?_) fun h203 => ?_))))))
  refine Au (nF h203) (Bw (by omega) (by omega) ?_)
  have e204 : (Eo (y :: t) && Fx s) = (Eo t && Fx s) := by
   rw [Eo, ← hd]; simp only [h203, D9]
  rw [e204]
  exact Pi n hn s hs ks   t (pre ++ [y]) m _ x1 _ (by rw [he]; simp) (by rw [hi]; simp) (by simpa using hm) lx1 (by simpa only [za3, zaq, zaB] using (s0.sel (.cons (.here) .nil)))
  refine Ap (nT h203) (Al rfl ?_)
  have e : (Eo (y :: t) && Fx s) = false := by
   rw [Eo, ← hd]; simp only [h203, D9]
  rw [e]
theorem T3 (n : Nat) (hn : 1048576 < n) (s : ByteArray) (hs : s.size ≤ 1048576) (ks : okS s) : C0 E0 (n + 6) 4 138 [.sc (.string s)] = some (.sc (.bool (Bx s))) := by
 rw [A7, Aiw, f138]
 refine Cm (G := (· = some (sb (Bx s)))) ?_
 have hlen : (Bl s).length ≤ 1048577 := J8 s hs
 try simp only [Fa, E9]
 have s0 : Sep [] [] := Ch
 exact B7 s0 rfl (.cons .sc .nil) (T4 (n + 4) s hs) (Wy (Bl s)) fun x1 H lx1 s2 => Jz s2 (.here) (Pi n hn s hs ks   (Bl s) [] _ 0 x1 _ rfl rfl (by omega) lx1 s2)
theorem H0 (n : Nat) (hn : 1048576 < n) (s : ByteArray) (hs : s.size ≤ 1048576) (ks : okS s)   : ∀ (t pre : List ByteArray) (m : Nat) (i : Int) (x1 : AV) (H : Ab), (Bl s) = pre ++ t → i = ((pre.length : Nat) : Int) → t.length < m → Bk x1 = true → Sep H [.own x1 56 (D6 (Bl s))] → Gd (· = some (.sc (.bool (Eo t && Fx s)))) (Q5 (PR (n + 5) AV) (n + 5) (fun x H => A8 As E0.tp 4 H x) m (.sc (.string s)) (x1) (.sc (.int .i64 i)) H)
 | [], pre, m + 1, i, x1, H, he, hi, hm, lx1, s0 => by
  obtain rfl : pre = (Bl s) := by simpa using he.symm
  have hlen : (Bl s).length ≤ 1048577 := J8 s hs
  have hlen : (Bl s).length ≤ 1048577 := J8 s hs
  rw [Q5]
  try simp only [Fa, E9]
  refine Jz s0 (.here) (Di (Au (by simp [hi]) (Ar (v := (.bool (Bo s))) s0 rfl (.cons .sc .nil) (I3 (n + 1) (by omega) _ s) (Aa ((Bo s)) (fun h201 => ?_) fun h201 => ?_))))
  refine Af h201 (Af h201 (S6 (E2 h201 (Aa ((s.toList == (⟨#[]⟩ : ByteArray).toList)) (fun h202 => ?_) fun h202 => ?_))))
  refine Ae (nF h202) (Ae (nF h202) (Ae (nF h202) (E1 (nF h202) (Al rfl ?_))))
  have e : (Eo [] && Fx s) = false := by
   unfold Fx; simp only [Eo, h201, h202, D9]
  rw [e]
  refine Af (nT h202) (Af (nT h202) (Jz s0 (.here) (Af (nT h202) (Pd (E2 (nT h202) (Al rfl ?_))))))
  have e : (Eo [] && Fx s) = (decide ((((Bl s).length : Nat) : Int) ≤ 6)) := by
   unfold Fx; simp only [Eo, h201, h202, D9]
  rw [e]
  refine Ae h201 (Ae h201 (E1 h201 (Ae rfl (Ae rfl (Ae rfl (E1 rfl (Al rfl ?_)))))))
  have e : (Eo [] && Fx s) = false := by
   unfold Fx; simp only [Eo, h201, D9]
  rw [e]
 | y :: t, pre, m + 1, i, x1, H, he, hi, hm, lx1, s0 => by
  have hlt : pre.length < (Bl s).length := by rw [he]; simp
  have hlen : (Bl s).length ≤ 1048577 := J8 s hs
  have hlen : (Bl s).length ≤ 1048577 := J8 s hs
  have hys : y.size ≤ 1048576 := Yx s hs y (by rw [he]; simp)
  have hd : decide (i = (((Bl s).length : Nat) : Int) - 1) = t.isEmpty := by
   rw [he, hi]; cases t <;> simp <;> omega
  have hv : Ft y t.isEmpty = !((Ip y 43 && !(y.toList == (⟨#[43]⟩ : ByteArray).toList)) || (Ip y 35 && (!(y.toList == (⟨#[35]⟩ : ByteArray).toList) || decide (i < (((Bl s).length : Nat) : Int) - 1)))) := by
   rw [AeC, ← hd, show decide (i < (((Bl s).length : Nat) : Int) - 1) = !decide (i = (((Bl s).length : Nat) : Int) - 1) from by rw [he, hi, zad, zam]; exact AmL _ _]
  rw [Q5]
  try simp only [Fa, E9]
  refine Jz s0 (.here) (Di (Ap (by simp [hi]; omega) ?_))
  have he201 : ((Bl s))[(i).toNat]? = some y := by rw [he, hi]; simp
  refine N3 (y := y) s0 (.here) ⟨_, _, rfl, rfl, rfl⟩ (by omega) he201 fun de201 oe201 re201 => Q8 (k := 0) re201 (by omega) rfl (Ar (v := (.bool (Ip y 43))) s0 rfl (Im .nil) (Ak0 (n + 4) (by omega) _ y hys) (Aa ((Ip y 43)) (fun h203 => ?_) fun h203 => ?_))
  refine Af h203 (Af h203 (Af h203 ?_))
  have he204 : ((Bl s))[(i).toNat]? = some y := by rw [he, hi]; simp
  refine N3 (y := y) s0 (.here) ⟨_, _, rfl, rfl, rfl⟩ (by omega) he204 fun de204 oe204 re204 => Af h203 (Q8 (k := 0) re204 (by omega) rfl (Af h203 (S6 (E2 h203 (Aa ((y.toList == (⟨#[43]⟩ : ByteArray).toList)) (fun h206 => ?_) fun h206 => ?_)))))
  refine Af (nF h206) (Af (nF h206) (Af (nF h206) ?_))
  have he207 : ((Bl s))[(i).toNat]? = some y := by rw [he, hi]; simp
  refine N3 (y := y) s0 (.here) ⟨_, _, rfl, rfl, rfl⟩ (by omega) he207 fun de207 oe207 re207 => Af (nF h206) (Q8 (k := 0) re207 (by omega) rfl (Af (nF h206) (Ar (v := (.bool (Ip y 35))) s0 rfl (Im .nil) (AgR (n + 4) (by omega) _ y hys) (Af (nF h206) (Aa ((Ip y 35)) (fun h209 => ?_) fun h209 => ?_)))))
  refine Af h209 (Af h209 (Af h209 ?_))
  have he210 : ((Bl s))[(i).toNat]? = some y := by rw [he, hi]; simp
  refine N3 (y := y) s0 (.here) ⟨_, _, rfl, rfl, rfl⟩ (by omega) he210 fun de210 oe210 re210 => Af h209 (Q8 (k := 0) re210 (by omega) rfl (Af h209 (S6 (Af h209 (Aa ((y.toList == (⟨#[35]⟩ : ByteArray).toList)) (fun h212 => ?_) fun h212 => ?_)))))
  refine Af (nF h212) (Af (nF h212) (Af (nF h212) (Jz s0 (.here) (Af (nF h212) (Pf (by omega) (by omega) (Af (nF h212) (Di (Af h209 (E1 (nF h212) (Af (nF h206) (E2 h209 (E1 (nF h206) (Aa ((decide (i < ((((Bl s).length : Nat) : Int) - 1)))) (fun h213 => ?_) fun h213 => ?_)))))))))))))
  refine Ap h213 (Al rfl ?_)
  have e : (Eo (y :: t) && Fx s) = false := by
   rw [Eo, hv]; simp only [h203, h206, h209, h212, h213, D9]
  rw [e]
  refine Au h213 (Bw (by omega) (by omega) ?_)
  have e214 : (Eo (y :: t) && Fx s) = (Eo t && Fx s) := by
   rw [Eo, hv]; simp only [h203, h206, h209, h212, h213, D9]
  rw [e214]
  exact H0 n hn s hs ks   t (pre ++ [y]) m _ x1 _ (by rw [he]; simp) (by rw [hi]; simp) (by simpa using hm) lx1 (by simpa only [za3, zaq, zaB] using (s0.sel (.cons (.here) .nil)))
  refine Ae (nT h212) (Ae (nT h212) (Ae (nT h212) (Ae (nT h212) (Ae (nT h212) (Af h209 (E2 (nT h212) (Af (nF h206) (E2 h209 (E1 (nF h206) (Ap rfl (Al rfl ?_)))))))))))
  have e : (Eo (y :: t) && Fx s) = false := by
   rw [Eo, hv]; simp only [h203, h206, h209, h212, D9]
  rw [e]
  refine Ae h209 (Ae h209 (Ae h209 (Ae h209 (Ae h209 (Ae h209 (Ef (Ef (Ef (Ef (Ef (Ae h209 (Af (nF h206) (E1 h209 (E1 (nF h206) (Au rfl (Bw (by omega) (by omega) ?_))))))))))))))))
  have e215 : (Eo (y :: t) && Fx s) = (Eo t && Fx s) := by
   rw [Eo, hv]; simp only [h203, h206, h209, D9]
  rw [e215]
  exact H0 n hn s hs ks   t (pre ++ [y]) m _ x1 _ (by rw [he]; simp) (by rw [hi]; simp) (by simpa using hm) lx1 (by simpa only [za3, zaq, zaB] using (s0.sel (.cons (.here) .nil)))
  refine Ae (nT h206) (Ae (nT h206) (Ae (nT h206) (Ae (nT h206) (Ae (nT h206) (Ae (nT h206) (Ef (Ef (Ef (Ef (Ef (Ef (Ef (Ef (Ef (Ef (Ef (Ef (Ae (nT h206) (E2 (nT h206) (Ap rfl (Al rfl ?_)))))))))))))))))))))
  have e : (Eo (y :: t) && Fx s) = false := by
   rw [Eo, hv]; simp only [h203, h206, D9]
  rw [e]
  refine Ae h203 (Ae h203 (Ae h203 (Ae h203 (Ae h203 (E1 h203 (Af rfl (Af rfl (Af rfl ?_))))))))
  have he216 : ((Bl s))[(i).toNat]? = some y := by rw [he, hi]; simp
  refine N3 (y := y) s0 (.here) ⟨_, _, rfl, rfl, rfl⟩ (by omega) he216 fun de216 oe216 re216 => Af rfl (Q8 (k := 0) re216 (by omega) rfl (Af rfl (Ar (v := (.bool (Ip y 35))) s0 rfl (Im .nil) (AgR (n + 4) (by omega) _ y hys) (Af rfl (Aa ((Ip y 35)) (fun h218 => ?_) fun h218 => ?_)))))
  refine Af h218 (Af h218 (Af h218 ?_))
  have he219 : ((Bl s))[(i).toNat]? = some y := by rw [he, hi]; simp
  refine N3 (y := y) s0 (.here) ⟨_, _, rfl, rfl, rfl⟩ (by omega) he219 fun de219 oe219 re219 => Af h218 (Q8 (k := 0) re219 (by omega) rfl (Af h218 (S6 (Af h218 (Aa ((y.toList == (⟨#[35]⟩ : ByteArray).toList)) (fun h221 => ?_) fun h221 => ?_)))))
  refine Af (nF h221) (Af (nF h221) (Af (nF h221) (Jz s0 (.here) (Af (nF h221) (Pf (by omega) (by omega) (Af (nF h221) (Di (Af h218 (E1 (nF h221) (Af rfl (E2 h218 (E1 rfl (Aa ((decide (i < ((((Bl s).length : Nat) : Int) - 1)))) (fun h222 => ?_) fun h222 => ?_)))))))))))))
  refine Ap h222 (Al rfl ?_)
  have e : (Eo (y :: t) && Fx s) = false := by
   rw [Eo, hv]; simp only [h203, h218, h221, h222, D9]
  rw [e]
  refine Au h222 (Bw (by omega) (by omega) ?_)
  have e223 : (Eo (y :: t) && Fx s) = (Eo t && Fx s) := by
   rw [Eo, hv]; simp only [h203, h218, h221, h222, D9]
  rw [e223]
  exact H0 n hn s hs ks   t (pre ++ [y]) m _ x1 _ (by rw [he]; simp) (by rw [hi]; simp) (by simpa using hm) lx1 (by simpa only [za3, zaq, zaB] using (s0.sel (.cons (.here) .nil)))
  refine Ae (nT h221) (Ae (nT h221) (Ae (nT h221) (Ae (nT h221) (Ae (nT h221) (Af h218 (E2 (nT h221) (Af rfl (E2 h218 (E1 rfl (Ap rfl (Al rfl ?_)))))))))))
  have e : (Eo (y :: t) && Fx s) = false := by
   rw [Eo, hv]; simp only [h203, h218, h221, D9]
  rw [e]
  refine Ae h218 (Ae h218 (Ae h218 (Ae h218 (Ae h218 (Ae h218 (Ef (Ef (Ef (Ef (Ef (Ae h218 (Af rfl (E1 h218 (E1 rfl (Au rfl (Bw (by omega) (by omega) ?_))))))))))))))))
  have e224 : (Eo (y :: t) && Fx s) = (Eo t && Fx s) := by
   rw [Eo, hv]; simp only [h203, h218, D9]
  rw [e224]
  exact H0 n hn s hs ks   t (pre ++ [y]) m _ x1 _ (by rw [he]; simp) (by rw [hi]; simp) (by simpa using hm) lx1 (by simpa only [za3, zaq, zaB] using (s0.sel (.cons (.here) .nil)))
theorem Mm (n : Nat) (hn : 1048576 < n) (s : ByteArray) (hs : s.size ≤ 1048576) (ks : okS s) : C0 E0 (n + 6) 4 92 [.sc (.string s)] = some (.sc (.bool (Bx s))) := by
 rw [A7, Al8, f92]
 refine Cm (G := (· = some (sb (Bx s)))) ?_
 have hlen : (Bl s).length ≤ 1048577 := J8 s hs
 try simp only [Fa, E9]
 have s0 : Sep [] [] := Ch
 exact B7 s0 rfl (.cons .sc .nil) (Ud (n + 4) (by omega) s hs) (Wy (Bl s)) fun x1 H lx1 s2 => H0 n hn s hs ks   (Bl s) [] _ 0 x1 _ rfl rfl (by omega) lx1 s2
end
section
open Go
theorem AlU {s : ByteArray} (h : s.size ≤ 1048576) : okS s := za5 h (by decide)
theorem Of (n : Nat) (hn : 1048576 < n) (ty : Nat) (s : ByteArray) (hs : s.size ≤ 1048576) : C0 E0 (n + 5) ty 91 [.sc (.string s)] = some (.sc (.bool (C3 s))) := by
 rw [A7, Al7, f91]
 try simp only [Lm, Nt, H4, Gg, I7, Ez, Is, Kv, Qr, Ee, Fe, Pr.gT, Pr.gF, Pr.hT, Pr.hF, Pr.kT, Pr.kF, Gh, I6, H5, It, Ns, My, I0, Kc, J6, P4, O0, Nr, Mb]
 refine Ku rfl (Ds (Jr _ _) Iq) (I3 (n + 0) (by omega) _ s) ?_
 apply Bv ((Bo s) && (!(s.toList == (⟨#[]⟩ : ByteArray).toList)))
 intro b1 q1
 refine Aa ((Bo s)) (fun h1 => ?_) fun h1 => ?_
 exact Az h1 (Az h1 (De (v := sb (!(s.toList == (⟨#[]⟩ : ByteArray).toList))) (fun k => rfl) (Dg h1 (Fp q1 h1) rfl)))
 exact Ay h1 (Ay h1 (Df h1 (Fo q1 h1) rfl))
 intro b1 q1
 apply Bv (b1 && (!(Ip s 43)))
 intro b2 q2
 refine Aa (b1) (fun h2 => ?_) fun h2 => ?_
 exact Az h2 (Az h2 (Ku rfl (Ds (Jr _ _) (Ds (Jr _ _) Iq)) (Ak0 (n + 3) (by omega) _ s hs) (Az h2 (Zb (Dg h2 (Fp q2 h2) rfl)))))
 exact Ay h2 (Ay h2 (Ay h2 (Df h2 (Fo q2 h2) rfl)))
 intro b2 q2
 apply Bv (b2 && (!(Ip s 35)))
 intro b3 q3
 refine Aa (b2) (fun h3 => ?_) fun h3 => ?_
 exact Az h3 (Az h3 (Ku rfl (Ds (Jr _ _) (Ds (Jr _ _) Iq)) (AgR (n + 3) (by omega) _ s hs) (Az h3 (Zb (Dg h3 (Fp q3 h3) rfl)))))
 exact Ay h3 (Ay h3 (Ay h3 (Df h3 (Fo q3 h3) rfl)))
 intro b3 q3
 apply Bv (b3 && (decide (((Bl s).length : Int) ≤ 6)))
 intro b4 q4
 refine Aa (b3) (fun h4 => ?_) fun h4 => ?_
 exact Az h4 (Az h4 (AcX rfl (Ds (Jr _ _) Iq) (Ud (n + 3) (by omega) s hs) fun N5 X5 z5 => Az h4 (AhE (Az h4 (De (v := sb (decide (((Bl s).length : Int) ≤ 6))) (fun k => rfl) (Dg h4 (Fp q4 h4) rfl))))))
 exact Ay h4 (Ay h4 (Ay h4 (Ay h4 (Df h4 (Fo q4 h4) rfl))))
 intro b4 q4
 exact AhD (by subst_vars; unfold C3; first | rfl | (unfold vPH; cases Bo s <;> cases Ip s 43 <;> cases Ip s 35 <;> simp))
theorem Ra (n : Nat) (hn : 1048576 < n) (ty : Nat) (s : ByteArray) (hs : s.size ≤ 1048576) : C0 E0 (n + 5) ty 108 [.sc (.string s)] = some (.sc (.bool (C3 s))) := by
 rw [A7, Aid, f108]
 try simp only [Lm, Nt, H4, Gg, I7, Ez, Is, Kv, Qr, Ee, Fe, Pr.gT, Pr.gF, Pr.hT, Pr.hF, Pr.kT, Pr.kF, Gh, I6, H5, It, Ns, My, I0, Kc, J6, P4, O0, Nr, Mb]
 refine Ahh rfl (Ds (Jr _ _) Iq) (M3 _ s (AlU hs)) ?_
 apply Bv ((Bo s) && (!(s.toList == (⟨#[]⟩ : ByteArray).toList)))
 intro b1 q1
 refine Aa ((Bo s)) (fun h1 => ?_) fun h1 => ?_
 exact Az h1 (Az h1 (De (v := sb (!(s.toList == (⟨#[]⟩ : ByteArray).toList))) (fun k => rfl) (Dg h1 (Fp q1 h1) rfl)))
 exact Ay h1 (Ay h1 (Df h1 (Fo q1 h1) rfl))
 intro b1 q1
 apply Bv (b1 && (!(vPH s)))
 intro b2 q2
 refine Aa (b1) (fun h2 => ?_) fun h2 => ?_
 exact Az h2 (Az h2 (Ahh rfl (Ds (Jr _ _) (Ds (Jr _ _) Iq)) (Yg _ s hs) (Az h2 (Zb (Dg h2 (Fp q2 h2) rfl)))))
 exact Ay h2 (Ay h2 (Ay h2 (Df h2 (Fo q2 h2) rfl)))
 intro b2 q2
 apply Bv (b2 && (decide (((Bl s).length : Int) ≤ 6)))
 intro b3 q3
 refine Aa (b2) (fun h3 => ?_) fun h3 => ?_
 exact Az h3 (Az h3 (AcX rfl (Ds (Jr _ _) Iq) (T4 (n + 3) s hs) fun N4 X4 z4 => Az h3 (AhE (Az h3 (De (v := sb (decide (((Bl s).length : Int) ≤ 6))) (fun k => rfl) (Dg h3 (Fp q3 h3) rfl))))))
 exact Ay h3 (Ay h3 (Ay h3 (Ay h3 (Df h3 (Fo q3 h3) rfl))))
 intro b3 q3
 exact AhD (by subst_vars; unfold C3; first | rfl | (unfold vPH; cases Bo s <;> cases Ip s 43 <;> cases Ip s 35 <;> simp))
end
section
open Go
def Jv (x y : WantV) : Bool := x.fFilter.toList == y.fFilter.toList && x.fQos == y.fQos
theorem Ye (x y : WantV) : Mi [1, 0] (Bp x) (Bp y) = some (Jv x y) := by
 simp only [Bp, Mi, Ab5, Jv, if_true, zac]
 generalize (x.fFilter.toList == y.fFilter.toList) = b0
 generalize (x.fQos == y.fQos) = b1
 cases b0 <;> cases b1 <;> rfl
theorem Ab7 (n : Nat) (hn : 1048576 < n) (ty : Nat) (l q : List WantV) (hl : l.length ≤ 1048576) : C0 E0 (n + 1) ty 132 [Bt Bp l, Bt Bp q] = some (.sc (.bool (G2 Jv l q))) := by
 rw [A7, Ais, f132]
 simp only [I6, Ez, Ee]
 rw [Gc, Gc, Sd, Do, G2]
 by_cases h : l.length = q.length
 rw [if_neg (by simpa using h), if_pos h]
 rw [Gc]
 have key := Lq (β := AV) Bp (F5) (by decide) (fun x => .agg (Bp x)) (fun p k => Cz true 2 p [] k) (fun x r k => AaH 2 _ _ [] k (F5 x)) (fun x y k => Qu .neq [1, 0] x y k) Jv (fun x y k => Acy _ _ _ _ (Ye x y) k) l q h hl (fun m i => Rq (PR n AV) n (fun x H => A8 As E0.tp ty H x) m (Bt Bp l) (Bt Bp q) (si l.length) i []) (some bF) (some bT) (fun m i => rfl) l q [] [] n rfl rfl rfl (by omega)
 simp only [zaw, zaR] at key
 refine key.trans ?_
 cases Jn Jv l q <;> rfl
 rw [if_pos (by simpa using h), if_neg h]
 rfl
theorem Adz (n : Nat) (hn : 1048576 < n) (ty : Nat) (l q : List ByteArray) (hl : l.length ≤ 1048576) : C0 E0 (n + 1) ty 133 [D6 l, D6 q] = some (.sc (.bool (G2 S2 l q))) := by
 rw [Lk, Lk]
 rw [A7, Ait, f133]
 simp only [I6, Ez, Ee]
 rw [Gc, Gc, Sd, Do, G2]
 by_cases h : l.length = q.length
 rw [if_neg (by simpa using h), if_pos h]
 rw [Gc]
 have key := Lq (β := AV) Vj (fun _ => rfl) (by decide) (fun z => ss z) (fun p k => Cz false 1 p [] k) (fun x r k => ldS x r [] k) (fun x y k => Ci .neq x y k) S2 (fun x y k => neS x y k) l q h hl (fun m i => Rr (PR n AV) n (fun x H => A8 As E0.tp ty H x) m (Bt Vj l) (Bt Vj q) (si l.length) i []) (some bF) (some bT) (fun m i => rfl) l q [] [] n rfl rfl rfl (by omega)
 simp only [zaw, zaR] at key
 refine key.trans ?_
 cases Jn S2 l q <;> rfl
 rw [if_pos (by simpa using h), if_neg h]
 rfl
theorem Ady (n : Nat) (hn : 1048576 < n) (ty : Nat) (l q : List Int) (hl : l.length ≤ 1048576) : C0 E0 (n + 1) ty 134 [D5 l, D5 q] = some (.sc (.bool (G2 eqI l q))) := by
 rw [Lg, Lg]
 rw [A7, Aiu, f134]
 simp only [I6, Ez, Ee]
 rw [Gc, Gc, Sd, Do, G2]
 by_cases h : l.length = q.length
 rw [if_neg (by simpa using h), if_pos h]
 rw [Gc]
 have key := Lq (β := AV) Vi (fun _ => rfl) (by decide) (fun z => si z) (fun p k => Cz false 1 p [] k) (fun x r k => ldI x r [] k) (fun x y k => Ci .neq x y k) eqI (fun x y k => neI x y k) l q h hl (fun m i => Rs (PR n AV) n (fun x H => A8 As E0.tp ty H x) m (Bt Vi l) (Bt Vi q) (si l.length) i []) (some bF) (some bT) (fun m i => rfl) l q [] [] n rfl rfl rfl (by omega)
 simp only [zaw, zaR] at key
 refine key.trans ?_
 cases Jn eqI l q <;> rfl
 rw [if_pos (by simpa using h), if_neg h]
 rfl
def Gy (a b : PacketV) : Bool := (a.fType == b.fType) && (a.fDup == b.fDup) && (a.fQos == b.fQos) && (a.fRetain == b.fRetain) && (a.fId == b.fId) && (a.fTopic.toList == b.fTopic.toList) && (a.fBody.toList == b.fBody.toList) && (a.fClient.toList == b.fClient.toList) && (a.fLevel == b.fLevel) && (a.fClean == b.fClean) && (a.fKeep == b.fKeep) && (a.fHasWill == b.fHasWill) && (a.fWTopic.toList == b.fWTopic.toList) && (a.fWBody.toList == b.fWBody.toList) && (a.fWQos == b.fWQos) && (a.fWRetain == b.fWRetain) && (a.fHasUser == b.fHasUser) && (a.fUser.toList == b.fUser.toList) && (a.fHasPass == b.fHasPass) && (a.fPass.toList == b.fPass.toList) && (a.fCode == b.fCode) && (a.fPresent == b.fPresent)
def L4 (a b : PacketV) : Bool := G2 Jv a.fWants b.fWants && G2 S2 a.fNames b.fNames && G2 eqI a.fCodes b.fCodes
def Ce (a b : PacketV) : Bool := L4 a b && Gy a b
theorem Aj8 (n : Nat) (hn : 1048576 < n) (ty : Nat) (a b : PacketV) (H : Ab) (i1 i2 : Nat) (B1 : H[i1]? = some ⟨An a, true, true⟩) (B2 : H[i2]? = some ⟨An b, true, true⟩) (hl2 : a.fCodes.length ≤ 1048576) (hq2 : a.fCodes.length = b.fCodes.length) : Pa (PR (n + 1) AV) (n + 1) (fun x H => A8 As E0.tp ty H x) (n + 1) (.ptr i1 0) (.ptr i2 0) (.sc (.int .i64 0)) H = some (.sc (.bool (if Jn eqI a.fCodes b.fCodes then (Gy a b) else false))) := by
 have hL : ∀ m i, Pa (PR (n + 1) AV) (n + 1) (fun x H => A8 As E0.tp ty H x) (m + 1) (.ptr i1 0) (.ptr i2 0) i H = Ci .lss i (si a.fCodes.length) fun t14 => Ec t14 (Dn 1 (Bt Vi a.fCodes) i fun t19 => Cz false 1 t19 H fun t20 => Dn 1 (Bt Vi b.fCodes) i fun t23 => Cz false 1 t23 H fun t24 => (fun x y k => Ci .neq x y k) t20 t24 fun t25 => Ec t25 (some bF) (Ci .add i (si 1) fun t16 => Pa (PR (n + 1) AV) (n + 1) (fun x H => A8 As E0.tp ty H x) m (.ptr i1 0) (.ptr i2 0) t16 H)) (some (sb (Gy a b))) := by
  intro m i
  show (PR (n + 1) AV).fadr 24 (.ptr i1 0) _ = _
  simp only [H4, Gg, Ez, Is, Kv, Ee, Fe, Pr.gT, Pr.gF, Pr.hT, Pr.hF, Pr.kT, Pr.kF, Gh, I6, It]
  refine A5 (Cq (c := D5 a.fCodes) B1 (Ca rfl) rfl (Nj ?_))
  congr 1
  funext t
  congr 1
  refine A5 (Cq (c := D5 a.fCodes) B1 (Ca rfl) rfl ?_)
  rw [Lg]
  congr 1
  funext t2
  congr 1
  funext t3
  refine A5 (Cq (c := D5 b.fCodes) B2 (Ca rfl) rfl ?_)
  rw [Lg]
  rfl
  skip
  refine A5 (Cq (c := si a.fType) B1 (Ca rfl) rfl (A5 (Cq (c := si b.fType) B2 (Ca rfl) rfl (De (v := sb (a.fType == b.fType)) (fun k => rfl) ?_))))
  apply Bv ((a.fType == b.fType) && (a.fDup == b.fDup))
  intro b1 q1
  refine Aa ((a.fType == b.fType)) (fun h1 => ?_) fun h1 => ?_
  exact Az h1 (A5 (Az h1 (Cq (c := sb a.fDup) B1 (Ca rfl) rfl (Az h1 (A5 (Az h1 (Cq (c := sb b.fDup) B2 (Ca rfl) rfl (Az h1 (Ik (v := sb (a.fDup == b.fDup)) (fun k => rfl) (Dg h1 (Fp q1 h1) rfl))))))))))
  exact Ay h1 (Ay h1 (Ay h1 (Ay h1 (Ay h1 (Df h1 (Fo q1 h1) rfl)))))
  intro b1 q1
  apply Bv (b1 && (a.fQos == b.fQos))
  intro b2 q2
  refine Aa (b1) (fun h2 => ?_) fun h2 => ?_
  exact Az h2 (A5 (Az h2 (Cq (c := si a.fQos) B1 (Ca rfl) rfl (Az h2 (A5 (Az h2 (Cq (c := si b.fQos) B2 (Ca rfl) rfl (Az h2 (De (v := sb (a.fQos == b.fQos)) (fun k => rfl) (Dg h2 (Fp q2 h2) rfl))))))))))
  exact Ay h2 (Ay h2 (Ay h2 (Ay h2 (Ay h2 (Df h2 (Fo q2 h2) rfl)))))
  intro b2 q2
  apply Bv (b2 && (a.fRetain == b.fRetain))
  intro b3 q3
  refine Aa (b2) (fun h3 => ?_) fun h3 => ?_
  exact Az h3 (A5 (Az h3 (Cq (c := sb a.fRetain) B1 (Ca rfl) rfl (Az h3 (A5 (Az h3 (Cq (c := sb b.fRetain) B2 (Ca rfl) rfl (Az h3 (Ik (v := sb (a.fRetain == b.fRetain)) (fun k => rfl) (Dg h3 (Fp q3 h3) rfl))))))))))
  exact Ay h3 (Ay h3 (Ay h3 (Ay h3 (Ay h3 (Df h3 (Fo q3 h3) rfl)))))
  intro b3 q3
  apply Bv (b3 && (a.fId == b.fId))
  intro b4 q4
  refine Aa (b3) (fun h4 => ?_) fun h4 => ?_
  exact Az h4 (A5 (Az h4 (Cq (c := si a.fId) B1 (Ca rfl) rfl (Az h4 (A5 (Az h4 (Cq (c := si b.fId) B2 (Ca rfl) rfl (Az h4 (De (v := sb (a.fId == b.fId)) (fun k => rfl) (Dg h4 (Fp q4 h4) rfl))))))))))
  exact Ay h4 (Ay h4 (Ay h4 (Ay h4 (Ay h4 (Df h4 (Fo q4 h4) rfl)))))
  intro b4 q4
  apply Bv (b4 && (a.fTopic.toList == b.fTopic.toList))
  intro b5 q5
  refine Aa (b4) (fun h5 => ?_) fun h5 => ?_
  exact Az h5 (A5 (Az h5 (Cq (c := ss a.fTopic) B1 (Ca rfl) rfl (Az h5 (A5 (Az h5 (Cq (c := ss b.fTopic) B2 (Ca rfl) rfl (Az h5 (De (v := sb (a.fTopic.toList == b.fTopic.toList)) (fun k => rfl) (Dg h5 (Fp q5 h5) rfl))))))))))
  exact Ay h5 (Ay h5 (Ay h5 (Ay h5 (Ay h5 (Df h5 (Fo q5 h5) rfl)))))
  intro b5 q5
  apply Bv (b5 && (a.fBody.toList == b.fBody.toList))
  intro b6 q6
  refine Aa (b5) (fun h6 => ?_) fun h6 => ?_
  exact Az h6 (A5 (Az h6 (Cq (c := Ad a.fBody) B1 (Ca rfl) rfl (Az h6 (A5 (Az h6 (Cq (c := Ad b.fBody) B2 (Ca rfl) rfl (Az h6 (Ku rfl (Ds (Id _ _ _) (Ds (Id _ _ _) Iq)) (R7 (n + 0) _ a.fBody b.fBody) (Dg h6 (Fp q6 h6) rfl))))))))))
  exact Ay h6 (Ay h6 (Ay h6 (Ay h6 (Ay h6 (Df h6 (Fo q6 h6) rfl)))))
  intro b6 q6
  apply Bv (b6 && (a.fClient.toList == b.fClient.toList))
  intro b7 q7
  refine Aa (b6) (fun h7 => ?_) fun h7 => ?_
  exact Az h7 (A5 (Az h7 (Cq (c := ss a.fClient) B1 (Ca rfl) rfl (Az h7 (A5 (Az h7 (Cq (c := ss b.fClient) B2 (Ca rfl) rfl (Az h7 (De (v := sb (a.fClient.toList == b.fClient.toList)) (fun k => rfl) (Dg h7 (Fp q7 h7) rfl))))))))))
  exact Ay h7 (Ay h7 (Ay h7 (Ay h7 (Ay h7 (Df h7 (Fo q7 h7) rfl)))))
  intro b7 q7
  apply Bv (b7 && (a.fLevel == b.fLevel))
  intro b8 q8
  refine Aa (b7) (fun h8 => ?_) fun h8 => ?_
  exact Az h8 (A5 (Az h8 (Cq (c := si a.fLevel) B1 (Ca rfl) rfl (Az h8 (A5 (Az h8 (Cq (c := si b.fLevel) B2 (Ca rfl) rfl (Az h8 (De (v := sb (a.fLevel == b.fLevel)) (fun k => rfl) (Dg h8 (Fp q8 h8) rfl))))))))))
  exact Ay h8 (Ay h8 (Ay h8 (Ay h8 (Ay h8 (Df h8 (Fo q8 h8) rfl)))))
  intro b8 q8
  apply Bv (b8 && (a.fClean == b.fClean))
  intro b9 q9
  refine Aa (b8) (fun h9 => ?_) fun h9 => ?_
  exact Az h9 (A5 (Az h9 (Cq (c := sb a.fClean) B1 (Ca rfl) rfl (Az h9 (A5 (Az h9 (Cq (c := sb b.fClean) B2 (Ca rfl) rfl (Az h9 (Ik (v := sb (a.fClean == b.fClean)) (fun k => rfl) (Dg h9 (Fp q9 h9) rfl))))))))))
  exact Ay h9 (Ay h9 (Ay h9 (Ay h9 (Ay h9 (Df h9 (Fo q9 h9) rfl)))))
  intro b9 q9
  apply Bv (b9 && (a.fKeep == b.fKeep))
  intro b10 q10
  refine Aa (b9) (fun h10 => ?_) fun h10 => ?_
  exact Az h10 (A5 (Az h10 (Cq (c := si a.fKeep) B1 (Ca rfl) rfl (Az h10 (A5 (Az h10 (Cq (c := si b.fKeep) B2 (Ca rfl) rfl (Az h10 (De (v := sb (a.fKeep == b.fKeep)) (fun k => rfl) (Dg h10 (Fp q10 h10) rfl))))))))))
  exact Ay h10 (Ay h10 (Ay h10 (Ay h10 (Ay h10 (Df h10 (Fo q10 h10) rfl)))))
  intro b10 q10
  apply Bv (b10 && (a.fHasWill == b.fHasWill))
  intro b11 q11
  refine Aa (b10) (fun h11 => ?_) fun h11 => ?_
  exact Az h11 (A5 (Az h11 (Cq (c := sb a.fHasWill) B1 (Ca rfl) rfl (Az h11 (A5 (Az h11 (Cq (c := sb b.fHasWill) B2 (Ca rfl) rfl (Az h11 (Ik (v := sb (a.fHasWill == b.fHasWill)) (fun k => rfl) (Dg h11 (Fp q11 h11) rfl))))))))))
  exact Ay h11 (Ay h11 (Ay h11 (Ay h11 (Ay h11 (Df h11 (Fo q11 h11) rfl)))))
  intro b11 q11
  apply Bv (b11 && (a.fWTopic.toList == b.fWTopic.toList))
  intro b12 q12
  refine Aa (b11) (fun h12 => ?_) fun h12 => ?_
  exact Az h12 (A5 (Az h12 (Cq (c := ss a.fWTopic) B1 (Ca rfl) rfl (Az h12 (A5 (Az h12 (Cq (c := ss b.fWTopic) B2 (Ca rfl) rfl (Az h12 (De (v := sb (a.fWTopic.toList == b.fWTopic.toList)) (fun k => rfl) (Dg h12 (Fp q12 h12) rfl))))))))))
  exact Ay h12 (Ay h12 (Ay h12 (Ay h12 (Ay h12 (Df h12 (Fo q12 h12) rfl)))))
  intro b12 q12
  apply Bv (b12 && (a.fWBody.toList == b.fWBody.toList))
  intro b13 q13
  refine Aa (b12) (fun h13 => ?_) fun h13 => ?_
  exact Az h13 (A5 (Az h13 (Cq (c := Ad a.fWBody) B1 (Ca rfl) rfl (Az h13 (A5 (Az h13 (Cq (c := Ad b.fWBody) B2 (Ca rfl) rfl (Az h13 (Ku rfl (Ds (Id _ _ _) (Ds (Id _ _ _) Iq)) (R7 (n + 0) _ a.fWBody b.fWBody) (Dg h13 (Fp q13 h13) rfl))))))))))
  exact Ay h13 (Ay h13 (Ay h13 (Ay h13 (Ay h13 (Df h13 (Fo q13 h13) rfl)))))
  intro b13 q13
  apply Bv (b13 && (a.fWQos == b.fWQos))
  intro b14 q14
  refine Aa (b13) (fun h14 => ?_) fun h14 => ?_
  exact Az h14 (A5 (Az h14 (Cq (c := si a.fWQos) B1 (Ca rfl) rfl (Az h14 (A5 (Az h14 (Cq (c := si b.fWQos) B2 (Ca rfl) rfl (Az h14 (De (v := sb (a.fWQos == b.fWQos)) (fun k => rfl) (Dg h14 (Fp q14 h14) rfl))))))))))
  exact Ay h14 (Ay h14 (Ay h14 (Ay h14 (Ay h14 (Df h14 (Fo q14 h14) rfl)))))
  intro b14 q14
  apply Bv (b14 && (a.fWRetain == b.fWRetain))
  intro b15 q15
  refine Aa (b14) (fun h15 => ?_) fun h15 => ?_
  exact Az h15 (A5 (Az h15 (Cq (c := sb a.fWRetain) B1 (Ca rfl) rfl (Az h15 (A5 (Az h15 (Cq (c := sb b.fWRetain) B2 (Ca rfl) rfl (Az h15 (Ik (v := sb (a.fWRetain == b.fWRetain)) (fun k => rfl) (Dg h15 (Fp q15 h15) rfl))))))))))
  exact Ay h15 (Ay h15 (Ay h15 (Ay h15 (Ay h15 (Df h15 (Fo q15 h15) rfl)))))
  intro b15 q15
  apply Bv (b15 && (a.fHasUser == b.fHasUser))
  intro b16 q16
  refine Aa (b15) (fun h16 => ?_) fun h16 => ?_
  exact Az h16 (A5 (Az h16 (Cq (c := sb a.fHasUser) B1 (Ca rfl) rfl (Az h16 (A5 (Az h16 (Cq (c := sb b.fHasUser) B2 (Ca rfl) rfl (Az h16 (Ik (v := sb (a.fHasUser == b.fHasUser)) (fun k => rfl) (Dg h16 (Fp q16 h16) rfl))))))))))
  exact Ay h16 (Ay h16 (Ay h16 (Ay h16 (Ay h16 (Df h16 (Fo q16 h16) rfl)))))
  intro b16 q16
  apply Bv (b16 && (a.fUser.toList == b.fUser.toList))
  intro b17 q17
  refine Aa (b16) (fun h17 => ?_) fun h17 => ?_
  exact Az h17 (A5 (Az h17 (Cq (c := ss a.fUser) B1 (Ca rfl) rfl (Az h17 (A5 (Az h17 (Cq (c := ss b.fUser) B2 (Ca rfl) rfl (Az h17 (De (v := sb (a.fUser.toList == b.fUser.toList)) (fun k => rfl) (Dg h17 (Fp q17 h17) rfl))))))))))
  exact Ay h17 (Ay h17 (Ay h17 (Ay h17 (Ay h17 (Df h17 (Fo q17 h17) rfl)))))
  intro b17 q17
  apply Bv (b17 && (a.fHasPass == b.fHasPass))
  intro b18 q18
  refine Aa (b17) (fun h18 => ?_) fun h18 => ?_
  exact Az h18 (A5 (Az h18 (Cq (c := sb a.fHasPass) B1 (Ca rfl) rfl (Az h18 (A5 (Az h18 (Cq (c := sb b.fHasPass) B2 (Ca rfl) rfl (Az h18 (Ik (v := sb (a.fHasPass == b.fHasPass)) (fun k => rfl) (Dg h18 (Fp q18 h18) rfl))))))))))
  exact Ay h18 (Ay h18 (Ay h18 (Ay h18 (Ay h18 (Df h18 (Fo q18 h18) rfl)))))
  intro b18 q18
  apply Bv (b18 && (a.fPass.toList == b.fPass.toList))
  intro b19 q19
  refine Aa (b18) (fun h19 => ?_) fun h19 => ?_
  exact Az h19 (A5 (Az h19 (Cq (c := Ad a.fPass) B1 (Ca rfl) rfl (Az h19 (A5 (Az h19 (Cq (c := Ad b.fPass) B2 (Ca rfl) rfl (Az h19 (Ku rfl (Ds (Id _ _ _) (Ds (Id _ _ _) Iq)) (R7 (n + 0) _ a.fPass b.fPass) (Dg h19 (Fp q19 h19) rfl))))))))))
  exact Ay h19 (Ay h19 (Ay h19 (Ay h19 (Ay h19 (Df h19 (Fo q19 h19) rfl)))))
  intro b19 q19
  apply Bv (b19 && (a.fCode == b.fCode))
  intro b20 q20
  refine Aa (b19) (fun h20 => ?_) fun h20 => ?_
  exact Az h20 (A5 (Az h20 (Cq (c := si a.fCode) B1 (Ca rfl) rfl (Az h20 (A5 (Az h20 (Cq (c := si b.fCode) B2 (Ca rfl) rfl (Az h20 (De (v := sb (a.fCode == b.fCode)) (fun k => rfl) (Dg h20 (Fp q20 h20) rfl))))))))))
  exact Ay h20 (Ay h20 (Ay h20 (Ay h20 (Ay h20 (Df h20 (Fo q20 h20) rfl)))))
  intro b20 q20
  apply Bv (b20 && (a.fPresent == b.fPresent))
  intro b21 q21
  refine Aa (b20) (fun h21 => ?_) fun h21 => ?_
  exact Az h21 (A5 (Az h21 (Cq (c := sb a.fPresent) B1 (Ca rfl) rfl (Az h21 (A5 (Az h21 (Cq (c := sb b.fPresent) B2 (Ca rfl) rfl (Az h21 (Ik (v := sb (a.fPresent == b.fPresent)) (fun k => rfl) (Dg h21 (Fp q21 h21) rfl))))))))))
  exact Ay h21 (Ay h21 (Ay h21 (Ay h21 (Ay h21 (Df h21 (Fo q21 h21) rfl)))))
  intro b21 q21
  subst_vars; rfl
 have key := Lq (β := AV) Vi (fun _ => rfl) (by decide) (fun z => si z) (fun p k => Cz false 1 p H k) (fun x r k => ldI x r H k) (fun x y k => Ci .neq x y k) eqI (fun x y k => neI x y k) a.fCodes b.fCodes hq2 hl2 (fun m i => Pa (PR (n + 1) AV) (n + 1) (fun x H => A8 As E0.tp ty H x) m (.ptr i1 0) (.ptr i2 0) i H) (some bF) (some (sb (Gy a b))) hL a.fCodes b.fCodes [] [] (n + 1) rfl rfl rfl (by omega)
 simp only [zaw, zaR] at key
 refine key.trans ?_
 cases Jn eqI a.fCodes b.fCodes <;> rfl
theorem Aj7 (n : Nat) (hn : 1048576 < n) (ty : Nat) (a b : PacketV) (H : Ab) (i1 i2 : Nat) (B1 : H[i1]? = some ⟨An a, true, true⟩) (B2 : H[i2]? = some ⟨An b, true, true⟩) (hl1 : a.fNames.length ≤ 1048576) (hq1 : a.fNames.length = b.fNames.length) (hl2 : a.fCodes.length ≤ 1048576) (hq2 : a.fCodes.length = b.fCodes.length) : Mp (PR (n + 1) AV) (n + 1) (fun x H => A8 As E0.tp ty H x) (n + 1) (.ptr i1 0) (.ptr i2 0) (.sc (.int .i64 0)) H = some (.sc (.bool (if Jn S2 a.fNames b.fNames then (if Jn eqI a.fCodes b.fCodes then (Gy a b) else false) else false))) := by
 have hL : ∀ m i, Mp (PR (n + 1) AV) (n + 1) (fun x H => A8 As E0.tp ty H x) (m + 1) (.ptr i1 0) (.ptr i2 0) i H = Ci .lss i (si a.fNames.length) fun t14 => Ec t14 (Dn 1 (Bt Vj a.fNames) i fun t19 => Cz false 1 t19 H fun t20 => Dn 1 (Bt Vj b.fNames) i fun t23 => Cz false 1 t23 H fun t24 => (fun x y k => Ci .neq x y k) t20 t24 fun t25 => Ec t25 (some bF) (Ci .add i (si 1) fun t16 => Mp (PR (n + 1) AV) (n + 1) (fun x H => A8 As E0.tp ty H x) m (.ptr i1 0) (.ptr i2 0) t16 H)) (some (sb (if Jn eqI a.fCodes b.fCodes then (Gy a b) else false))) := by
  intro m i
  show (PR (n + 1) AV).fadr 23 (.ptr i1 0) _ = _
  simp only [H4, Gg, Ez, Is, Kv, Ee, Fe, Pr.gT, Pr.gF, Pr.hT, Pr.hF, Pr.kT, Pr.kF, Gh, I6, It]
  refine A5 (Cq (c := D6 a.fNames) B1 (Ca rfl) rfl (Nj ?_))
  congr 1
  funext t
  congr 1
  refine A5 (Cq (c := D6 a.fNames) B1 (Ca rfl) rfl ?_)
  rw [Lk]
  congr 1
  funext t2
  congr 1
  funext t3
  refine A5 (Cq (c := D6 b.fNames) B2 (Ca rfl) rfl ?_)
  rw [Lk]
  rfl
  skip
  exact Aj8 n hn ty a b H i1 i2 B1 B2 hl2 hq2
 have key := Lq (β := AV) Vj (fun _ => rfl) (by decide) (fun z => ss z) (fun p k => Cz false 1 p H k) (fun x r k => ldS x r H k) (fun x y k => Ci .neq x y k) S2 (fun x y k => neS x y k) a.fNames b.fNames hq1 hl1 (fun m i => Mp (PR (n + 1) AV) (n + 1) (fun x H => A8 As E0.tp ty H x) m (.ptr i1 0) (.ptr i2 0) i H) (some bF) (some (sb (if Jn eqI a.fCodes b.fCodes then (Gy a b) else false))) hL a.fNames b.fNames [] [] (n + 1) rfl rfl rfl (by omega)
 simp only [zaw, zaR] at key
 refine key.trans ?_
 cases Jn S2 a.fNames b.fNames <;> rfl
theorem Aj6 (n : Nat) (hn : 1048576 < n) (ty : Nat) (a b : PacketV) (H : Ab) (i1 i2 : Nat) (B1 : H[i1]? = some ⟨An a, true, true⟩) (B2 : H[i2]? = some ⟨An b, true, true⟩) (hl0 : a.fWants.length ≤ 1048576) (hq0 : a.fWants.length = b.fWants.length) (hl1 : a.fNames.length ≤ 1048576) (hq1 : a.fNames.length = b.fNames.length) (hl2 : a.fCodes.length ≤ 1048576) (hq2 : a.fCodes.length = b.fCodes.length) : Mo (PR (n + 1) AV) (n + 1) (fun x H => A8 As E0.tp ty H x) (n + 1) (.ptr i1 0) (.ptr i2 0) (.sc (.int .i64 0)) H = some (.sc (.bool (if Jn Jv a.fWants b.fWants then (if Jn S2 a.fNames b.fNames then (if Jn eqI a.fCodes b.fCodes then (Gy a b) else false) else false) else false))) := by
 have hL : ∀ m i, Mo (PR (n + 1) AV) (n + 1) (fun x H => A8 As E0.tp ty H x) (m + 1) (.ptr i1 0) (.ptr i2 0) i H = Ci .lss i (si a.fWants.length) fun t14 => Ec t14 (Dn 2 (Bt Bp a.fWants) i fun t19 => Cz true 2 t19 H fun t20 => Dn 2 (Bt Bp b.fWants) i fun t23 => Cz true 2 t23 H fun t24 => (fun x y k => Qu .neq [1, 0] x y k) t20 t24 fun t25 => Ec t25 (some bF) (Ci .add i (si 1) fun t16 => Mo (PR (n + 1) AV) (n + 1) (fun x H => A8 As E0.tp ty H x) m (.ptr i1 0) (.ptr i2 0) t16 H)) (some (sb (if Jn S2 a.fNames b.fNames then (if Jn eqI a.fCodes b.fCodes then (Gy a b) else false) else false))) := by
  intro m i
  show (PR (n + 1) AV).fadr 22 (.ptr i1 0) _ = _
  simp only [H4, Gg, Ez, Is, Kv, Ee, Fe, Pr.gT, Pr.gF, Pr.hT, Pr.hF, Pr.kT, Pr.kF, Gh, I6, It]
  refine A5 (Cq (c := Bt Bp a.fWants) B1 (Ca rfl) rfl (Nj ?_))
  congr 1
  funext t
  congr 1
  refine A5 (Cq (c := Bt Bp a.fWants) B1 (Ca rfl) rfl ?_)
  congr 1
  funext t2
  congr 1
  funext t3
  refine A5 (Cq (c := Bt Bp b.fWants) B2 (Ca rfl) rfl ?_)
  rfl
  skip
  exact Aj7 n hn ty a b H i1 i2 B1 B2 hl1 hq1 hl2 hq2
 have key := Lq (β := AV) Bp (F5) (by decide) (fun x => .agg (Bp x)) (fun p k => Cz true 2 p H k) (fun x r k => AaH 2 _ _ H k (F5 x)) (fun x y k => Qu .neq [1, 0] x y k) Jv (fun x y k => Acy _ _ _ _ (Ye x y) k) a.fWants b.fWants hq0 hl0 (fun m i => Mo (PR (n + 1) AV) (n + 1) (fun x H => A8 As E0.tp ty H x) m (.ptr i1 0) (.ptr i2 0) i H) (some bF) (some (sb (if Jn S2 a.fNames b.fNames then (if Jn eqI a.fCodes b.fCodes then (Gy a b) else false) else false))) hL a.fWants b.fWants [] [] (n + 1) rfl rfl rfl (by omega)
 simp only [zaw, zaR] at key
 refine key.trans ?_
 cases Jn Jv a.fWants b.fWants <;> rfl
theorem Ou (n : Nat) (hn : 1048576 < n) (ty : Nat) (a : PacketV) (b : PacketV) (hl0 : a.fWants.length ≤ 1048576) (hl1 : a.fNames.length ≤ 1048576) (hl2 : a.fCodes.length ≤ 1048576) : C0 E0 (n + 2) ty 89 [.agg (An a), .agg (An b)] = some (.sc (.bool (Ce a b))) := by
 rw [A7, Al5, f89]
 try simp only [Lm, Nt, H4, Gg, I7, Ez, Is, Kv, Qr, Ee, Fe, Pr.gT, Pr.gF, Pr.hT, Pr.hF, Pr.kT, Pr.kF, Gh, I6, H5, It, Ns, My, I0, Kc, J6, P4, O0, Nr, Mb]
 refine Adk (Ct _) fun iB1 eB1 B1 => Adk (Ct _) fun iB2 eB2 B2 => ?_
 replace B1 := Aao B1 [⟨An b, true, true⟩]
 refine A5 (Cq (c := Bt Bp a.fWants) B1 (Ca rfl) rfl (Nj (A5 (Cq (c := Bt Bp b.fWants) B2 (Ca rfl) rfl (Nj (De (v := sb ((a.fWants.length : Int) != (b.fWants.length : Int))) (fun k => rfl) ?_))))))
 apply Bv (((a.fWants.length : Int) != (b.fWants.length : Int)) || ((a.fNames.length : Int) != (b.fNames.length : Int)))
 intro b3 q3
 refine Aa (((a.fWants.length : Int) != (b.fWants.length : Int))) (fun h3 => ?_) fun h3 => ?_
 exact Jp h3 (Jp h3 (Jp h3 (Jp h3 (Jp h3 (Jp h3 (Jp h3 (Dg h3 (mOT q3 h3) rfl)))))))
 exact Ir h3 (A5 (Ir h3 (Cq (c := D6 a.fNames) B1 (Ca rfl) rfl (Ir h3 (Nj (Ir h3 (A5 (Ir h3 (Cq (c := D6 b.fNames) B2 (Ca rfl) rfl (Ir h3 (Nj (Ir h3 (De (v := sb ((a.fNames.length : Int) != (b.fNames.length : Int))) (fun k => rfl) (Df h3 (mOF q3 h3) rfl))))))))))))))
 intro b3 q3
 apply Bv (b3 || ((a.fCodes.length : Int) != (b.fCodes.length : Int)))
 intro b4 q4
 refine Aa (b3) (fun h4 => ?_) fun h4 => ?_
 exact Jp h4 (Jp h4 (Jp h4 (Jp h4 (Jp h4 (Jp h4 (Jp h4 (Dg h4 (mOT q4 h4) rfl)))))))
 exact Ir h4 (A5 (Ir h4 (Cq (c := D5 a.fCodes) B1 (Ca rfl) rfl (Ir h4 (Nj (Ir h4 (A5 (Ir h4 (Cq (c := D5 b.fCodes) B2 (Ca rfl) rfl (Ir h4 (Nj (Ir h4 (De (v := sb ((a.fCodes.length : Int) != (b.fCodes.length : Int))) (fun k => rfl) (Df h4 (mOF q4 h4) rfl))))))))))))))
 intro b4 q4
 refine Aa (b4) (fun h5 => ?_) fun h5 => ?_
 exact Qq h5 (Xx (by subst_vars; simp only [Ce, L4, G2]; by_cases e0 : a.fWants.length = b.fWants.length <;> by_cases e1 : a.fNames.length = b.fNames.length <;> by_cases e2 : a.fCodes.length = b.fCodes.length <;> simp_all))
 refine Tt h5 ?_
 have l0 : a.fWants.length = b.fWants.length := by (subst_vars; simp at *; omega)
 have l1 : a.fNames.length = b.fNames.length := by (subst_vars; simp at *; omega)
 have l2 : a.fCodes.length = b.fCodes.length := by (subst_vars; simp at *; omega)
 refine (Aj6 n hn ty a b _ _ _ B1 B2 hl0 l0 hl1 l1 hl2 l2).trans ?_
 simp only [Ce, L4, G2, l0, l1, l2, if_true]
 cases Jn Jv a.fWants b.fWants <;> cases Jn S2 a.fNames b.fNames <;> cases Jn eqI a.fCodes b.fCodes <;> simp
theorem On (n : Nat) (hn : 1048576 < n) (ty : Nat) (a : PacketV) (b : PacketV) (hl0 : a.fWants.length ≤ 1048576) (hl1 : a.fNames.length ≤ 1048576) (hl2 : a.fCodes.length ≤ 1048576) : C0 E0 (n + 2) ty 104 [.agg (An a), .agg (An b)] = some (.sc (.bool (Ce a b))) := by
 rw [A7, AhZ, f104]
 try simp only [Lm, Nt, H4, Gg, I7, Ez, Is, Kv, Qr, Ee, Fe, Pr.gT, Pr.gF, Pr.hT, Pr.hF, Pr.kT, Pr.kF, Gh, I6, H5, It, Ns, My, I0, Kc, J6, P4, O0, Nr, Mb]
 refine Adk (Ct _) fun iB1 eB1 B1 => Adk (Ct _) fun iB2 eB2 B2 => ?_
 replace B1 := Aao B1 [⟨An b, true, true⟩]
 refine A5 (Cq (c := si a.fType) B1 (Ca rfl) rfl (A5 (Cq (c := si b.fType) B2 (Ca rfl) rfl (De (v := sb (a.fType == b.fType)) (fun k => rfl) ?_))))
 apply Bv ((a.fType == b.fType) && (a.fDup == b.fDup))
 intro b3 q3
 refine Aa ((a.fType == b.fType)) (fun h3 => ?_) fun h3 => ?_
 exact Az h3 (A5 (Az h3 (Cq (c := sb a.fDup) B1 (Ca rfl) rfl (Az h3 (A5 (Az h3 (Cq (c := sb b.fDup) B2 (Ca rfl) rfl (Az h3 (Ik (v := sb (a.fDup == b.fDup)) (fun k => rfl) (Dg h3 (Fp q3 h3) rfl))))))))))
 exact Ay h3 (Ay h3 (Ay h3 (Ay h3 (Ay h3 (Df h3 (Fo q3 h3) rfl)))))
 intro b3 q3
 apply Bv (b3 && (a.fQos == b.fQos))
 intro b4 q4
 refine Aa (b3) (fun h4 => ?_) fun h4 => ?_
 exact Az h4 (A5 (Az h4 (Cq (c := si a.fQos) B1 (Ca rfl) rfl (Az h4 (A5 (Az h4 (Cq (c := si b.fQos) B2 (Ca rfl) rfl (Az h4 (De (v := sb (a.fQos == b.fQos)) (fun k => rfl) (Dg h4 (Fp q4 h4) rfl))))))))))
 exact Ay h4 (Ay h4 (Ay h4 (Ay h4 (Ay h4 (Df h4 (Fo q4 h4) rfl)))))
 intro b4 q4
 apply Bv (b4 && (a.fRetain == b.fRetain))
 intro b5 q5
 refine Aa (b4) (fun h5 => ?_) fun h5 => ?_
 exact Az h5 (A5 (Az h5 (Cq (c := sb a.fRetain) B1 (Ca rfl) rfl (Az h5 (A5 (Az h5 (Cq (c := sb b.fRetain) B2 (Ca rfl) rfl (Az h5 (Ik (v := sb (a.fRetain == b.fRetain)) (fun k => rfl) (Dg h5 (Fp q5 h5) rfl))))))))))
 exact Ay h5 (Ay h5 (Ay h5 (Ay h5 (Ay h5 (Df h5 (Fo q5 h5) rfl)))))
 intro b5 q5
 apply Bv (b5 && (a.fId == b.fId))
 intro b6 q6
 refine Aa (b5) (fun h6 => ?_) fun h6 => ?_
 exact Az h6 (A5 (Az h6 (Cq (c := si a.fId) B1 (Ca rfl) rfl (Az h6 (A5 (Az h6 (Cq (c := si b.fId) B2 (Ca rfl) rfl (Az h6 (De (v := sb (a.fId == b.fId)) (fun k => rfl) (Dg h6 (Fp q6 h6) rfl))))))))))
 exact Ay h6 (Ay h6 (Ay h6 (Ay h6 (Ay h6 (Df h6 (Fo q6 h6) rfl)))))
 intro b6 q6
 apply Bv (b6 && (a.fTopic.toList == b.fTopic.toList))
 intro b7 q7
 refine Aa (b6) (fun h7 => ?_) fun h7 => ?_
 exact Az h7 (A5 (Az h7 (Cq (c := ss a.fTopic) B1 (Ca rfl) rfl (Az h7 (A5 (Az h7 (Cq (c := ss b.fTopic) B2 (Ca rfl) rfl (Az h7 (De (v := sb (a.fTopic.toList == b.fTopic.toList)) (fun k => rfl) (Dg h7 (Fp q7 h7) rfl))))))))))
 exact Ay h7 (Ay h7 (Ay h7 (Ay h7 (Ay h7 (Df h7 (Fo q7 h7) rfl)))))
 intro b7 q7
 apply Bv (b7 && (a.fBody.toList == b.fBody.toList))
 intro b8 q8
 refine Aa (b7) (fun h8 => ?_) fun h8 => ?_
 exact Az h8 (A5 (Az h8 (Cq (c := Ad a.fBody) B1 (Ca rfl) rfl (Az h8 (A5 (Az h8 (Cq (c := Ad b.fBody) B2 (Ca rfl) rfl (Az h8 (Ku rfl (Ds (Id _ _ _) (Ds (Id _ _ _) Iq)) (Kd (n + 0) _ a.fBody b.fBody) (Dg h8 (Fp q8 h8) rfl))))))))))
 exact Ay h8 (Ay h8 (Ay h8 (Ay h8 (Ay h8 (Df h8 (Fo q8 h8) rfl)))))
 intro b8 q8
 refine A5 (Cq (c := ss a.fClient) B1 (Ca rfl) rfl (A5 (Cq (c := ss b.fClient) B2 (Ca rfl) rfl (De (v := sb (a.fClient.toList == b.fClient.toList)) (fun k => rfl) ?_))))
 apply Bv ((a.fClient.toList == b.fClient.toList) && (a.fLevel == b.fLevel))
 intro b9 q9
 refine Aa ((a.fClient.toList == b.fClient.toList)) (fun h9 => ?_) fun h9 => ?_
 exact Az h9 (A5 (Az h9 (Cq (c := si a.fLevel) B1 (Ca rfl) rfl (Az h9 (A5 (Az h9 (Cq (c := si b.fLevel) B2 (Ca rfl) rfl (Az h9 (De (v := sb (a.fLevel == b.fLevel)) (fun k => rfl) (Dg h9 (Fp q9 h9) rfl))))))))))
 exact Ay h9 (Ay h9 (Ay h9 (Ay h9 (Ay h9 (Df h9 (Fo q9 h9) rfl)))))
 intro b9 q9
 apply Bv (b9 && (a.fClean == b.fClean))
 intro b10 q10
 refine Aa (b9) (fun h10 => ?_) fun h10 => ?_
 exact Az h10 (A5 (Az h10 (Cq (c := sb a.fClean) B1 (Ca rfl) rfl (Az h10 (A5 (Az h10 (Cq (c := sb b.fClean) B2 (Ca rfl) rfl (Az h10 (Ik (v := sb (a.fClean == b.fClean)) (fun k => rfl) (Dg h10 (Fp q10 h10) rfl))))))))))
 exact Ay h10 (Ay h10 (Ay h10 (Ay h10 (Ay h10 (Df h10 (Fo q10 h10) rfl)))))
 intro b10 q10
 apply Bv (b10 && (a.fKeep == b.fKeep))
 intro b11 q11
 refine Aa (b10) (fun h11 => ?_) fun h11 => ?_
 exact Az h11 (A5 (Az h11 (Cq (c := si a.fKeep) B1 (Ca rfl) rfl (Az h11 (A5 (Az h11 (Cq (c := si b.fKeep) B2 (Ca rfl) rfl (Az h11 (De (v := sb (a.fKeep == b.fKeep)) (fun k => rfl) (Dg h11 (Fp q11 h11) rfl))))))))))
 exact Ay h11 (Ay h11 (Ay h11 (Ay h11 (Ay h11 (Df h11 (Fo q11 h11) rfl)))))
 intro b11 q11
 apply Bv (b11 && (a.fHasUser == b.fHasUser))
 intro b12 q12
 refine Aa (b11) (fun h12 => ?_) fun h12 => ?_
 exact Az h12 (A5 (Az h12 (Cq (c := sb a.fHasUser) B1 (Ca rfl) rfl (Az h12 (A5 (Az h12 (Cq (c := sb b.fHasUser) B2 (Ca rfl) rfl (Az h12 (Ik (v := sb (a.fHasUser == b.fHasUser)) (fun k => rfl) (Dg h12 (Fp q12 h12) rfl))))))))))
 exact Ay h12 (Ay h12 (Ay h12 (Ay h12 (Ay h12 (Df h12 (Fo q12 h12) rfl)))))
 intro b12 q12
 apply Bv (b12 && (a.fUser.toList == b.fUser.toList))
 intro b13 q13
 refine Aa (b12) (fun h13 => ?_) fun h13 => ?_
 exact Az h13 (A5 (Az h13 (Cq (c := ss a.fUser) B1 (Ca rfl) rfl (Az h13 (A5 (Az h13 (Cq (c := ss b.fUser) B2 (Ca rfl) rfl (Az h13 (De (v := sb (a.fUser.toList == b.fUser.toList)) (fun k => rfl) (Dg h13 (Fp q13 h13) rfl))))))))))
 exact Ay h13 (Ay h13 (Ay h13 (Ay h13 (Ay h13 (Df h13 (Fo q13 h13) rfl)))))
 intro b13 q13
 apply Bv (b13 && (a.fHasPass == b.fHasPass))
 intro b14 q14
 refine Aa (b13) (fun h14 => ?_) fun h14 => ?_
 exact Az h14 (A5 (Az h14 (Cq (c := sb a.fHasPass) B1 (Ca rfl) rfl (Az h14 (A5 (Az h14 (Cq (c := sb b.fHasPass) B2 (Ca rfl) rfl (Az h14 (Ik (v := sb (a.fHasPass == b.fHasPass)) (fun k => rfl) (Dg h14 (Fp q14 h14) rfl))))))))))
 exact Ay h14 (Ay h14 (Ay h14 (Ay h14 (Ay h14 (Df h14 (Fo q14 h14) rfl)))))
 intro b14 q14
 apply Bv (b14 && (a.fPass.toList == b.fPass.toList))
 intro b15 q15
 refine Aa (b14) (fun h15 => ?_) fun h15 => ?_
 exact Az h15 (A5 (Az h15 (Cq (c := Ad a.fPass) B1 (Ca rfl) rfl (Az h15 (A5 (Az h15 (Cq (c := Ad b.fPass) B2 (Ca rfl) rfl (Az h15 (Ku rfl (Ds (Id _ _ _) (Ds (Id _ _ _) Iq)) (Kd (n + 0) _ a.fPass b.fPass) (Dg h15 (Fp q15 h15) rfl))))))))))
 exact Ay h15 (Ay h15 (Ay h15 (Ay h15 (Ay h15 (Df h15 (Fo q15 h15) rfl)))))
 intro b15 q15
 refine A5 (Cq (c := sb a.fHasWill) B1 (Ca rfl) rfl (A5 (Cq (c := sb b.fHasWill) B2 (Ca rfl) rfl (Ik (v := sb (a.fHasWill == b.fHasWill)) (fun k => rfl) ?_))))
 apply Bv ((a.fHasWill == b.fHasWill) && (a.fWTopic.toList == b.fWTopic.toList))
 intro b16 q16
 refine Aa ((a.fHasWill == b.fHasWill)) (fun h16 => ?_) fun h16 => ?_
 exact Az h16 (A5 (Az h16 (Cq (c := ss a.fWTopic) B1 (Ca rfl) rfl (Az h16 (A5 (Az h16 (Cq (c := ss b.fWTopic) B2 (Ca rfl) rfl (Az h16 (De (v := sb (a.fWTopic.toList == b.fWTopic.toList)) (fun k => rfl) (Dg h16 (Fp q16 h16) rfl))))))))))
 exact Ay h16 (Ay h16 (Ay h16 (Ay h16 (Ay h16 (Df h16 (Fo q16 h16) rfl)))))
 intro b16 q16
 apply Bv (b16 && (a.fWBody.toList == b.fWBody.toList))
 intro b17 q17
 refine Aa (b16) (fun h17 => ?_) fun h17 => ?_
 exact Az h17 (A5 (Az h17 (Cq (c := Ad a.fWBody) B1 (Ca rfl) rfl (Az h17 (A5 (Az h17 (Cq (c := Ad b.fWBody) B2 (Ca rfl) rfl (Az h17 (Ku rfl (Ds (Id _ _ _) (Ds (Id _ _ _) Iq)) (Kd (n + 0) _ a.fWBody b.fWBody) (Dg h17 (Fp q17 h17) rfl))))))))))
 exact Ay h17 (Ay h17 (Ay h17 (Ay h17 (Ay h17 (Df h17 (Fo q17 h17) rfl)))))
 intro b17 q17
 apply Bv (b17 && (a.fWQos == b.fWQos))
 intro b18 q18
 refine Aa (b17) (fun h18 => ?_) fun h18 => ?_
 exact Az h18 (A5 (Az h18 (Cq (c := si a.fWQos) B1 (Ca rfl) rfl (Az h18 (A5 (Az h18 (Cq (c := si b.fWQos) B2 (Ca rfl) rfl (Az h18 (De (v := sb (a.fWQos == b.fWQos)) (fun k => rfl) (Dg h18 (Fp q18 h18) rfl))))))))))
 exact Ay h18 (Ay h18 (Ay h18 (Ay h18 (Ay h18 (Df h18 (Fo q18 h18) rfl)))))
 intro b18 q18
 apply Bv (b18 && (a.fWRetain == b.fWRetain))
 intro b19 q19
 refine Aa (b18) (fun h19 => ?_) fun h19 => ?_
 exact Az h19 (A5 (Az h19 (Cq (c := sb a.fWRetain) B1 (Ca rfl) rfl (Az h19 (A5 (Az h19 (Cq (c := sb b.fWRetain) B2 (Ca rfl) rfl (Az h19 (Ik (v := sb (a.fWRetain == b.fWRetain)) (fun k => rfl) (Dg h19 (Fp q19 h19) rfl))))))))))
 exact Ay h19 (Ay h19 (Ay h19 (Ay h19 (Ay h19 (Df h19 (Fo q19 h19) rfl)))))
 intro b19 q19
 refine A5 (Cq (c := Bt Bp a.fWants) B1 (Ca rfl) rfl (A5 (Cq (c := Bt Bp b.fWants) B2 (Ca rfl) rfl (Ku rfl (Ds (Id _ _ _) (Ds (Id _ _ _) Iq)) (Ab7 (n + 0) (by omega) _ a.fWants b.fWants (by omega)) ?_))))
 apply Bv ((G2 Jv a.fWants b.fWants) && (G2 S2 a.fNames b.fNames))
 intro b20 q20
 refine Aa ((G2 Jv a.fWants b.fWants)) (fun h20 => ?_) fun h20 => ?_
 exact Az h20 (A5 (Az h20 (Cq (c := D6 a.fNames) B1 (Ca rfl) rfl (Az h20 (A5 (Az h20 (Cq (c := D6 b.fNames) B2 (Ca rfl) rfl (Az h20 (Ku rfl (Ds (Id _ _ _) (Ds (Id _ _ _) Iq)) (Adz (n + 0) (by omega) _ a.fNames b.fNames (by omega)) (Dg h20 (Fp q20 h20) rfl))))))))))
 exact Ay h20 (Ay h20 (Ay h20 (Ay h20 (Ay h20 (Df h20 (Fo q20 h20) rfl)))))
 intro b20 q20
 apply Bv (b20 && (G2 eqI a.fCodes b.fCodes))
 intro b21 q21
 refine Aa (b20) (fun h21 => ?_) fun h21 => ?_
 exact Az h21 (A5 (Az h21 (Cq (c := D5 a.fCodes) B1 (Ca rfl) rfl (Az h21 (A5 (Az h21 (Cq (c := D5 b.fCodes) B2 (Ca rfl) rfl (Az h21 (Ku rfl (Ds (Id _ _ _) (Ds (Id _ _ _) Iq)) (Ady (n + 0) (by omega) _ a.fCodes b.fCodes (by omega)) (Dg h21 (Fp q21 h21) rfl))))))))))
 exact Ay h21 (Ay h21 (Ay h21 (Ay h21 (Ay h21 (Df h21 (Fo q21 h21) rfl)))))
 intro b21 q21
 apply Bv (b8 && b15)
 intro b22 q22
 refine Aa (b8) (fun h22 => ?_) fun h22 => ?_
 exact Az h22 (Dg h22 (Fp q22 h22) rfl)
 exact Ay h22 (Df h22 (Fo q22 h22) rfl)
 intro b22 q22
 apply Bv (b22 && b19)
 intro b23 q23
 refine Aa (b22) (fun h23 => ?_) fun h23 => ?_
 exact Az h23 (Dg h23 (Fp q23 h23) rfl)
 exact Ay h23 (Df h23 (Fo q23 h23) rfl)
 intro b23 q23
 apply Bv (b23 && b21)
 intro b24 q24
 refine Aa (b23) (fun h24 => ?_) fun h24 => ?_
 exact Az h24 (Dg h24 (Fp q24 h24) rfl)
 exact Ay h24 (Df h24 (Fo q24 h24) rfl)
 intro b24 q24
 apply Bv (b24 && (a.fCode == b.fCode))
 intro b25 q25
 refine Aa (b24) (fun h25 => ?_) fun h25 => ?_
 exact Az h25 (A5 (Az h25 (Cq (c := si a.fCode) B1 (Ca rfl) rfl (Az h25 (A5 (Az h25 (Cq (c := si b.fCode) B2 (Ca rfl) rfl (Az h25 (De (v := sb (a.fCode == b.fCode)) (fun k => rfl) (Dg h25 (Fp q25 h25) rfl))))))))))
 exact Ay h25 (Ay h25 (Ay h25 (Ay h25 (Ay h25 (Df h25 (Fo q25 h25) rfl)))))
 intro b25 q25
 apply Bv (b25 && (a.fPresent == b.fPresent))
 intro b26 q26
 refine Aa (b25) (fun h26 => ?_) fun h26 => ?_
 exact Az h26 (A5 (Az h26 (Cq (c := sb a.fPresent) B1 (Ca rfl) rfl (Az h26 (A5 (Az h26 (Cq (c := sb b.fPresent) B2 (Ca rfl) rfl (Az h26 (Ik (v := sb (a.fPresent == b.fPresent)) (fun k => rfl) (Dg h26 (Fp q26 h26) rfl))))))))))
 exact Ay h26 (Ay h26 (Ay h26 (Ay h26 (Ay h26 (Df h26 (Fo q26 h26) rfl)))))
 intro b26 q26
 exact Xx (by subst_vars; simp only [Ce, L4, Gy]; ac_rfl)
end
end Go.Proofs.YtlcpigdmekgajaaGreatDoor.Abs
