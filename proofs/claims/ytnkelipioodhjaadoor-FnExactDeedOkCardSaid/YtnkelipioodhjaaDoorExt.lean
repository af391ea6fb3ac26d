/- impl.TextOk, walked: what it answers at every text, under the library's tables. -/
import Derived.Test.YtnkelipioodhjaaDoorChecked
import Derived.Test.YtnkelipioodhjaaDoorFns
import Derived.Test.YtnkelipioodhjaaDoorEnv
import Derived.WalkKit
import Derived.WalkMore
import Derived.Below
import Derived.Shelf.Unicode.ValidAny
import Derived.Lib.TrimUEq
import Derived.Lib.ValidLaws
import Derived.Laws.RangeAny
import Derived.LoopTactic
set_option linter.unusedVariables false
set_option linter.unusedSimpArgs false
namespace Go.Proofs
open Go.RowKit Go.Shelf Go.Lib
def Tryd.laysValid_ren : Go.Shelf.Ren := ⟨fun | 196 => 81 | 259 => 108 | n => n, fun | 9 => 9 | 4 => 4 | 3 => 3 | 5 => 5 | 12 => 12 | 119 => 125 | 0 => 0 | 46 => 129 | 139 => 128 | 138 => 127 | 53 => 143 | n => n, fun | 3 => 0 | 4 => 1 | n => n⟩
theorem Tryd.laysValid : Go.Proofs.Lays.n196 Tryd.prog Tryd.laysValid_ren := {
  mixed := by kernel_rfl
  f196 := Tryd.func81.trans (congrArg some (by kernel_rfl))
  f259 := Tryd.func108.trans (congrArg some (by kernel_rfl))
  t0 := Tryd.underlying0
  a0 := Tryd.isAgg0
  z0 := Tryd.sizeOf0
  v0 := Tryd.zeroValue0
  t3 := Tryd.underlying3
  a3 := Tryd.isAgg3
  z3 := Tryd.sizeOf3
  v3 := Tryd.zeroValue3
  t4 := Tryd.underlying4
  a4 := Tryd.isAgg4
  z4 := Tryd.sizeOf4
  v4 := Tryd.zeroValue4
  t5 := Tryd.underlying5
  a5 := Tryd.isAgg5
  z5 := Tryd.sizeOf5
  v5 := Tryd.zeroValue5
  t9 := Tryd.underlying9
  a9 := Tryd.isAgg9
  z9 := Tryd.sizeOf9
  v9 := Tryd.zeroValue9
  t12 := Tryd.underlying12
  a12 := Tryd.isAgg12
  z12 := Tryd.sizeOf12
  v12 := Tryd.zeroValue12
  t46 := Tryd.underlying129
  a46 := Tryd.isAgg129
  z46 := Tryd.sizeOf129
  v46 := Tryd.zeroValue129
  t53 := Tryd.underlying143
  a53 := Tryd.isAgg143
  z53 := Tryd.sizeOf143
  v53 := Tryd.zeroValue143
  t119 := Tryd.underlying125
  a119 := Tryd.isAgg125
  z119 := Tryd.sizeOf125
  t138 := Tryd.underlying127
  a138 := Tryd.isAgg127
  z138 := Tryd.sizeOf127
  v138 := Tryd.zeroValue127
  t139 := Tryd.underlying128
  a139 := Tryd.isAgg128
  z139 := Tryd.sizeOf128
  v139 := Tryd.zeroValue128
  g3 := by kernel_rfl
  g4 := by kernel_rfl }
namespace YtnkelipioodhjaaDoor.Abs
def noZ : Nat → List UInt8 → Bool
  | 0, _ => true
  | n + 1, l => if l = [] then true else if (Lib.decodeL l).1 = 0 then false else noZ n (l.drop (Lib.decodeL l).2)
def cleanT (s : ByteArray) : Bool := noZ s.size s.data.toList && (Lib.validD s.data.toList && decide (s.size ≤ 60))
/-- The library's tables lie as they are laid. -/
def J0 (w : World) : Prop := Lib.Utf8Tabs (Tryd.laysValid_ren.g 3) (Tryd.laysValid_ren.g 4) w
theorem j0_stays : ∀ w w' : World, J0 w → Below w.heap.size w w' → J0 w' := fun _ _ h hb => Utf8Tabs_below h hb

set_option maxHeartbeats 1000000 in
set_option maxRecDepth 1000000 in
theorem text_walk (s : ByteArray) (w : World) (hs : s.size ≤ 9223372036854775807) (hT : J0 w) :
    Calls Tryd.prog 48 #[.string s] w fun e w' => e = .returned (.bool (cleanT s)) ∧ Below w.heap.size w w' := by
  have cV : ∀ w, J0 w → Calls Tryd.prog 81 #[.string s] w _ := fun w hT => Any.utf8_ValidString Tryd.laysValid s w hs hT
  unfold cleanT
  generalize hV : Lib.validD s.data.toList = V at cV ⊢
  have bel : ∀ pos, Below w.heap.size w (w.iter s pos) := fun pos => (Below.refl _ w).alloc (Nat.le_refl _) _
  go_enter Tryd.func48, Tryd.ntmps48
  go_wp2
  go_loopw [] (fun w' => ∃ (pos b : Nat), w' = w.iter s pos ∧ noZ b (s.data.toList.drop pos) = noZ s.size s.data.toList ∧ s.size ≤ pos + b) (fun w' => s.size - w'.iterPos w.heap.size)
  case atStart => exact ⟨0, s.size, rfl, by simp, by omega⟩
  case round =>
    obtain ⟨pos, b, rfl, hc, hb⟩ := hrel
    by_cases hp : pos < s.size
    · have hnx : ∀ ty, (Instr.next (.pointer (some ⟨w.heap.size, 0, none⟩)) true ty).run Tryd.prog (w.iter s pos) = _ := fun ty => run_next_any w s pos ty hp
      have hdd := Lib.decodeL_drop s pos
      have hwd : 1 ≤ (Utf8.decode s pos).2 := by rw [← hdd]; exact Lib.decodeL_width _
      obtain ⟨b, rfl⟩ : ∃ b', b = b' + 1 := ⟨b - 1, by omega⟩
      have hne : s.data.toList.drop pos ≠ [] := by
        intro h
        have := congrArg List.length h
        simp at this
        omega
      rw [noZ, if_neg hne, hdd] at hc
      by_cases hz : (Utf8.decode s pos).1 = 0
      · rw [if_pos hz] at hc
        have hz' : (((Utf8.decode s pos).1 : Int) == 0) = true := by simp [hz]
        go_wp2
        go_ret
        rw [← hc]
        exact ⟨by simp, bel _⟩
      · rw [if_neg hz, List.drop_drop] at hc
        have hz' : (((Utf8.decode s pos).1 : Int) == 0) = false := by simp; omega
        go_wp2
        go_roundw
        case rel => exact ⟨pos + (Utf8.decode s pos).2, b, rfl, hc, by omega⟩
        case measure =>
          simp
          omega
    · have hnx : ∀ ty, (Instr.next (.pointer (some ⟨w.heap.size, 0, none⟩)) true ty).run Tryd.prog (w.iter s pos) = _ := fun ty => run_next_end w s pos ty hp
      have hnil : s.data.toList.drop pos = [] := by
        apply List.drop_of_length_le
        simp
        omega
      have hc2 : noZ s.size s.data.toList = true := by
        rw [← hc, hnil]
        cases b <;> simp [noZ]
      rw [hc2]
      have cV2 := cV (w.iter s pos) (Utf8Tabs_below hT (bel pos))
      go_wp2_with (go_at_call 81; refine cV2.mono ?_; rintro e w' ⟨rfl, hb2⟩)
      all_goals
        go_ret
        refine ⟨?_, (bel pos).trans (hb2.mono (bel pos).size)⟩
      · simp_all
        omega
      · simp_all

theorem textGo_eq : ∀ (n : Nat) (l : List UInt8), textGo n l = (noZ n l && Lib.validGoD n l)
  | 0, _ => rfl
  | n + 1, l => by
    rw [textGo, noZ, Lib.validGoD, textGo_eq n]
    by_cases h : l = []
    · simp [h]
    · by_cases h1 : (Lib.decodeL l).1 = 65533 ∧ (Lib.decodeL l).2 = 1
      · simp [h, h1]
      · by_cases h2 : (Lib.decodeL l).1 = 0
        · simp [h, h2]
        · simp [h, h1, h2]
theorem clean_eq (s : ByteArray) : cleanT s = vTextOk s := by
  have e : s.data.toList.length = s.size := by simp
  unfold cleanT vTextOk Lib.validD
  rw [textGo_eq, e]
  cases noZ s.size s.data.toList <;> cases Lib.validGoD s.size s.data.toList <;> simp

theorem ext0 : ExtOk Tryd.prog E0 J0 := by
  intro f g hg w hj ty vs us t hl hv ht
  have hf : E0.ext f = if Nat.beq f 48 then some ext48 else none := rfl
  rw [hf] at hg
  split at hg
  case isFalse => cases hg
  rename_i hfe
  obtain rfl := Nat.eq_of_beq_eq_true hfe
  cases hg
  unfold ext48 at ht
  split at ht
  case h_2 => cases ht
  rename_i s
  split at ht
  case isFalse => cases ht
  rename_i hs
  cases ht
  have hm : maxLen = 9223372036854775807 := by decide
  rw [hm] at hs
  rw [VRs] at hv
  obtain ⟨⟨u, hu, hv⟩, _⟩ := hv
  rw [VR] at hv
  subst hv
  match us, hl, hu with
  | [x], _, hu =>
    simp only [List.getElem?_cons_zero, Option.some.injEq] at hu
    subst hu
    refine .inr ⟨enters_of Tryd.func48 (by kernel_rfl) rfl _ _, (text_walk s w hs hj).mono fun e w' ⟨he, hb⟩ => ⟨_, he, noPhi, [], .sc (.bool (vTextOk s)), [], ?_, ?_, rfl, List.nodup_nil⟩⟩
    · refine ⟨hb, ?_, ?_, ?_, ?_⟩
      · intro i k b o sz hi
        cases hi
      · intro i k hi
        cases hi
      · intro i i' k k' b o sz o' sz' hi
        cases hi
      · intro i p hp
        cases hp
    · rw [clean_eq]
      exact VR_sc _ _ _
end YtnkelipioodhjaaDoor.Abs
end Go.Proofs
