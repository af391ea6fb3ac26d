/- What the proof needs, part 3: a sound evaluator over trees, the program's functions on it, and what they come to. -/
import Derived.Test.YtdofipeaomgbbaaGreatDoorMsb
import Derived.Test.YtdofipeaomgbbaaGreatDoorChecked
import Derived.WalkKit
import Derived.WalkMore
import Derived.Below
import Derived.Shelf.Unicode.ValidAny
import Derived.Shelf.Strings.Split
import Derived.Shelf.Vars
import Derived.Lib.TrimUEq
import Derived.Lib.ValidLaws
import Derived.Laws.RangeAny
import Derived.LoopTactic
import Derived.Laws.BitsLemmas
import Derived.Lib.MapLaws
set_option linter.unusedVariables false
set_option linter.unusedSimpArgs false
namespace Go.Proofs
open _root_.Option renaming bind_eq_some_iff → zaa, bind_some → zab, getD_some → za5, map_eq_some_iff → zaN, bind_eq_bind → zaS, pure_def → zbe
open _root_.List renaming getElem?_eq_some_iff → zac, replicate → zad, length_append → zae, getElem?_append_right → zaf, getElem?_append_left → zag, nil_append → zah, append_assoc → zaj, length_singleton → zal, append_nil → zam, length_cons → zao, mem_append_right → zaq, getElem?_eq_getElem → zas, length_nil → zat, mem_append_left → zau, mem_cons_of_mem → zaw, cons_append → zax, mem_cons → zay, map_cons → za0, flatten_append → za1, not_mem_nil → za2, take_length → za3, getElem?_set_ne → za4, mem_cons_self → za6, drop_zero → za7, map_append → za8, replicate_append_replicate → zaA, mem_append → zaB, flatten_cons → zaD, all_eq_true → zaF, nodup_cons → zaG, length_drop → zaH, nodup_append → zaI, mem_range'_1 → zaJ, length_take → zaK, nodup_range' → zaP, take_append_drop → zaR, mapM_cons → zaT, range' → zaV, drop_of_length_le → zaW, getElem?_set_self → zaX, all_cons → zaY, drop_drop → zbb, getElem?_map → zbc, length_set → zbf, take_of_length_le → zbh, drop_eq_getElem_cons → zbj, getElem?_drop → zbk, drop_append_of_le_length → zbn, getElem?_cons_zero → zbo, any_cons → zbt, mem_singleton → zbu, map_nil → zbv, length_map → zb0, Perm → zb1, take_append_of_le_length → zb2, nodup_nil → zb3, length_eq_one_iff → zb5, headD_cons → zb9, drop_left' → zbA, getD_eq_getElem?_getD → zbB, tail_cons → zbC, mem_map → zbE, take_zero → zbF, map_map → zbH
open _root_.Nat renaming le_refl → zai, zero_add → zav, sub_self → zaL, add_assoc → zaO, min_eq_left → zaQ, add_mul → zaU, add_zero → zaZ, eq_of_beq_eq_true → zba, mul_le_mul_right → zbd, add_sub_cancel_left → zbq, one_mul → zbw, beq → zb4, add_comm → zbD, succ_mul → zbG
open _root_.Bool renaming and_eq_true → zak, false_eq_true → zan, eq_iff_iff → zaM
open _root_.Array renaming ext' → zbl, replicate → zby
open _root_.Int renaming natCast_zero → zbg, toNat_natCast → zbi
open Go.RowKit Go.Shelf Go.Lib
def Tryz.laysValid_ren : Go.Shelf.Ren := ⟨fun | 196 => 116 | 259 => 132 | n => n, fun | 9 => 9 | 4 => 4 | 3 => 3 | 5 => 5 | 12 => 12 | 119 => 132 | 0 => 0 | 46 => 127 | 139 => 135 | 138 => 134 | 53 => 144 | n => n, fun | 3 => 0 | 4 => 1 | n => n⟩
theorem Tryz.laysValid : Go.Proofs.Lays.n196 Tryz.prog Tryz.laysValid_ren := {
 mixed := by kernel_rfl
 f196 := Tryz.func116.trans (congrArg some (by kernel_rfl))
 f259 := Tryz.func132.trans (congrArg some (by kernel_rfl))
 t0 := Tryz.underlying0
 a0 := Tryz.isAgg0
 z0 := Tryz.sizeOf0
 v0 := Tryz.zeroValue0
 t3 := Tryz.underlying3
 a3 := Tryz.isAgg3
 z3 := Tryz.sizeOf3
 v3 := Tryz.zeroValue3
 t4 := Tryz.underlying4
 a4 := Tryz.isAgg4
 z4 := Tryz.sizeOf4
 v4 := Tryz.zeroValue4
 t5 := Tryz.underlying5
 a5 := Tryz.isAgg5
 z5 := Tryz.sizeOf5
 v5 := Tryz.zeroValue5
 t9 := Tryz.underlying9
 a9 := Tryz.isAgg9
 z9 := Tryz.sizeOf9
 v9 := Tryz.zeroValue9
 t12 := Tryz.underlying12
 a12 := Tryz.isAgg12
 z12 := Tryz.sizeOf12
 v12 := Tryz.zeroValue12
 t46 := Tryz.underlying127
 a46 := Tryz.isAgg127
 z46 := Tryz.sizeOf127
 v46 := Tryz.zeroValue127
 t53 := Tryz.underlying144
 a53 := Tryz.isAgg144
 z53 := Tryz.sizeOf144
 v53 := Tryz.zeroValue144
 t119 := Tryz.underlying132
 a119 := Tryz.isAgg132
 z119 := Tryz.sizeOf132
 t138 := Tryz.underlying134
 a138 := Tryz.isAgg134
 z138 := Tryz.sizeOf134
 v138 := Tryz.zeroValue134
 t139 := Tryz.underlying135
 a139 := Tryz.isAgg135
 z139 := Tryz.sizeOf135
 v139 := Tryz.zeroValue135
 g3 := by kernel_rfl
 g4 := by kernel_rfl }
def Tryz.laysAny_ren : Go.Shelf.Ren := ⟨fun | 150 => 94 | 153 => 117 | 152 => 133 | 226 => 134 | 227 => 135 | 228 => 136 | 137 => 140 | 119 => 141 | 224 => 142 | 225 => 143 | 217 => 147 | 266 => 152 | n => n, fun | 9 => 9 | 4 => 4 | 3 => 3 | 5 => 5 | 21 => 21 | 117 => 139 | 116 => 138 | 0 => 0 | 46 => 127 | 124 => 148 | n => n, fun | n => n⟩
theorem Tryz.laysAny : Go.Proofs.Lays.n150 Tryz.prog Tryz.laysAny_ren := {
 mixed := by kernel_rfl
 f119 := Tryz.func141.trans (congrArg some (by kernel_rfl))
 f137 := Tryz.func140.trans (congrArg some (by kernel_rfl))
 f150 := Tryz.func94.trans (congrArg some (by kernel_rfl))
 f152 := Tryz.func133.trans (congrArg some (by kernel_rfl))
 f153 := Tryz.func117.trans (congrArg some (by kernel_rfl))
 f217 := Tryz.func147.trans (congrArg some (by kernel_rfl))
 f224 := Tryz.func142.trans (congrArg some (by kernel_rfl))
 f225 := Tryz.func143.trans (congrArg some (by kernel_rfl))
 f226 := Tryz.func134.trans (congrArg some (by kernel_rfl))
 f227 := Tryz.func135.trans (congrArg some (by kernel_rfl))
 f228 := Tryz.func136.trans (congrArg some (by kernel_rfl))
 f266 := Tryz.func152.trans (congrArg some (by kernel_rfl))
 t0 := Tryz.underlying0
 a0 := Tryz.isAgg0
 z0 := Tryz.sizeOf0
 v0 := Tryz.zeroValue0
 t3 := Tryz.underlying3
 a3 := Tryz.isAgg3
 z3 := Tryz.sizeOf3
 v3 := Tryz.zeroValue3
 t4 := Tryz.underlying4
 a4 := Tryz.isAgg4
 z4 := Tryz.sizeOf4
 v4 := Tryz.zeroValue4
 t5 := Tryz.underlying5
 a5 := Tryz.isAgg5
 z5 := Tryz.sizeOf5
 v5 := Tryz.zeroValue5
 t9 := Tryz.underlying9
 a9 := Tryz.isAgg9
 z9 := Tryz.sizeOf9
 v9 := Tryz.zeroValue9
 t21 := Tryz.underlying21
 a21 := Tryz.isAgg21
 z21 := Tryz.sizeOf21
 v21 := Tryz.zeroValue21
 t46 := Tryz.underlying127
 a46 := Tryz.isAgg127
 z46 := Tryz.sizeOf127
 v46 := Tryz.zeroValue127
 t116 := Tryz.underlying138
 a116 := Tryz.isAgg138
 z116 := Tryz.sizeOf138
 t117 := Tryz.underlying139
 a117 := Tryz.isAgg139
 z117 := Tryz.sizeOf139
 v117 := Tryz.zeroValue139
 t124 := Tryz.underlying148
 a124 := Tryz.isAgg148
 z124 := Tryz.sizeOf148
 v124 := Tryz.zeroValue148 }
def Tryz.laysSplit_ren : Go.Shelf.Ren := ⟨fun | 146 => 118 | 221 => 137 | 268 => 144 | 138 => 145 | 143 => 146 | 195 => 148 | 197 => 149 | 218 => 150 | 219 => 151 | 260 => 153 | 217 => 147 | 225 => 143 | 224 => 142 | 267 => 154 | 266 => 152 | 314 => 155 | n => n, fun | 9 => 9 | 31 => 38 | 3 => 3 | 4 => 4 | 0 => 0 | 105 => 150 | 21 => 21 | 5 => 5 | 46 => 127 | 119 => 132 | 139 => 135 | 138 => 134 | 146 => 153 | 51 => 152 | n => n, fun | 1 => 2 | 3 => 0 | 4 => 1 | n => n⟩
theorem Tryz.laysSplit : Go.Proofs.Lays.n146 Tryz.prog Tryz.laysSplit_ren := {
 mixed := by kernel_rfl
 f138 := Tryz.func145.trans (congrArg some (by kernel_rfl))
 f143 := Tryz.func146.trans (congrArg some (by kernel_rfl))
 f146 := Tryz.func118.trans (congrArg some (by kernel_rfl))
 f195 := Tryz.func148.trans (congrArg some (by kernel_rfl))
 f197 := Tryz.func149.trans (congrArg some (by kernel_rfl))
 f217 := Tryz.func147.trans (congrArg some (by kernel_rfl))
 f218 := Tryz.func150.trans (congrArg some (by kernel_rfl))
 f219 := Tryz.func151.trans (congrArg some (by kernel_rfl))
 f221 := Tryz.func137.trans (congrArg some (by kernel_rfl))
 f224 := Tryz.func142.trans (congrArg some (by kernel_rfl))
 f225 := Tryz.func143.trans (congrArg some (by kernel_rfl))
 f260 := Tryz.func153.trans (congrArg some (by kernel_rfl))
 f266 := Tryz.func152.trans (congrArg some (by kernel_rfl))
 f267 := Tryz.func154.trans (congrArg some (by kernel_rfl))
 f268 := Tryz.func144.trans (congrArg some (by kernel_rfl))
 f314 := Tryz.func155.trans (congrArg some (by kernel_rfl))
 t0 := Tryz.underlying0
 a0 := Tryz.isAgg0
 z0 := Tryz.sizeOf0
 v0 := Tryz.zeroValue0
 t3 := Tryz.underlying3
 a3 := Tryz.isAgg3
 z3 := Tryz.sizeOf3
 v3 := Tryz.zeroValue3
 t4 := Tryz.underlying4
 a4 := Tryz.isAgg4
 z4 := Tryz.sizeOf4
 v4 := Tryz.zeroValue4
 t5 := Tryz.underlying5
 a5 := Tryz.isAgg5
 z5 := Tryz.sizeOf5
 v5 := Tryz.zeroValue5
 t9 := Tryz.underlying9
 a9 := Tryz.isAgg9
 z9 := Tryz.sizeOf9
 v9 := Tryz.zeroValue9
 t21 := Tryz.underlying21
 a21 := Tryz.isAgg21
 z21 := Tryz.sizeOf21
 v21 := Tryz.zeroValue21
 t31 := Tryz.underlying38
 a31 := Tryz.isAgg38
 z31 := Tryz.sizeOf38
 v31 := Tryz.zeroValue38
 t46 := Tryz.underlying127
 a46 := Tryz.isAgg127
 z46 := Tryz.sizeOf127
 v46 := Tryz.zeroValue127
 t51 := Tryz.underlying152
 a51 := Tryz.isAgg152
 z51 := Tryz.sizeOf152
 v51 := Tryz.zeroValue152
 t105 := Tryz.underlying150
 a105 := Tryz.isAgg150
 z105 := Tryz.sizeOf150
 v105 := Tryz.zeroValue150
 t119 := Tryz.underlying132
 a119 := Tryz.isAgg132
 z119 := Tryz.sizeOf132
 t138 := Tryz.underlying134
 a138 := Tryz.isAgg134
 z138 := Tryz.sizeOf134
 v138 := Tryz.zeroValue134
 t139 := Tryz.underlying135
 a139 := Tryz.isAgg135
 z139 := Tryz.sizeOf135
 v139 := Tryz.zeroValue135
 t146 := Tryz.underlying153
 a146 := Tryz.isAgg153
 z146 := Tryz.sizeOf153
 v146 := Tryz.zeroValue153
 g1 := by kernel_rfl
 g3 := by kernel_rfl
 g4 := by kernel_rfl }
namespace YtdofipeaomgbbaaGreatDoor.Abs
def noZ : Nat → List UInt8 → Bool
 | 0, _ => true
 | n + 1, l => if l = [] then true else if (Lib.decodeL l).1 = 0 then false else noZ n (l.drop (Lib.decodeL l).2)
def Ur (s : ByteArray) : Bool := noZ s.size s.data.toList && (Lib.validD s.data.toList && decide (s.size ≤ 60))
def JT (w : World) : Prop := Lib.Utf8Tabs (Tryz.laysValid_ren.g 3) (Tryz.laysValid_ren.g 4) w
def J0 (w : World) : Prop := JT w ∧ ∃ m, w.cell? ⟨Tryz.laysSplit_ren.g 1, 0, none⟩ = some (.int .i64 m)
theorem Aec : ∀ w w' : World, JT w → Below w.heap.size w w' → JT w' := fun _ _ h hb => Utf8Tabs_below h hb
theorem Aea : ∀ w w' : World, J0 w → Below w.heap.size w w' → J0 w' := fun w w' h hb => ⟨Aec w w' h.1 hb, by
 obtain ⟨m, hm⟩ := h.2
 have hlt := World.block_lt_of_cell? _ _ hm
 refine ⟨m, ?_⟩
 rw [← hm]
 simp only [World.cell?]
 rw [hb.block _ hlt]⟩
set_option maxHeartbeats 1000000 in
set_option maxRecDepth 1000000 in
theorem AbZ (s : ByteArray) (w : World) (hs : s.size ≤ 9223372036854775807) (hT : JT w) :
  Calls Tryz.prog 93 #[.string s] w fun e w' => e = .returned (.bool (Ur s)) ∧ Below w.heap.size w w' := by
 have cV : ∀ w, JT w → Calls Tryz.prog 116 #[.string s] w _ := fun w hT => Any.utf8_ValidString Tryz.laysValid s w hs hT
 unfold Ur
 generalize hV : Lib.validD s.data.toList = V at cV ⊢
 have bel : ∀ pos, Below w.heap.size w (w.iter s pos) := fun pos => (Below.refl _ w).alloc (zai _) _
 go_enter Tryz.func93, Tryz.ntmps93
 go_wp2
 go_loopw [] (fun w' => ∃ (pos b : Nat), w' = w.iter s pos ∧ noZ b (s.data.toList.drop pos) = noZ s.size s.data.toList ∧ s.size ≤ pos + b) (fun w' => s.size - w'.iterPos w.heap.size)
 case atStart => exact ⟨0, s.size, rfl, by simp, by omega⟩
 case round =>
  obtain ⟨pos, b, rfl, hc, hb⟩ := hrel
  by_cases hp : pos < s.size
  ·have hnx : ∀ ty, (Instr.next (.pointer (some ⟨w.heap.size, 0, none⟩)) true ty).run Tryz.prog (w.iter s pos) = _ := fun ty => run_next_any w s pos ty hp
   have hdd := Lib.decodeL_drop s pos
   have hwd : 1 ≤ (Utf8.decode s pos).2 := by rw [← hdd]; exact Lib.decodeL_width _
   obtain ⟨b, rfl⟩ : ∃ b', b = b' + 1 := ⟨b - 1, by omega⟩
   have hne : s.data.toList.drop pos ≠ [] := by
    intro h
    have := congrArg List.length h
    simp at this
    omega
   rw [noZ, if_neg hne, hdd] at hc
   by_cases hz : (Utf8.decode s pos).1 = 0
   ·rw [if_pos hz] at hc
    have hz' : (((Utf8.decode s pos).1 : Int) == 0) = true := by simp [hz]
    go_wp2
    go_ret
    rw [← hc]
    exact ⟨by simp, bel _⟩
   ·rw [if_neg hz, zbb] at hc
    have hz' : (((Utf8.decode s pos).1 : Int) == 0) = false := by simp; omega
    go_wp2
    go_roundw
    case rel => exact ⟨pos + (Utf8.decode s pos).2, b, rfl, hc, by omega⟩
    case measure =>
     simp
     omega
  ·have hnx : ∀ ty, (Instr.next (.pointer (some ⟨w.heap.size, 0, none⟩)) true ty).run Tryz.prog (w.iter s pos) = _ := fun ty => run_next_end w s pos ty hp
   have hnil : s.data.toList.drop pos = [] := by
    apply zaW
    simp
    omega
   have hc2 : noZ s.size s.data.toList = true := by
    rw [← hc, hnil]
    cases b <;> simp [noZ]
   rw [hc2]
   have cV2 := cV (w.iter s pos) (Utf8Tabs_below hT (bel pos))
   go_wp2_with (go_at_call 116; refine cV2.mono ?_; rintro e w' ⟨rfl, hb2⟩)
   all_goals
    go_ret
    refine ⟨?_, (bel pos).trans (hb2.mono (bel pos).size)⟩
   ·simp_all
    omega
   ·simp_all
theorem Um : ∀ (n : Nat) (l : List UInt8), Mk n l = (noZ n l && Lib.validGoD n l)
 | 0, _ => rfl
 | n + 1, l => by
  rw [Mk, noZ, Lib.validGoD, Um n]
  by_cases h : l = []
  ·simp [h]
  ·by_cases h1 : (Lib.decodeL l).1 = 65533 ∧ (Lib.decodeL l).2 = 1
   ·simp [h, h1]
   ·by_cases h2 : (Lib.decodeL l).1 = 0
    ·simp [h, h2]
    ·simp [h, h1, h2]
theorem Aco (s : ByteArray) : Ur s = D9 s := by
 have e : s.data.toList.length = s.size := by simp
 unfold Ur D9 Lib.validD
 rw [Um, e]
 cases noZ s.size s.data.toList <;> cases Lib.validGoD s.size s.data.toList <;> simp
theorem AjM {c : ByteArray} (h : c.data.toList = [43, 35]) : c = phB := by
 cases c with
 | mk d =>
  have : d = #[43, 35] := by apply zbl; simpa using h
  subst this
  rfl
theorem Ai0 {c : ByteArray} (h : c.data.toList = [47]) : c = Sj := by
 cases c with
 | mk d =>
  have : d = #[47] := by apply zbl; simpa using h
  subst this
  rfl
theorem Aey : (Tryz.prog.info? (Tryz.laysAny_ren.t 116)).map (fun i => (i.zero, i.size)) = some (some (.agg (zby 256 (.bool false))), 256) := by kernel_rfl
theorem hi9 : (Tryz.prog.info? (Tryz.laysSplit_ren.t 9)).map (fun i => (i.zero, i.size, i.bytes)) = some (some (.string ByteArray.empty), 1, 16) := by kernel_rfl
theorem AfG {w w' : World} (hb : Below w.heap.size w w') : HR w Fs w' [] := by
 refine ⟨hb, ?_, ?_, ?_, ?_⟩
 ·intro i k b o sz hi
  cases hi
 ·intro i k hi
  cases hi
 ·intro i i' k k' b o sz o' sz' hi
  cases hi
 ·intro i p hp
  cases hp
theorem Z9 {w w' : World} (hb : Below w.heap.size w w') (ty : Nat) (v : Value) : ∃ φ' Hc x ids, HR w φ' w' Hc ∧ VR w φ' x v ∧ B0 E0.ti E0.tp Hc 8 ty x = some (.sc v, ids) ∧ ids.Nodup :=
 ⟨Fs, [], .sc v, [], AfG hb, Fh _ _ _, rfl, zb3⟩
theorem W0 {ti : Nat → Option TI} {tp : Nat → Option (List Nat)} {H : Ab} {d : Nat} : ∀ (ts : List Nat) (l : List Value), ts.length = l.length → Ce (B0 ti tp H (d + 1)) ts (l.map AV.sc) = some (l.map AV.sc, [])
 | [], [], _ => rfl
 | t :: ts, v :: l, h => by
  have ih := W0 (ti := ti) (tp := tp) (H := H) (d := d) ts l (by simpa using h)
  simp only [za0, Ce, ih, zab]
  rfl
theorem Agf {ti : Nat → Option TI} {tp : Nat → Option (List Nat)} {H : Ab} {d ty id off n z : Nat} : B0 ti tp H (d + 1) ty (.sl id off n z) = (ti ty).bind fun i => (ti i.elem).bind fun j => if z = j.size then (if E7 H id then (A3 H id off (n * z)).bind fun cs => (Ce (B0 ti tp H d) (zad n j.cty).flatten cs).bind fun q => some (.ro n q.1, id :: q.2) else none) else none := rfl
theorem Acr (w : World) (l : List ByteArray) (e : TypeId) : ∃ φ' Hc x ids, HR w φ' (w.alloc (.cells (l.map Value.string).toArray e)) Hc ∧ VR w φ' x (.slice (some ⟨w.heap.size, 0, none⟩) l.length l.length) ∧
  B0 E0.ti E0.tp Hc 8 38 x = some (.ro l.length (l.map fun s => .sc (.string s)), ids) ∧ ids.Nodup := by
 have hcs : VRs w Fs ((l.map Value.string).map AV.sc) (fun j => (l.map Value.string).toArray[0 + j]?) := by
  rw [Dc]
  intro j x hj
  rw [zbc] at hj
  obtain ⟨v, hv, rfl⟩ := zaN.1 hj
  exact ⟨v, by simpa using hv, Fh _ _ _⟩
 obtain ⟨h1, h2⟩ := (HR.start w).alloc (Ev w (.cells (l.map Value.string).toArray e)) (b := w.heap.size) (o := 0) (k := ⟨(l.map Value.string).map AV.sc, true, true⟩) (zai _) (Ko w _) (by simp) (fun _ => rfl) (.inl rfl) hcs
 refine ⟨_, _, .sl 0 0 l.length 1, [0], h1, ?_, ?_, by simp⟩
 ·rw [VR]
  refine .inr ⟨w.heap.size, 0, _, Em _ _ _, .inr ⟨l.length, zai _, rfl, ?_⟩⟩
  simp
 ·rw [Agf]
  have hr : A3 ([] ++ [⟨(l.map Value.string).map AV.sc, true, true⟩]) 0 0 (l.length * 1) = some ((l.map Value.string).map AV.sc) := by
   simp [A3, zbh]
  have e1 : E0.ti 38 = Aq 38 := rfl
  obtain ⟨i, j, hi, hj, hz, hc⟩ : ∃ i j, Aq 38 = some i ∧ Aq i.elem = some j ∧ j.size = 1 ∧ j.cty = [i.elem] := ⟨_, _, rfl, rfl, rfl, rfl⟩
  simp only [e1, hi, zab, show E0.ti i.elem = some j from hj, hz, if_true, hr, hc]
  have ho := W0 (ti := E0.ti) (tp := E0.tp) (H := [] ++ [⟨(l.map Value.string).map AV.sc, true, true⟩]) (d := 6) (zad l.length [i.elem]).flatten (l.map Value.string) (by simp)
  rw [ho]
  have ha : E7 ([] ++ [(⟨(l.map Value.string).map AV.sc, true, true⟩ : Gh)]) 0 = true := rfl
  rw [if_pos ha]
  simp [zbH]
theorem Aci (s : ByteArray) (w : World) (hs : s.size < 4294967281) : Calls Tryz.prog 94 #[.string s, .string phB] w fun e w' => e = .returned (.bool (vPH s)) ∧ Below w.heap.size w w' :=
 V8 Tryz.laysAny (zero_of_info Aey).1 (zero_of_info Aey).2 s w hs
theorem Zs (s : ByteArray) (w : World) (hs : s.size < 4294967281) (hm : ∃ m, w.cell? ⟨Tryz.laysSplit_ren.g 1, 0, none⟩ = some (.int .i64 m)) : Calls Tryz.prog 118 #[.string s, .string Sj] w fun e w' =>
  e = .returned (.slice (some ⟨w.heap.size, 0, none⟩) (Ed s).length (Ed s).length) ∧ w' = w.alloc (.cells ((Ed s).map Value.string).toArray (Tryz.laysSplit_ren.t 9)) := by
 obtain ⟨m, hm⟩ := hm
 have h := Any.strings_Split Tryz.laysSplit hi9 s Sj m w hs hm (zai _)
 rw [Ow, ← Za] at h
 exact h
theorem Agb {w : World} {x : Value} {us : List Value} (hl : us.length = 1) (hv : VRs w Fs [.sc x] (fun j => us[j]?)) : us = [x] := by
 match us, hl with
 | [y], _ =>
  rw [VRs] at hv
  obtain ⟨⟨u, hu, hv⟩, _⟩ := hv
  rw [VR] at hv
  simp at hu
  rw [hu, hv]
theorem Xn {w : World} {x y : Value} {us : List Value} (hl : us.length = 2) (hv : VRs w Fs [.sc x, .sc y] (fun j => us[j]?)) : us = [x, y] := by
 match us, hl with
 | [a, b], _ =>
  rw [VRs, VRs] at hv
  obtain ⟨⟨u, hu, hv⟩, ⟨u2, hu2, hv2⟩, _⟩ := hv
  rw [VR] at hv hv2
  simp at hu hu2
  rw [hu, hv, hu2, hv2]
theorem Akp : Ag0 Tryz.prog E0 J0 := by
 intro f g hg w hj ty vs us t hl hv ht
 have hf : E0.ext f = if zb4 f 93 then some Z8 else if zb4 f 94 then some Wc else if zb4 f 118 then some Pb else none := rfl
 rw [hf] at hg
 split at hg
 ·rename_i hfe
  obtain rfl := zba hfe
  cases hg
  unfold Z8 at ht
  split at ht
  case h_2 => cases ht
  rename_i s
  split at ht
  case isFalse => cases ht
  rename_i hs
  cases ht
  have hm : maxLen = 9223372036854775807 := by decide
  rw [hm] at hs
  obtain rfl := Agb hl hv
  refine .inr ⟨enters_of Tryz.func93 (by kernel_rfl) rfl _ _, (AbZ s w hs hj.1).mono fun e w' ⟨he, hb⟩ => ⟨_, he, ?_⟩⟩
  rw [Aco]
  exact Z9 hb _ _
 split at hg
 ·rename_i hfe
  obtain rfl := zba hfe
  cases hg
  unfold Wc at ht
  split at ht
  case h_2 => cases ht
  rename_i s c
  split at ht
  case isFalse => cases ht
  rename_i hs
  cases ht
  obtain rfl := Xn hl hv
  obtain ⟨hc, hs⟩ := hs
  obtain rfl := AjM hc
  exact .inr ⟨enters_of Tryz.func94 (by kernel_rfl) rfl _ _, (Aci s w hs).mono fun e w' ⟨he, hb⟩ => ⟨_, he, Z9 hb _ _⟩⟩
 split at hg
 ·rename_i hfe
  obtain rfl := zba hfe
  cases hg
  unfold Pb at ht
  split at ht
  case h_2 => cases ht
  rename_i s c
  split at ht
  case isFalse => cases ht
  rename_i hs
  cases ht
  obtain rfl := Xn hl hv
  obtain ⟨rfl, hc, hs⟩ := hs
  obtain rfl := Ai0 hc
  exact .inr ⟨enters_of Tryz.func118 (by kernel_rfl) rfl _ _, (Zs s w hs hj.2).mono fun e w' ⟨he, hw⟩ => ⟨_, he, by subst hw; exact Acr w (Ed s) _⟩⟩
 ·cases hg
end YtdofipeaomgbbaaGreatDoor.Abs
end Go.Proofs
set_option linter.unusedVariables false
set_option linter.unusedSimpArgs false
set_option maxRecDepth 100000
namespace Go.Proofs.YtdofipeaomgbbaaGreatDoor.Abs
open _root_.Option renaming bind_eq_some_iff → zaa, bind_some → zab, getD_some → za5, map_eq_some_iff → zaN, bind_eq_bind → zaS, pure_def → zbe
open _root_.List renaming getElem?_eq_some_iff → zac, replicate → zad, length_append → zae, getElem?_append_right → zaf, getElem?_append_left → zag, nil_append → zah, append_assoc → zaj, length_singleton → zal, append_nil → zam, length_cons → zao, mem_append_right → zaq, getElem?_eq_getElem → zas, length_nil → zat, mem_append_left → zau, mem_cons_of_mem → zaw, cons_append → zax, mem_cons → zay, map_cons → za0, flatten_append → za1, not_mem_nil → za2, take_length → za3, getElem?_set_ne → za4, mem_cons_self → za6, drop_zero → za7, map_append → za8, replicate_append_replicate → zaA, mem_append → zaB, flatten_cons → zaD, all_eq_true → zaF, nodup_cons → zaG, length_drop → zaH, nodup_append → zaI, mem_range'_1 → zaJ, length_take → zaK, nodup_range' → zaP, take_append_drop → zaR, mapM_cons → zaT, range' → zaV, drop_of_length_le → zaW, getElem?_set_self → zaX, all_cons → zaY, drop_drop → zbb, getElem?_map → zbc, length_set → zbf, take_of_length_le → zbh, drop_eq_getElem_cons → zbj, getElem?_drop → zbk, drop_append_of_le_length → zbn, getElem?_cons_zero → zbo, any_cons → zbt, mem_singleton → zbu, map_nil → zbv, length_map → zb0, Perm → zb1, take_append_of_le_length → zb2, nodup_nil → zb3, length_eq_one_iff → zb5, headD_cons → zb9, drop_left' → zbA, getD_eq_getElem?_getD → zbB, tail_cons → zbC, mem_map → zbE, take_zero → zbF, map_map → zbH
open _root_.Nat renaming le_refl → zai, zero_add → zav, sub_self → zaL, add_assoc → zaO, min_eq_left → zaQ, add_mul → zaU, add_zero → zaZ, eq_of_beq_eq_true → zba, mul_le_mul_right → zbd, add_sub_cancel_left → zbq, one_mul → zbw, beq → zb4, add_comm → zbD, succ_mul → zbG
open _root_.Bool renaming and_eq_true → zak, false_eq_true → zan, eq_iff_iff → zaM
open _root_.Array renaming ext' → zbl, replicate → zby
open _root_.Int renaming natCast_zero → zbg, toNat_natCast → zbi
section
open Go
theorem AjQ : Ae4 Tryz.prog 0 tis = true := by kernel_rfl
theorem AiB : AdK E0 fss = true := by kernel_rfl
theorem Ae5 : H8 Tryz.prog Aq := by
 intro t i h
 unfold Aq at h
 cases hl : tis[t]? with
 | none => rw [hl] at h; cases h
 | some o =>
  rw [hl] at h
  simp only [za5] at h
  subst h
  simpa using (Vn tis 0 t i AjQ hl).1
theorem AiA : ∀ t i, Aq t = some i → i.ik = some .u8 → i.size = 1 := by
 intro t i h
 unfold Aq at h
 cases hl : tis[t]? with
 | none => rw [hl] at h; cases h
 | some o =>
  rw [hl] at h
  simp only [za5] at h
  subst h
  exact (Vn tis 0 t i AjQ hl).2
def FnQ (n : Nat) (c : Code) (t : Nat) (f : Func) : Prop := ∃ fn, Tryz.prog.funcs[n]? = some fn ∧ (fn.name == "runtime.NumGoroutine") = false ∧ fn.body = some c ∧ fn.ntmps = t ∧ fn.results.toList = f.results.toList
theorem Fn {c : Code} {t : Nat} {f : Func} {o : List (Nat × PI)} {i : En} {n : Nat} (e : some (some (⟨c, t, f.results.toList, o⟩ : En)) = some (some i)) (h : FnQ n c t f) : ∃ fn, Tryz.prog.funcs[n]? = some fn ∧ (fn.name == "runtime.NumGoroutine") = false ∧ fn.body = some i.body ∧ fn.ntmps = i.ntmps ∧ fn.results.toList = i.results := by cases e; exact h
theorem Ajw : ∀ (f : Nat) (i : En), f < 140 → fss[f]? = some (some i) → ∃ fn, Tryz.prog.funcs[f]? = some fn ∧ (fn.name == "runtime.NumGoroutine") = false ∧ fn.body = some i.body ∧ fn.ntmps = i.ntmps ∧ fn.results.toList = i.results
 | 0, i, _, h => nomatch Option.some.inj h
 | 1, i, _, h => nomatch Option.some.inj h
 | 2, i, _, h => nomatch Option.some.inj h
 | 3, i, _, h => nomatch Option.some.inj h
 | 4, i, _, h => nomatch Option.some.inj h
 | 5, i, _, h => Fn (f := Tryz.f5) h ⟨_, Tryz.func5, by kernel_rfl, by kernel_rfl, rfl, rfl⟩
 | 6, i, _, h => nomatch Option.some.inj h
 | 7, i, _, h => Fn (f := Tryz.f7) h ⟨_, Tryz.func7, by kernel_rfl, by kernel_rfl, rfl, rfl⟩
 | 8, i, _, h => nomatch Option.some.inj h
 | 9, i, _, h => nomatch Option.some.inj h
 | 10, i, _, h => Fn (f := Tryz.f10) h ⟨_, Tryz.func10, by kernel_rfl, by kernel_rfl, rfl, rfl⟩
 | 11, i, _, h => Fn (f := Tryz.f11) h ⟨_, Tryz.func11, by kernel_rfl, by kernel_rfl, rfl, rfl⟩
 | 12, i, _, h => nomatch Option.some.inj h
 | 13, i, _, h => nomatch Option.some.inj h
 | 14, i, _, h => nomatch Option.some.inj h
 | 15, i, _, h => nomatch Option.some.inj h
 | 16, i, _, h => Fn (f := Tryz.f16) h ⟨_, Tryz.func16, by kernel_rfl, by kernel_rfl, rfl, rfl⟩
 | 17, i, _, h => nomatch Option.some.inj h
 | 18, i, _, h => nomatch Option.some.inj h
 | 19, i, _, h => Fn (f := Tryz.f19) h ⟨_, Tryz.func19, by kernel_rfl, by kernel_rfl, rfl, rfl⟩
 | 20, i, _, h => nomatch Option.some.inj h
 | 21, i, _, h => nomatch Option.some.inj h
 | 22, i, _, h => nomatch Option.some.inj h
 | 23, i, _, h => nomatch Option.some.inj h
 | 24, i, _, h => Fn (f := Tryz.f24) h ⟨_, Tryz.func24, by kernel_rfl, by kernel_rfl, rfl, rfl⟩
 | 25, i, _, h => nomatch Option.some.inj h
 | 26, i, _, h => nomatch Option.some.inj h
 | 27, i, _, h => Fn (f := Tryz.f27) h ⟨_, Tryz.func27, by kernel_rfl, by kernel_rfl, rfl, rfl⟩
 | 28, i, _, h => Fn (f := Tryz.f28) h ⟨_, Tryz.func28, by kernel_rfl, by kernel_rfl, rfl, rfl⟩
 | 29, i, _, h => Fn (f := Tryz.f29) h ⟨_, Tryz.func29, by kernel_rfl, by kernel_rfl, rfl, rfl⟩
 | 30, i, _, h => Fn (f := Tryz.f30) h ⟨_, Tryz.func30, by kernel_rfl, by kernel_rfl, rfl, rfl⟩
 | 31, i, _, h => Fn (f := Tryz.f31) h ⟨_, Tryz.func31, by kernel_rfl, by kernel_rfl, rfl, rfl⟩
 | 32, i, _, h => Fn (f := Tryz.f32) h ⟨_, Tryz.func32, by kernel_rfl, by kernel_rfl, rfl, rfl⟩
 | 33, i, _, h => Fn (f := Tryz.f33) h ⟨_, Tryz.func33, by kernel_rfl, by kernel_rfl, rfl, rfl⟩
 | 34, i, _, h => Fn (f := Tryz.f34) h ⟨_, Tryz.func34, by kernel_rfl, by kernel_rfl, rfl, rfl⟩
 | 35, i, _, h => Fn (f := Tryz.f35) h ⟨_, Tryz.func35, by kernel_rfl, by kernel_rfl, rfl, rfl⟩
 | 36, i, _, h => nomatch Option.some.inj h
 | 37, i, _, h => nomatch Option.some.inj h
 | 38, i, _, h => nomatch Option.some.inj h
 | 39, i, _, h => Fn (f := Tryz.f39) h ⟨_, Tryz.func39, by kernel_rfl, by kernel_rfl, rfl, rfl⟩
 | 40, i, _, h => Fn (f := Tryz.f40) h ⟨_, Tryz.func40, by kernel_rfl, by kernel_rfl, rfl, rfl⟩
 | 41, i, _, h => Fn (f := Tryz.f41) h ⟨_, Tryz.func41, by kernel_rfl, by kernel_rfl, rfl, rfl⟩
 | 42, i, _, h => nomatch Option.some.inj h
 | 43, i, _, h => nomatch Option.some.inj h
 | 44, i, _, h => Fn (f := Tryz.f44) h ⟨_, Tryz.func44, by kernel_rfl, by kernel_rfl, rfl, rfl⟩
 | 45, i, _, h => Fn (f := Tryz.f45) h ⟨_, Tryz.func45, by kernel_rfl, by kernel_rfl, rfl, rfl⟩
 | 46, i, _, h => Fn (f := Tryz.f46) h ⟨_, Tryz.func46, by kernel_rfl, by kernel_rfl, rfl, rfl⟩
 | 47, i, _, h => Fn (f := Tryz.f47) h ⟨_, Tryz.func47, by kernel_rfl, by kernel_rfl, rfl, rfl⟩
 | 48, i, _, h => Fn (f := Tryz.f48) h ⟨_, Tryz.func48, by kernel_rfl, by kernel_rfl, rfl, rfl⟩
 | 49, i, _, h => Fn (f := Tryz.f49) h ⟨_, Tryz.func49, by kernel_rfl, by kernel_rfl, rfl, rfl⟩
 | 50, i, _, h => Fn (f := Tryz.f50) h ⟨_, Tryz.func50, by kernel_rfl, by kernel_rfl, rfl, rfl⟩
 | 51, i, _, h => Fn (f := Tryz.f51) h ⟨_, Tryz.func51, by kernel_rfl, by kernel_rfl, rfl, rfl⟩
 | 52, i, _, h => Fn (f := Tryz.f52) h ⟨_, Tryz.func52, by kernel_rfl, by kernel_rfl, rfl, rfl⟩
 | 53, i, _, h => Fn (f := Tryz.f53) h ⟨_, Tryz.func53, by kernel_rfl, by kernel_rfl, rfl, rfl⟩
 | 54, i, _, h => nomatch Option.some.inj h
 | 55, i, _, h => nomatch Option.some.inj h
 | 56, i, _, h => Fn (f := Tryz.f56) h ⟨_, Tryz.func56, by kernel_rfl, by kernel_rfl, rfl, rfl⟩
 | 57, i, _, h => Fn (f := Tryz.f57) h ⟨_, Tryz.func57, by kernel_rfl, by kernel_rfl, rfl, rfl⟩
 | 58, i, _, h => nomatch Option.some.inj h
 | 59, i, _, h => Fn (f := Tryz.f59) h ⟨_, Tryz.func59, by kernel_rfl, by kernel_rfl, rfl, rfl⟩
 | 60, i, _, h => Fn (f := Tryz.f60) h ⟨_, Tryz.func60, by kernel_rfl, by kernel_rfl, rfl, rfl⟩
 | 61, i, _, h => Fn (f := Tryz.f61) h ⟨_, Tryz.func61, by kernel_rfl, by kernel_rfl, rfl, rfl⟩
 | 62, i, _, h => Fn (f := Tryz.f62) h ⟨_, Tryz.func62, by kernel_rfl, by kernel_rfl, rfl, rfl⟩
 | 63, i, _, h => nomatch Option.some.inj h
 | 64, i, _, h => Fn (f := Tryz.f64) h ⟨_, Tryz.func64, by kernel_rfl, by kernel_rfl, rfl, rfl⟩
 | 65, i, _, h => Fn (f := Tryz.f65) h ⟨_, Tryz.func65, by kernel_rfl, by kernel_rfl, rfl, rfl⟩
 | 66, i, _, h => Fn (f := Tryz.f66) h ⟨_, Tryz.func66, by kernel_rfl, by kernel_rfl, rfl, rfl⟩
 | 67, i, _, h => nomatch Option.some.inj h
 | 68, i, _, h => Fn (f := Tryz.f68) h ⟨_, Tryz.func68, by kernel_rfl, by kernel_rfl, rfl, rfl⟩
 | 69, i, _, h => nomatch Option.some.inj h
 | 70, i, _, h => nomatch Option.some.inj h
 | 71, i, _, h => nomatch Option.some.inj h
 | 72, i, _, h => nomatch Option.some.inj h
 | 73, i, _, h => Fn (f := Tryz.f73) h ⟨_, Tryz.func73, by kernel_rfl, by kernel_rfl, rfl, rfl⟩
 | 74, i, _, h => Fn (f := Tryz.f74) h ⟨_, Tryz.func74, by kernel_rfl, by kernel_rfl, rfl, rfl⟩
 | 75, i, _, h => Fn (f := Tryz.f75) h ⟨_, Tryz.func75, by kernel_rfl, by kernel_rfl, rfl, rfl⟩
 | 76, i, _, h => Fn (f := Tryz.f76) h ⟨_, Tryz.func76, by kernel_rfl, by kernel_rfl, rfl, rfl⟩
 | 77, i, _, h => Fn (f := Tryz.f77) h ⟨_, Tryz.func77, by kernel_rfl, by kernel_rfl, rfl, rfl⟩
 | 78, i, _, h => Fn (f := Tryz.f78) h ⟨_, Tryz.func78, by kernel_rfl, by kernel_rfl, rfl, rfl⟩
 | 79, i, _, h => nomatch Option.some.inj h
 | 80, i, _, h => Fn (f := Tryz.f80) h ⟨_, Tryz.func80, by kernel_rfl, by kernel_rfl, rfl, rfl⟩
 | 81, i, _, h => Fn (f := Tryz.f81) h ⟨_, Tryz.func81, by kernel_rfl, by kernel_rfl, rfl, rfl⟩
 | 82, i, _, h => Fn (f := Tryz.f82) h ⟨_, Tryz.func82, by kernel_rfl, by kernel_rfl, rfl, rfl⟩
 | 83, i, _, h => Fn (f := Tryz.f83) h ⟨_, Tryz.func83, by kernel_rfl, by kernel_rfl, rfl, rfl⟩
 | 84, i, _, h => nomatch Option.some.inj h
 | 85, i, _, h => nomatch Option.some.inj h
 | 86, i, _, h => Fn (f := Tryz.f86) h ⟨_, Tryz.func86, by kernel_rfl, by kernel_rfl, rfl, rfl⟩
 | 87, i, _, h => Fn (f := Tryz.f87) h ⟨_, Tryz.func87, by kernel_rfl, by kernel_rfl, rfl, rfl⟩
 | 88, i, _, h => Fn (f := Tryz.f88) h ⟨_, Tryz.func88, by kernel_rfl, by kernel_rfl, rfl, rfl⟩
 | 89, i, _, h => Fn (f := Tryz.f89) h ⟨_, Tryz.func89, by kernel_rfl, by kernel_rfl, rfl, rfl⟩
 | 90, i, _, h => Fn (f := Tryz.f90) h ⟨_, Tryz.func90, by kernel_rfl, by kernel_rfl, rfl, rfl⟩
 | 91, i, _, h => Fn (f := Tryz.f91) h ⟨_, Tryz.func91, by kernel_rfl, by kernel_rfl, rfl, rfl⟩
 | 92, i, _, h => Fn (f := Tryz.f92) h ⟨_, Tryz.func92, by kernel_rfl, by kernel_rfl, rfl, rfl⟩
 | 93, i, _, h => nomatch Option.some.inj h
 | 94, i, _, h => nomatch Option.some.inj h
 | 95, i, _, h => Fn (f := Tryz.f95) h ⟨_, Tryz.func95, by kernel_rfl, by kernel_rfl, rfl, rfl⟩
 | 96, i, _, h => nomatch Option.some.inj h
 | 97, i, _, h => Fn (f := Tryz.f97) h ⟨_, Tryz.func97, by kernel_rfl, by kernel_rfl, rfl, rfl⟩
 | 98, i, _, h => Fn (f := Tryz.f98) h ⟨_, Tryz.func98, by kernel_rfl, by kernel_rfl, rfl, rfl⟩
 | 99, i, _, h => Fn (f := Tryz.f99) h ⟨_, Tryz.func99, by kernel_rfl, by kernel_rfl, rfl, rfl⟩
 | 100, i, _, h => Fn (f := Tryz.f100) h ⟨_, Tryz.func100, by kernel_rfl, by kernel_rfl, rfl, rfl⟩
 | 101, i, _, h => Fn (f := Tryz.f101) h ⟨_, Tryz.func101, by kernel_rfl, by kernel_rfl, rfl, rfl⟩
 | 102, i, _, h => Fn (f := Tryz.f102) h ⟨_, Tryz.func102, by kernel_rfl, by kernel_rfl, rfl, rfl⟩
 | 103, i, _, h => Fn (f := Tryz.f103) h ⟨_, Tryz.func103, by kernel_rfl, by kernel_rfl, rfl, rfl⟩
 | 104, i, _, h => Fn (f := Tryz.f104) h ⟨_, Tryz.func104, by kernel_rfl, by kernel_rfl, rfl, rfl⟩
 | 105, i, _, h => Fn (f := Tryz.f105) h ⟨_, Tryz.func105, by kernel_rfl, by kernel_rfl, rfl, rfl⟩
 | 106, i, _, h => Fn (f := Tryz.f106) h ⟨_, Tryz.func106, by kernel_rfl, by kernel_rfl, rfl, rfl⟩
 | 107, i, _, h => Fn (f := Tryz.f107) h ⟨_, Tryz.func107, by kernel_rfl, by kernel_rfl, rfl, rfl⟩
 | 108, i, _, h => Fn (f := Tryz.f108) h ⟨_, Tryz.func108, by kernel_rfl, by kernel_rfl, rfl, rfl⟩
 | 109, i, _, h => Fn (f := Tryz.f109) h ⟨_, Tryz.func109, by kernel_rfl, by kernel_rfl, rfl, rfl⟩
 | 110, i, _, h => nomatch Option.some.inj h
 | 111, i, _, h => Fn (f := Tryz.f111) h ⟨_, Tryz.func111, by kernel_rfl, by kernel_rfl, rfl, rfl⟩
 | 112, i, _, h => Fn (f := Tryz.f112) h ⟨_, Tryz.func112, by kernel_rfl, by kernel_rfl, rfl, rfl⟩
 | 113, i, _, h => Fn (f := Tryz.f113) h ⟨_, Tryz.func113, by kernel_rfl, by kernel_rfl, rfl, rfl⟩
 | 114, i, _, h => Fn (f := Tryz.f114) h ⟨_, Tryz.func114, by kernel_rfl, by kernel_rfl, rfl, rfl⟩
 | 115, i, _, h => Fn (f := Tryz.f115) h ⟨_, Tryz.func115, by kernel_rfl, by kernel_rfl, rfl, rfl⟩
 | 116, i, _, h => nomatch Option.some.inj h
 | 117, i, _, h => nomatch Option.some.inj h
 | 118, i, _, h => nomatch Option.some.inj h
 | 119, i, _, h => nomatch Option.some.inj h
 | 120, i, _, h => Fn (f := Tryz.f120) h ⟨_, Tryz.func120, by kernel_rfl, by kernel_rfl, rfl, rfl⟩
 | 121, i, _, h => Fn (f := Tryz.f121) h ⟨_, Tryz.func121, by kernel_rfl, by kernel_rfl, rfl, rfl⟩
 | 122, i, _, h => Fn (f := Tryz.f122) h ⟨_, Tryz.func122, by kernel_rfl, by kernel_rfl, rfl, rfl⟩
 | 123, i, _, h => Fn (f := Tryz.f123) h ⟨_, Tryz.func123, by kernel_rfl, by kernel_rfl, rfl, rfl⟩
 | 124, i, _, h => Fn (f := Tryz.f124) h ⟨_, Tryz.func124, by kernel_rfl, by kernel_rfl, rfl, rfl⟩
 | 125, i, _, h => Fn (f := Tryz.f125) h ⟨_, Tryz.func125, by kernel_rfl, by kernel_rfl, rfl, rfl⟩
 | 126, i, _, h => Fn (f := Tryz.f126) h ⟨_, Tryz.func126, by kernel_rfl, by kernel_rfl, rfl, rfl⟩
 | 127, i, _, h => nomatch Option.some.inj h
 | 128, i, _, h => Fn (f := Tryz.f128) h ⟨_, Tryz.func128, by kernel_rfl, by kernel_rfl, rfl, rfl⟩
 | 129, i, _, h => Fn (f := Tryz.f129) h ⟨_, Tryz.func129, by kernel_rfl, by kernel_rfl, rfl, rfl⟩
 | 130, i, _, h => Fn (f := Tryz.f130) h ⟨_, Tryz.func130, by kernel_rfl, by kernel_rfl, rfl, rfl⟩
 | 131, i, _, h => Fn (f := Tryz.f131) h ⟨_, Tryz.func131, by kernel_rfl, by kernel_rfl, rfl, rfl⟩
 | 132, i, _, h => nomatch Option.some.inj h
 | 133, i, _, h => nomatch Option.some.inj h
 | 134, i, _, h => nomatch Option.some.inj h
 | 135, i, _, h => nomatch Option.some.inj h
 | 136, i, _, h => nomatch Option.some.inj h
 | 137, i, _, h => nomatch Option.some.inj h
 | 138, i, _, h => Fn (f := Tryz.f138) h ⟨_, Tryz.func138, by kernel_rfl, by kernel_rfl, rfl, rfl⟩
 | 139, i, _, h => Fn (f := Tryz.f139) h ⟨_, Tryz.func139, by kernel_rfl, by kernel_rfl, rfl, rfl⟩
 | n + 140, i, hlt, h => by omega
theorem Akq : ∀ f i, E0.fs f = some i → AgV Tryz.prog E0 f i := by
 intro f i h
 have hl : fss[f]? = some (some i) := by
  have h : (fss[f]?).getD none = some i := h
  cases hl : fss[f]? with
  | none => rw [hl] at h; cases h
  | some o => rw [hl] at h; simp only [za5] at h; rw [h]
 refine ⟨?_, Aao AiB hl⟩
 have hlt : f < 140 := (zac.1 hl).1
 exact Ajw f i hlt hl
theorem Akn : Vt Tryz.prog E0 J0 := ⟨Ae5, AiA, by kernel_rfl, Akq, Akp, (fun f q h => by cases h), Aea⟩
end
section
open Go
variable {β : Type} {n : Nat}
section
variable {k : KO β} {k1 : AV → Option β} {H : Ab}
@[simp] theorem A5 : (PR n β).load = C6 := rfl
@[simp] theorem Bf : (PR n β).store = D7 := rfl
@[simp] theorem Cj : (PR n β).new = Je := rfl
@[simp] theorem C4 : (PR n β).box = Ol := rfl
@[simp] theorem Bh : (PR n β).newSl = E9 := rfl
@[simp] theorem Br : (PR n β).fadr = Eb := rfl
@[simp] theorem AgW : (PR n β).fld = Aer := rfl
@[simp] theorem Bx : (PR n β).iadr = Es := rfl
@[simp] theorem Du : (PR n β).idx = AbP := rfl
@[simp] theorem C2 : (PR n β).lenS = Uc := rfl
@[simp] theorem Bw : (PR n β).len = On := rfl
@[simp] theorem Cc : (PR n β).sliceS = Mw := rfl
@[simp] theorem Cw : (PR n β).slice = Iv := rfl
@[simp] theorem Cp : (PR n β).app = G4 := rfl
@[simp] theorem AeG : (PR n β).appS = W6 := rfl
@[simp] theorem Ba : (PR n β).bin = E8 := rfl
@[simp] theorem Db : (PR n β).binB = Oj := rfl
@[simp] theorem Da : (PR n β).binA = Oi := rfl
@[simp] theorem Ea : (PR n β).un = pUn := rfl
@[simp] theorem B7 : (PR n β).pick = M6 := rfl
@[simp] theorem Di : (PR n β).cvI = W7 := rfl
@[simp] theorem AeH : (PR n β).cvSS = Aa6 := rfl
@[simp] theorem Dh : (PR n β).cvBS = Ua := rfl
@[simp] theorem Zz : (PR n β).cvSB = Ub := rfl
@[simp] theorem K3 : (PR n β).extr = Om := rfl
@[simp] theorem Xt : (PR n β).nil = Aes := rfl
@[simp] theorem Bj : (PR n β).fill = fun a l k => (Ek a l).bind k := rfl
@[simp] theorem Dn : (PR n β).make = W8 := rfl
@[simp] theorem Bs : (PR n β).guard = Hi := rfl
@[simp] theorem A0 : (PR n β).cond = G5 := rfl
@[simp] theorem Ace : (PR n β).clear = Pq := rfl
@[simp] theorem Zy : (PR n β).both = Mg := rfl
@[simp] theorem Acd : (PR n β).apart = R9 := rfl
@[simp] theorem AeI : (PR n β).same = Sb := rfl
theorem Te : ((PR n β).load = C6) ∧ ((PR n β).store = D7) ∧ ((PR n β).new = Je) ∧ ((PR n β).box = Ol) ∧ ((PR n β).newSl = E9) ∧ ((PR n β).fadr = Eb) ∧ ((PR n β).fld = Aer) ∧ ((PR n β).iadr = Es) ∧ ((PR n β).idx = AbP) ∧ ((PR n β).lenS = Uc) ∧ ((PR n β).len = On) ∧ ((PR n β).sliceS = Mw) ∧ ((PR n β).slice = Iv) ∧ ((PR n β).app = G4) ∧ ((PR n β).appS = W6) ∧ ((PR n β).bin = E8) ∧ ((PR n β).binB = Oj) ∧ ((PR n β).binA = Oi) ∧ ((PR n β).un = pUn) ∧ ((PR n β).pick = M6) ∧ ((PR n β).cvI = W7) ∧ ((PR n β).cvSS = Aa6) ∧ ((PR n β).cvBS = Ua) ∧ ((PR n β).cvSB = Ub) ∧ ((PR n β).extr = Om) ∧ ((PR n β).nil = Aes) ∧ ((PR n β).fill = fun a l k => (Ek a l).bind k) ∧ ((PR n β).make = W8) ∧ ((PR n β).guard = Hi) ∧ ((PR n β).cond = G5) ∧ ((PR n β).clear = Pq) ∧ ((PR n β).both = Mg) ∧ ((PR n β).apart = R9) ∧ ((PR n β).same = Sb) := ⟨rfl, rfl, rfl, rfl, rfl, rfl, rfl, rfl, rfl, rfl, rfl, rfl, rfl, rfl, rfl, rfl, rfl, rfl, rfl, rfl, rfl, rfl, rfl, rfl, rfl, rfl, rfl, rfl, rfl, rfl, rfl, rfl, rfl, rfl⟩
theorem Td : (∀ (p : Pr β) (c : AV) (H : Ab) (m : (AV → Option β) → Option β) k, p.gT c H m k = p.guard c true H (fun k' => m fun t' => k' t' H) k) ∧ (∀ (p : Pr β) (c : AV) (H : Ab) (m : (KO β) → Option β) k, p.hT c H m k = p.guard c true H (fun k' => m fun t' H => k' t' H) k) ∧ (∀ (p : Pr β) (c : AV) (H : Ab) (v : AV) k, p.kT c H v k = p.guard c true H (fun k' => k' v H) k) ∧ (∀ (p : Pr β) (c : AV) (H : Ab) (m : (AV → Option β) → Option β) k, p.gF c H m k = p.guard c false H (fun k' => m fun t' => k' t' H) k) ∧ (∀ (p : Pr β) (c : AV) (H : Ab) (m : (KO β) → Option β) k, p.hF c H m k = p.guard c false H (fun k' => m fun t' H => k' t' H) k) ∧ (∀ (p : Pr β) (c : AV) (H : Ab) (v : AV) k, p.kF c H v k = p.guard c false H (fun k' => k' v H) k) ∧ (∀ (p : Pr β) i t n H k, p.fl i t n H k = p.fadr i t fun x => p.load false n x H k) ∧ (∀ (p : Pr β) i t n v H k, p.fs i t n v H k = p.fadr i t fun x => p.store n x v H k) ∧ (∀ (p : Pr β) y f l H k, p.ca y f l H k = p.call y (.fn f [] []) l H k) ∧ (∀ (p : Pr β) c H i t n k, p.lT c H i t n k = p.guard c true H (fun k' => p.fadr i t fun x => k' x H) fun x H => p.guard c true H (fun k' => p.load false n x H fun x => k' x H) k) ∧ (∀ (p : Pr β) c H i t n k, p.lF c H i t n k = p.guard c false H (fun k' => p.fadr i t fun x => k' x H) fun x H => p.guard c false H (fun k' => p.load false n x H fun x => k' x H) k) := ⟨fun _ _ _ _ _ => rfl, fun _ _ _ _ _ => rfl, fun _ _ _ _ _ => rfl, fun _ _ _ _ _ => rfl, fun _ _ _ _ _ => rfl, fun _ _ _ _ _ => rfl, fun _ _ _ _ _ _ => rfl, fun _ _ _ _ _ _ _ => rfl, fun _ _ _ _ _ _ => rfl, fun _ _ _ _ _ _ _ => rfl, fun _ _ _ _ _ _ _ => rfl⟩
noncomputable def Fz (f : Nat) : Bool := E0.hm f || (E0.ext f).isSome
theorem Xb {f : Nat} (h : Fz f = false) : E0.hm f = false := by
 unfold Fz at h
 simp only [Bool.or_eq_false_iff] at h
 exact h.1
theorem Ud {f : Nat} (h : Fz f = false) : E0.ext f = none := by
 unfold Fz at h
 simp only [Bool.or_eq_false_iff] at h
 simpa using h.2
theorem Fe {ty : Nat} {f : FuncId} {args vs : List AV} {t : AV} (hh : Fz f = false) (hv : args.mapM (Dm H 8) = some vs) (ht : C1 E0 n ty f vs = some t) :
  (PR n β).call ty (.fn f [] []) args H k = k (Bp Aq E0.tp H.length ty t).1 (H ++ (Bp Aq E0.tp H.length ty t).2) := by
 show J4 E0 (Dd E0 n) ty f ([] ++ args ++ []) H k = _
 simp only [J4, Ud hh, Xb hh, zah, zam, zan, if_false, V5, hv, zab]
 have ht : Pw E0 (Dd E0 n) ty f vs = some t := ht
 rw [ht]
 rfl
theorem Acf {ty : Nat} {f : FuncId} {g : Nat → List AV → Option AV} {args vs : List AV} {t : AV} (hg : E0.ext f = some g) (hv : args.mapM (Dm H 8) = some vs) (ht : g ty vs = some t) :
  (PR n β).call ty (.fn f [] []) args H k = k (Bp Aq E0.tp H.length ty t).1 (H ++ (Bp Aq E0.tp H.length ty t).2) := by
 show J4 E0 (Dd E0 n) ty f ([] ++ args ++ []) H k = _
 simp only [J4, hg, zah, zam, Z5, hv, zab, ht]
 rfl
end
theorem A6 (n ty : Nat) (f : FuncId) (args : List AV) : C1 E0 n ty f args = Dd E0 n AV f args [] fun x H => A4 Aq E0.tp ty H x := rfl
@[simp] theorem Aix {ti : Nat → Option TI} {tp : Nat → Option (List Nat)} (ty : Nat) (H : Ab) (v : Value) : A4 ti tp ty H (.sc v) = some (.sc v) := rfl
theorem Fj {ti : Nat → Option TI} {tp : Nat → Option (List Nat)} {H : Ab} {d ty id off n z : Nat} : B0 ti tp H (d + 1) ty (.sl id off n z) = (ti ty).bind fun i => (ti i.elem).bind fun j => if z = j.size then (if E7 H id then (A3 H id off (n * z)).bind fun cs => (Ce (B0 ti tp H d) (zad n j.cty).flatten cs).bind fun q => some (.ro n q.1, id :: q.2) else none) else none := rfl
theorem Ee {ti : Nat → Option TI} {tp : Nat → Option (List Nat)} {H : Ab} {d ty : Nat} {cs : List AV} : B0 ti tp H (d + 1) ty (.agg cs) = (ti ty).bind fun i => (Ce (B0 ti tp H d) i.cty cs).bind fun q => some (.agg q.1, q.2) := rfl
theorem Fy {ti : Nat → Option TI} {tp : Nat → Option (List Nat)} {H : Ab} {d ty : Nat} {cs : List AV} : B0 ti tp H (d + 1) ty (.tup cs) = (tp ty).bind fun ts => (Ce (B0 ti tp H d) ts cs).bind fun q => some (.tup q.1, q.2) := rfl
theorem G7 {ti : Nat → Option TI} {tp : Nat → Option (List Nat)} {H : Ab} {d ty : Nat} {v : Value} : B0 ti tp H (d + 1) ty (.sc v) = some (.sc v, []) := rfl
theorem G3 {ti : Nat → Option TI} {tp : Nat → Option (List Nat)} {n ty : Nat} {v : Value} : Bp ti tp n ty (.sc v) = (.sc v, []) := rfl
theorem Ge {ti : Nat → Option TI} {tp : Nat → Option (List Nat)} {n ty : Nat} {cs : List AV} : Bp ti tp n ty (.agg cs) = (.agg (Bz ti tp n ((ti ty).getD default).cty cs).1, (Bz ti tp n ((ti ty).getD default).cty cs).2) := rfl
theorem Pg {ti : Nat → Option TI} {tp : Nat → Option (List Nat)} {n ty : Nat} {cs : List AV} : Bp ti tp n ty (.tup cs) = (.tup (Bz ti tp n ((tp ty).getD []) cs).1, (Bz ti tp n ((tp ty).getD []) cs).2) := rfl
theorem O3 {H : Ab} {d id off n z : Nat} : Dm H (d + 1) (.sl id off n z) = (A3 H id off (n * z)).bind fun cs => (cs.mapM (Dm H d)).bind fun vs => some (.ro n vs) := rfl
theorem M1 {H : Ab} {d : Nat} {cs : List AV} : Dm H (d + 1) (.agg cs) = (cs.mapM (Dm H d)).bind fun vs => some (.agg vs) := rfl
theorem Aaw {H : Ab} {d : Nat} : ∀ (l : List Value), (l.map AV.sc).mapM (Dm H (d + 1)) = some (l.map AV.sc)
 | [] => rfl
 | x :: l => by
  have e : Dm H (d + 1) (.sc x) = some (.sc x) := rfl
  simp only [za0, zaT, e, zbe, zaS, zab, Aaw l]
theorem Vg {ti : Nat → Option TI} {tp : Nat → Option (List Nat)} {H : Ab} {d : Nat} : ∀ (ts : List Nat) (l : List Value), ts.length = l.length → Ce (B0 ti tp H (d + 1)) ts (l.map AV.sc) = some (l.map AV.sc, [])
 | [], [], _ => rfl
 | t :: ts, x :: l, h => by
  have e : B0 ti tp H (d + 1) t (.sc x) = some (.sc x, []) := rfl
  simp only [za0, Ce, e, zab, Vg ts l (by simpa using h), zam]
 | [], _ :: _, h => by simp at h
 | _ :: _, [], h => by simp at h
theorem N9 {ti : Nat → Option TI} {tp : Nat → Option (List Nat)} {n : Nat} : ∀ (ts : List Nat) (l : List Value), Bz ti tp n ts (l.map AV.sc) = (l.map AV.sc, [])
 | ts, [] => rfl
 | ts, x :: l => by
  simp only [za0, Bz, Bp, N9 _ l, zah]
def bv (s : ByteArray) : List Value := s.data.toList.map fun b => .int .u8 b.toNat
theorem Jn (s : ByteArray) : Bk s = (bv s).map AV.sc := by simp [Bk, bv]
theorem AgY (s : ByteArray) : (bv s).length = s.size := by simp [bv]
theorem E4 (s : ByteArray) : (Bk s).length = s.size := by simp [Bk]
theorem Uq (s : ByteArray) : (Bk s).all Ap = true := by
 simp only [Bk, List.all_map, zaF]
 intro b _
 rfl
theorem Ns : ∀ (l : List UInt8), (l.map fun b => AV.sc (.int .u8 (b.toNat : Int))).mapM Nc = some l
 | [] => rfl
 | b :: l => by
  have e : Nc (.sc (.int .u8 (b.toNat : Int))) = some b := by simp [Nc]
  simp only [za0, zaT, e, Ns l, zbe, zaS, zab]
end
section
open Go
section gen
variable {ti : Nat → Option TI} {tp : Nat → Option (List Nat)}
def Eh (f : Nat → AV → Prop) : List Nat → List AV → Prop
 | [], [] => True
 | t :: ts, x :: xs => f t x ∧ Eh f ts xs
 | _, _ => False
def Gj (ti : Nat → Option TI) (tp : Nat → Option (List Nat)) : Nat → Nat → AV → Prop
 | 0, _, _ => False
 | d + 1, ty, x =>
  match x with
  | .sc _ => True
  | .ro n cells => ∃ i j, ti ty = some i ∧ ti i.elem = some j ∧ cells.length = n * j.size ∧ Eh (Gj ti tp d) (zad n j.cty).flatten cells
  | .agg cs => ∃ i, ti ty = some i ∧ Eh (Gj ti tp d) i.cty cs
  | .tup cs => ∃ ts, tp ty = some ts ∧ Eh (Gj ti tp d) ts cs
  | _ => False
theorem Ww {f : Nat → AV → Prop} : ∀ {ts : List Nat} {cs : List AV}, Eh f ts cs → ts.length = cs.length
 | [], [], _ => rfl
 | _ :: ts, _ :: cs, h => by rw [zao, zao, Ww h.2]
theorem Gn {f : Nat → AV → Prop} : ∀ {ts : List Nat} {cs : List AV} {ts' : List Nat} {cs' : List AV}, Eh f ts cs → Eh f ts' cs' → Eh f (ts ++ ts') (cs ++ cs')
 | [], [], _, _, _, h => h
 | _ :: ts, _ :: cs, _, _, h, h' => ⟨h.1, Gn h.2 h'⟩
theorem Mt {α : Type} {f : Nat → AV → Prop} {cty : List Nat} {enc : α → List AV} : ∀ (l : List α), (∀ x ∈ l, Eh f cty (enc x)) → Eh f (zad l.length cty).flatten (l.map enc).flatten
 | [], _ => by simp [Eh]
 | x :: l, h => by
  rw [zao, List.replicate_succ, zaD, za0, zaD]
  exact Gn (h x za6) (Mt l fun y hy => h y (zaw _ hy))
theorem Id {H : Ab} {d : Nat} (hd : ∀ ty t N, Gj ti tp d ty t → Lies H N (Bp ti tp N ty t).2 → (∀ b ∈ (Bp ti tp N ty t).2, b.live = true ∧ b.app = true) → B0 ti tp H d ty (Bp ti tp N ty t).1 = some (t, zaV N (Bp ti tp N ty t).2.length)) :
  ∀ (ts : List Nat) (cs : List AV) (N : Nat), Eh (Gj ti tp d) ts cs → Lies H N (Bz ti tp N ts cs).2 → (∀ b ∈ (Bz ti tp N ts cs).2, b.live = true ∧ b.app = true) → Ce (B0 ti tp H d) ts (Bz ti tp N ts cs).1 = some (cs, zaV N (Bz ti tp N ts cs).2.length)
 | [], [], N, _, _, _ => rfl
 | t :: ts, x :: cs, N, h, hl, hb => by
  simp only [Bz, zb9, zbC] at hl hb ⊢
  have h1 := hd t x N h.1 hl.left fun b hb' => hb b (zau _ hb')
  have h2 := Id hd ts cs _ h.2 hl.right fun b hb' => hb b (zaq _ hb')
  have e := List.range'_append (s := N) (m := (Bp ti tp N t x).2.length) (n := (Bz ti tp (N + (Bp ti tp N t x).2.length) ts cs).2.length) (step := 1)
  rw [zbw] at e
  simp only [Ce, h1, h2, zab, zae, e]
mutual
theorem AbH : ∀ (x : AV) (N ty : Nat), ∀ b ∈ (Bp ti tp N ty x).2, b.live = true ∧ b.app = true
 | .sc v, N, ty => by intro b h; cases h
 | .ro n cells, N, ty => by
  intro b h
  simp only [Bp, zay] at h
  rcases h with rfl | h
  ·exact ⟨rfl, rfl⟩
  ·exact Er cells _ _ b h
 | .agg cs, N, ty => fun b h => Er cs _ _ b h
 | .tup cs, N, ty => fun b h => Er cs _ _ b h
 | .any, N, ty => by intro b h; cases h
 | .nl, N, ty => by intro b h; cases h
 | .sl .., N, ty => by intro b h; cases h
 | .ptr .., N, ty => by intro b h; cases h
 | .rp .., N, ty => by intro b h; cases h
 | .fn .., N, ty => by intro b h; cases h
theorem Er : ∀ (cs : List AV) (N : Nat) (ts : List Nat), ∀ b ∈ (Bz ti tp N ts cs).2, b.live = true ∧ b.app = true
 | [], N, ts => by intro b h; cases h
 | x :: cs, N, ts => by
  intro b h
  simp only [Bz, zaB] at h
  rcases h with h | h
  ·exact AbH x _ _ b h
  ·exact Er cs _ _ b h
end
theorem Fk {H : Ab} : ∀ (d ty : Nat) (t : AV) (N : Nat), Gj ti tp d ty t → Lies H N (Bp ti tp N ty t).2 → B0 ti tp H d ty (Bp ti tp N ty t).1 = some (t, zaV N (Bp ti tp N ty t).2.length)
 | 0, _, _, _, h, _ => by cases h
 | d + 1, ty, t, N, h, hl => by
  have ih := Id (H := H) (d := d) (ti := ti) (tp := tp) (fun ty t N h h' _ => Fk d ty t N h h')
  cases t with
  | sc v => rfl
  | ro n cells =>
   obtain ⟨i, j, h1, h2, h3, h4⟩ := h
   have e : Bp ti tp N ty (.ro n cells) = (.sl N 0 n j.size, ⟨(Bz ti tp (N + 1) (zad n j.cty).flatten cells).1, true, true⟩ :: (Bz ti tp (N + 1) (zad n j.cty).flatten cells).2) := by
    simp only [Bp, h1, zab, h2, za5]
   rw [e] at hl ⊢
   have hb := hl 0 _ rfl
   rw [zaZ] at hb
   have hv := ih (zad n j.cty).flatten cells (N + 1) h4 hl.tail (Er _ _ _)
   have hlen := Jh (ti := ti) (tp := tp) (N + 1) (zad n j.cty).flatten cells
   have e2 : A3 H N 0 (n * j.size) = some (Bz ti tp (N + 1) (zad n j.cty).flatten cells).1 := by
    simp only [A3, hb, if_true, za7, zav]
    rw [if_pos (by rw [hlen, h3]; exact zai _), ← h3, ← hlen, za3]
   have e3 : E7 H N = true := by simp only [E7, hb]
   rw [Fj]
   simp only [h1, h2, zab, if_true, e2, e3, hv, zao]
   rw [List.range'_succ]
  | agg cs =>
   obtain ⟨i, h1, h2⟩ := h
   have e : Bp ti tp N ty (.agg cs) = (.agg (Bz ti tp N i.cty cs).1, (Bz ti tp N i.cty cs).2) := by rw [Ge, h1]; rfl
   rw [e] at hl ⊢
   rw [Ee]
   simp only [h1, zab, ih i.cty cs N h2 hl (Er _ _ _)]
  | tup cs =>
   obtain ⟨ts, h1, h2⟩ := h
   have e : Bp ti tp N ty (.tup cs) = (.tup (Bz ti tp N ts cs).1, (Bz ti tp N ts cs).2) := by rw [Pg, h1]; rfl
   rw [e] at hl ⊢
   rw [Fy]
   simp only [h1, zab, ih ts cs N h2 hl (Er _ _ _)]
  | _ => cases h
theorem K2 (A B X : List Gh) : Lies (A ++ B ++ X) A.length B := fun j b hj => by
 have hlt := (zac.1 hj).1
 rw [zaj, zaf (by omega), zbq, zag hlt]
 exact hj
theorem Jk (A B : List Gh) : Lies (A ++ B) A.length B := by
 have := K2 A B []
 rwa [zam] at this
theorem Age (A : List Gh) (ty : Nat) (t : AV) (h : Gj ti tp 8 ty t) : A4 ti tp ty (A ++ (Bp ti tp A.length ty t).2) (Bp ti tp A.length ty t).1 = some t := by
 rw [A4, Fk 8 ty t A.length h (Jk _ _)]
 simp only [zab]
 rw [if_pos (zaP)]
def Vw (H : Ab) (x v : AV) : Prop := ∀ X : List Gh, Dm (H ++ X) 8 x = some v
theorem Vw.grow {H : Ab} {x v : AV} (h : Vw H x v) (X : List Gh) : Vw (H ++ X) x v := fun Y => by
 rw [zaj]
 exact h _
theorem Vw.now {H : Ab} {x v : AV} (h : Vw H x v) : Dm H 8 x = some v := by
 have := h []
 rwa [zam] at this
theorem Cu (H : Ab) (v : Value) : Vw H (.sc v) (.sc v) := fun _ => rfl
theorem Gk (H : Ab) (n : Nat) (cs : List AV) : Vw H (.ro n cs) (.ro n cs) := fun _ => rfl
def Ip : AV → Bool
 | .sc v => Ku v
 | .ro _ _ => true
 | _ => false
theorem Nz {cs : List AV} (h : cs.all Ip = true) : cs.all Ap = true := by
 rw [zaF] at h ⊢
 intro x hx
 have := h x hx
 cases x <;> simp_all [Ip, Ap]
theorem Rh {cs : List AV} (h : cs.all Ip = true) : Cq (.agg cs) = some cs := by
 show (if cs.all Ap then some cs else none) = _
 rw [if_pos (Nz h)]
theorem Qr {H : Ab} {d : Nat} : ∀ {cs : List AV}, cs.all Ip = true → cs.mapM (Dm H (d + 1)) = some cs
 | [], _ => rfl
 | x :: cs, h => by
  rw [zaY, zak] at h
  have e : Dm H (d + 1) x = some x := by
   have := h.1
   cases x <;> first | rfl | (exfalso; simp [Ip] at this)
  simp only [zaT, e, Qr h.2, zbe, zaS, zab]
theorem Fo (H : Ab) {cs : List AV} (h : cs.all Ip = true) : Vw H (.agg cs) (.agg cs) := fun X => by
 rw [M1, Qr h]
 rfl
theorem Jp : ∀ (cs : List AV) (N : Nat) (ts : List Nat), cs.all Ip = true → (Bz ti tp N ts cs).1.all Ap = true
 | [], _, _, _ => rfl
 | x :: cs, N, ts, h => by
  rw [zaY, zak] at h
  simp only [Bz, zaY, zak]
  refine ⟨?_, Jp cs _ _ h.2⟩
  have := h.1
  cases x <;> first | exact this | rfl | (exfalso; simp [Ip] at this)
end gen
section ops
variable {β : Type}
theorem Qs (w len : Nat) (cells : List AV) (i : Nat) (k : AV → Option β) (h : i < len) (h2 : i * w < cells.length) : Es w (.ro len cells) (.sc (.int .i64 i)) k = k (.rp (cells.drop (i * w))) := by
 simp only [Es, Xz, zab, zbi]
 rw [if_pos ⟨by omega, by omega⟩, if_pos h2]
theorem AfH (w len id off : Nat) (i : Nat) (k : AV → Option β) (h : i < len) : Es w (.sl id off len w) (.sc (.int .i64 i)) k = k (.ptr id (off + i * w)) := by
 simp only [Es, Xz, zab, zbi, if_true]
 rw [if_pos ⟨by omega, by omega⟩]
theorem Tw (w : Nat) (cs r : List AV) (H : Ab) (k : AV → Option β) (h : cs.length = w) : C6 true w (.rp (cs ++ r)) H k = k (.agg cs) := by
 simp only [C6, zae, h, Nat.le_add_right, if_true, List.take_left' h]
theorem Nm (c : AV) (r : List AV) (H : Ab) (k : AV → Option β) : C6 false 1 (.rp (c :: r)) H k = k c := by
 simp only [C6, zao, Nat.le_add_left, if_true, zan, if_false]
 rfl
theorem Fl (w id off : Nat) (y : AV) (b : Gh) (cs : List AV) (H : Ab) (k : Ab → Option β) (h : H[id]? = some b) (hc : Cq y = some cs) (hl : cs.length = w) (ho : off + w ≤ b.cells.length) (hb : b.live = true) : D7 w (.ptr id off) y H k = k (H.set id { b with cells := Cf b.cells off cs }) := by
 simp only [D7, h, hc, zab, hb, if_true, hl, ho]
theorem Ej (a b : Nat) (k : AV → Option β) : E8 .lss (.sc (.int .i64 a)) (.sc (.int .i64 b)) k = k (.sc (.bool (decide (a < b)))) := by
 show k (.sc (.bool (decide ((a : Int) < (b : Int))))) = _
 rw [show decide ((a : Int) < (b : Int)) = decide (a < b) from by simp]
theorem Ff (a : Nat) (k : AV → Option β) (h : a < 9223372036854775807) : E8 .add (.sc (.int .i64 a)) (.sc (.int .i64 1)) k = k (.sc (.int .i64 (a + 1 : Nat))) := by
 show k (.sc (.int .i64 (IntKind.i64.wrap ((a : Int) + 1)))) = _
 have e : IntKind.i64.wrap ((a : Int) + 1) = ((a + 1 : Nat) : Int) := by
  rw [IntKind.wrap_i64, Int.natCast_add]
  simp only [Int.cast_ofNat_Int]
  omega
 rw [e]
theorem Ef (b : Bool) (x y : Option β) : G5 (.sc (.bool b)) x y = if b then x else y := rfl
theorem Y9 (n : Nat) (cs : List AV) (k : AV → Option β) : On (.ro n cs) k = k (.sc (.int .i64 n)) := rfl
theorem Fd (n : Int) (h0 : -9223372036854775808 ≤ n) (h1 : n ≤ 9223372036854775807) : IntKind.i64.wrap n = n := by
 rw [IntKind.wrap_i64]; omega
theorem Sw (a b : Int) (k : AV → Option β) (h0 : -9223372036854775808 ≤ a - b) (h1 : a - b ≤ 9223372036854775807) : E8 .sub (.sc (.int .i64 a)) (.sc (.int .i64 b)) k = k (.sc (.int .i64 (a - b))) := by
 show k (.sc (.int .i64 (IntKind.i64.wrap (a - b)))) = _
 rw [Fd _ h0 h1]
theorem Aau (a b : Int) (k : AV → Option β) : E8 .lss (.sc (.int .i64 a)) (.sc (.int .i64 b)) k = k (.sc (.bool (decide (a < b)))) := rfl
theorem To {α : Type} {w : Nat} {enc : α → List AV} (hw : ∀ x, (enc x).length = w) (pre r : List α) : ((pre ++ r).map enc).flatten.drop (pre.length * w) = (r.map enc).flatten := by
 have hl : ((pre.map enc).flatten).length = pre.length * w := by
  induction pre with
  | nil => simp
  | cons x pre ih => rw [za0, zaD, zae, ih, hw, zao, zbG, zbD]
 rw [za8, za1, zbn (by omega), ← hl, List.drop_length, zah]
theorem Fa {α : Type} {w : Nat} {enc : α → List AV} (hw : ∀ x, (enc x).length = w) (l : List α) : ((l.map enc).flatten).length = l.length * w := by
 induction l with
 | nil => simp
 | cons x l ih => rw [za0, zaD, zae, ih, hw, zao, zbG, zbD]
theorem M4 {α : Type} {w : Nat} {enc : α → List AV} (hw : ∀ x, (enc x).length = w) (h0 : 0 < w) (pre : List α) (x : α) (r : List α) (k : AV → Option β) :
  Es w (.ro (pre ++ x :: r).length ((pre ++ x :: r).map enc).flatten) (.sc (.int .i64 pre.length)) k = k (.rp (enc x ++ (r.map enc).flatten)) := by
 have hl := Fa hw (pre ++ x :: r)
 have h1 : pre.length < (pre ++ x :: r).length := by simp
 rw [Qs w _ _ pre.length k h1 (by rw [hl]; exact Nat.mul_lt_mul_of_pos_right h1 h0), To hw pre (x :: r), za0, zaD]
def Ft {α : Type} (wt : α → Nat) : List α → Nat
 | [] => 0
 | x :: l => 1 + wt x + Ft wt l
def wtS {α : Type} (wt : α → Nat) : List α → Nat
 | [] => 0
 | x :: l => wt x + wtS wt l
theorem Kl {α : Type} (wt : α → Nat) : ∀ l : List α, Ft wt l = l.length + wtS wt l
 | [] => rfl
 | x :: l => by rw [Ft, wtS, Kl wt l, zao]; omega
theorem O5 {α : Type} {wt : α → Nat} : ∀ {l : List α} {x : α}, x ∈ l → wt x ≤ wtS wt l
 | y :: l, x, h => by
  rw [wtS]
  rcases zay.1 h with rfl | h
  ·omega
  ·have := O5 (wt := wt) h
   omega
end ops
end
section
open Go
variable {β : Type} {n : Nat}
theorem K6 (cs : List AV) (H : Ab) (k : KO β) (h : cs.all Ip = true) : Ol (.agg cs) H k = k (.ptr H.length 0) (H ++ [⟨cs, true, true⟩]) := by
 rw [Ol, Rh h]
 rfl
theorem ldT {m id off : Nat} {H : Ab} {cs : List AV} (h : A3 H id off m = some cs) (k : AV → Option β) : C6 true m (.ptr id off) H k = k (.agg cs) := by
 simp only [C6, h, zab, if_true]
theorem ldF {id off : Nat} {H : Ab} {c : AV} (h : A3 H id off 1 = some [c]) (k : AV → Option β) : C6 false 1 (.ptr id off) H k = k c := by
 simp only [C6, h, zab, zan, if_false, one]
abbrev Bt (s : ByteArray) : AV := .ro s.size (Bk s)
abbrev Df (l : List Int) : AV := .ro l.length (l.map fun z => .sc (.int .i64 z))
abbrev Mj (l : List ByteArray) : AV := .ro l.length (l.map fun s => .sc (.string s))
abbrev Am {α : Type} (enc : α → List AV) (l : List α) : AV := .ro l.length (l.map enc).flatten
def Ct (z : Int) : Prop := -9223372036854775808 ≤ z ∧ z ≤ 9223372036854775807
def Iq (s : ByteArray) : Prop := s.size ≤ 9223372036854775807
theorem T2 {f : Nat → AV → Prop} {α : Type} (e : α → Value) (hf : ∀ t v, f t (.sc v)) : ∀ (ts : List Nat) (l : List α), ts.length = l.length → Eh f ts (l.map fun x => .sc (e x))
 | [], [], _ => trivial
 | t :: ts, x :: l, h => ⟨hf _ _, T2 e hf ts l (by simpa using h)⟩
 | [], _ :: _, h => by simp at h
 | _ :: _, [], h => by simp at h
theorem R5 {α : Type} {ty d : Nat} (e : α → Value) (hty : ∃ i j, Aq ty = some i ∧ Aq i.elem = some j ∧ j.size = 1 ∧ j.cty.length = 1) (l : List α) : Gj Aq E0.tp (d + 2) ty (.ro l.length (l.map fun x => .sc (e x))) := by
 obtain ⟨i, j, h1, h2, h3, h4⟩ := hty
 exact ⟨i, j, h1, h2, by simp [h3], T2 e (fun _ _ => trivial) _ l (by simp [h4])⟩
theorem Pn {d ty : Nat} (hty : ∃ i j, Aq ty = some i ∧ Aq i.elem = some j ∧ j.size = 1 ∧ j.cty.length = 1) (s : ByteArray) : Gj Aq E0.tp (d + 2) ty (Bt s) := by
 have := R5 (d := d) (fun b : UInt8 => .int .u8 b.toNat) hty s.data.toList
 have e : s.data.toList.length = s.size := by simp
 rw [e] at this
 exact this
theorem Gp {α : Type} {ty d w : Nat} {cty : List Nat} {enc : α → List AV} (hw : ∀ x, (enc x).length = w) (hty : ∃ i j, Aq ty = some i ∧ Aq i.elem = some j ∧ j.size = w ∧ j.cty = cty) (he : ∀ x, Eh (Gj Aq E0.tp d) cty (enc x)) (l : List α) : Gj Aq E0.tp (d + 1) ty (Am enc l) := by
 obtain ⟨i, j, h1, h2, h3, rfl⟩ := hty
 exact ⟨i, j, h1, h2, by rw [Fa hw, h3], Mt l fun x _ => he x⟩
theorem Ael {α : Type} {enc : α → List AV} {ok : α → Prop} {n t e : Nat} {cs : List AV} (hi : ∃ i, Aq t = some i ∧ i.isB = false ∧ i.ik = none ∧ i.isStr = false ∧ i.sl = true ∧ i.elem = e) (hel : ∀ n cs, okT Aq n e cs → ∃ x, cs = enc x ∧ ok x) (h : okT Aq n t cs) :
  ∃ l : List α, cs = [Am enc l] ∧ l.length ≤ 9223372036854775807 ∧ ∀ x ∈ l, ok x := by
 cases n with
 | zero => cases h
 | succ n =>
  obtain ⟨i, h1, h2, h3, h4, h5, rfl⟩ := hi
  obtain ⟨i', hi', h⟩ := h
  rw [h1] at hi'
  obtain rfl := Option.some.inj hi'
  simp only [h2, h3, h4, h5] at h
  obtain ⟨rows, rfl, hl, hr⟩ := h
  have hm : maxLen = 9223372036854775807 := by decide
  rw [hm] at hl
  have key : ∀ rows : List (List AV), (∀ r ∈ rows, okT Aq n i.elem r) → ∃ l : List α, rows = l.map enc ∧ ∀ x ∈ l, ok x := by
   intro rows
   induction rows with
   | nil => intro _; exact ⟨[], rfl, fun x h => by cases h⟩
   | cons r rows ih =>
    intro h
    obtain ⟨l, h1, h2⟩ := ih fun r hr => h r (zaw _ hr)
    obtain ⟨x, hx, hox⟩ := hel n r (h r za6)
    exact ⟨x :: l, by rw [h1, hx]; rfl, fun y hy => by rcases zay.1 hy with rfl | hy; exact hox; exact h2 y hy⟩
  obtain ⟨l, rfl, h2⟩ := key rows hr
  exact ⟨l, by simp, by simpa using hl, h2⟩
theorem AbN {n : Nat} {cs : List AV} (h : okT Aq n 5 cs) : ∃ b : UInt8, cs = [.sc (.int .u8 b.toNat)] := by
 cases n with
 | zero => cases h
 | succ n =>
  obtain ⟨i, hi, h⟩ := h
  obtain rfl := Option.some.inj (show some _ = some i from hi)
  obtain ⟨z, rfl, hw⟩ := (show ∃ z, cs = [.sc (.int .u8 z)] ∧ (Lit.int .u8 z).wf = true from h)
  have hz : 0 ≤ z ∧ z < 256 := by
   have hw' : IntKind.u8.min ≤ z ∧ z ≤ IntKind.u8.max := by simpa [Lit.wf] using hw
   have e1 : IntKind.u8.min = 0 := by decide
   have e2 : IntKind.u8.max = 255 := by decide
   rw [e1, e2] at hw'
   omega
  refine ⟨UInt8.ofNat z.toNat, ?_⟩
  have : (UInt8.ofNat z.toNat).toNat = z.toNat := by simp [UInt8.toNat_ofNat']; omega
  rw [this, Int.toNat_of_nonneg hz.1]
theorem N0 {α : Type} (e : α → AV) (l : List α) : (l.map fun x => [e x]).flatten = l.map e := by
 induction l with
 | nil => rfl
 | cons x l ih => rw [za0, zaD, ih]; rfl
theorem Zh {n t : Nat} {cs : List AV} (hi : ∃ i, Aq t = some i ∧ i.isB = false ∧ i.ik = none ∧ i.isStr = false ∧ i.sl = true ∧ i.elem = 5) (h : okT Aq n t cs) : ∃ s : ByteArray, cs = [Bt s] ∧ Iq s := by
 obtain ⟨l, rfl, h1, _⟩ := Ael (α := UInt8) (enc := fun b => [.sc (.int .u8 b.toNat)]) (ok := fun _ => True) hi (fun n cs h => by obtain ⟨b, h⟩ := AbN h; exact ⟨b, h, trivial⟩) h
 refine ⟨⟨l.toArray⟩, ?_, ?_⟩
 ·rw [Am, N0]
  simp [Bt, Bk]
  rfl
 ·exact h1
end
section
open Go
variable {β : Type} {n : Nat} {H : Ab} {r : Option β}
theorem Ds : ([] : List AV).mapM (Dm H 8) = some [] := rfl
theorem Bl {x v : AV} {xs vs : List AV} (h : Vw H x v) (hs : xs.mapM (Dm H 8) = some vs) : (x :: xs).mapM (Dm H 8) = some (v :: vs) := by
 simp only [zaT, h.now, hs, zbe, zaS, zab]
theorem Lw {i : Nat} {b : Gh} (h : H[i]? = some b) (X : List Gh) : (H ++ X)[i]? = some b := by
 rw [zag (zac.1 h).1]
 exact h
theorem Wp {i w : Nat} {cs : List AV} {K : AV → Option β} (hi : H[i]? = some ⟨cs, true, true⟩) (hw : cs.length = w) (h : K (.agg cs) = r) : C6 true w (.ptr i 0) H (fun x => K x) = r := by
 have e : A3 H i 0 w = some cs := by
  simp only [A3, hi, if_true, za7, zav, ← hw, zai, za3]
 rw [ldT e]
 exact h
theorem Dr {ty f : Nat} {args vs : List AV} {v : Value} {K : KO β} (hh : Fz f = false) (hv : args.mapM (Dm H 8) = some vs) (ht : C1 E0 n ty f vs = some (.sc v)) (h : K (.sc v) H = r) : (PR n β).call ty (.fn f [] []) args H (fun x H => K x H) = r := by
 rw [Fe hh hv ht, G3, zam]
 exact h
theorem Ve {w : Nat} {z ys : List AV} {K : KO β} (hz : z.length = w) (hy : ys.length = w) (hl : ys.all Ap = true) (h : ∀ i, (H ++ [⟨ys, true, true⟩])[i]? = some ⟨ys, true, true⟩ → K (.ptr i 0) (H ++ [⟨ys, true, true⟩]) = r) :
  Je z H (fun t H => D7 w t (.agg ys) H fun H => K t H) = r := by
 have hg : (H ++ [(⟨z, true, true⟩ : Gh)])[H.length]? = some ⟨z, true, true⟩ := by rw [zaf (zai _), zaL]; rfl
 have hc : Cq (.agg ys) = some ys := by
  show (if ys.all Ap then some ys else none) = _
  rw [if_pos hl]
 show D7 w (.ptr H.length 0) (.agg ys) (H ++ [⟨z, true, true⟩]) _ = r
 rw [Fl w H.length 0 _ ⟨z, true, true⟩ ys _ _ hg hc hy (by rw [hz]; omega) rfl]
 have hs : Cf z 0 ys = ys := by
  unfold Cf
  rw [zbF, zah, zaW (by rw [hz, hy]; omega), zam]
 have e : (H ++ [(⟨z, true, true⟩ : Gh)]).set H.length ⟨ys, true, true⟩ = H ++ [⟨ys, true, true⟩] := by
  rw [List.set_append_right _ _ (zai _), zaL]
  rfl
 simp only [hs, e]
 exact h _ (by rw [zaf (zai _), zaL]; rfl)
theorem Acq (a b : Int) (k : AV → Option β) : E8 .eql (.sc (.int .i64 a)) (.sc (.int .i64 b)) k = k (.sc (.bool (a == b))) := rfl
theorem Wo (a b : Int) (k : AV → Option β) : E8 .leq (.sc (.int .i64 a)) (.sc (.int .i64 b)) k = k (.sc (.bool (decide (a ≤ b)))) := rfl
theorem AjA (a b : Int) (k : AV → Option β) : E8 .gtr (.sc (.int .i64 a)) (.sc (.int .i64 b)) k = k (.sc (.bool (decide (a > b)))) := rfl
theorem Qz (a b : Int) (k : AV → Option β) : E8 .add (.sc (.int .i64 a)) (.sc (.int .i64 b)) k = k (.sc (.int .i64 (IntKind.i64.wrap (a + b)))) := rfl
theorem AjI (a b : Int) (k : AV → Option β) : E8 .mul (.sc (.int .i64 a)) (.sc (.int .i64 b)) k = k (.sc (.int .i64 (IntKind.i64.wrap (a * b)))) := rfl
theorem Rw (s : ByteArray) (k : AV → Option β) : Uc (.sc (.string s)) k = k (.sc (.int .i64 s.size)) := rfl
end
section
open Go
section
variable {β : Type} {n : Nat} {H : Ab} {r : Option β} {K : AV → Option β} {KH : KO β}
theorem Lr {cs : List AV} (hf : cs.all Ip = true) (h : ∀ i, i = H.length → (H ++ [⟨cs, true, true⟩])[i]? = some ⟨cs, true, true⟩ → KH (.ptr i 0) (H ++ [⟨cs, true, true⟩]) = r) : Ol (.agg cs) H (fun x H => KH x H) = r := by
 rw [K6 cs H _ hf]
 exact h _ rfl (by rw [zaf (zai _), zaL]; rfl)
theorem Nq {zs cs : List AV} {ps : List (Nat × Nat × AV)} {KL : List AV → Option β} (hf : Ek zs ps = some cs) (h : KL cs = r) : ((Ek zs ps).bind fun c => KL c) = r := by
 rw [hf]
 exact h
theorem Ak {o id off : Nat} (h : K (.ptr id (off + o)) = r) : Eb o (.ptr id off) (fun x => K x) = r := h
theorem Hp {o : Nat} {cells : List AV} (h : K (.rp (cells.drop o)) = r) : Eb o (.rp cells) (fun x => K x) = r := h
theorem B3 {i off : Nat} {cs : List AV} {c : AV} (hi : H[i]? = some ⟨cs, true, true⟩) (hl : off < cs.length) (hc : (cs.drop off).take 1 = [c]) (h : K c = r) : C6 false 1 (.ptr i off) H (fun x => K x) = r := by
 have e : A3 H i off 1 = some [c] := by
  simp only [A3, hi, if_true]
  rw [if_pos (by omega), hc]
 rw [ldF e]
 exact h
theorem F1 {i off w : Nat} {cs ds : List AV} (hi : H[i]? = some ⟨cs, true, true⟩) (hl : off + w ≤ cs.length) (hc : (cs.drop off).take w = ds) (h : K (.agg ds) = r) : C6 true w (.ptr i off) H (fun x => K x) = r := by
 have e : A3 H i off w = some ds := by
  simp only [A3, hi, if_true]
  rw [if_pos hl, hc]
 rw [ldT e]
 exact h
theorem He {cells : List AV} {c : AV} (hc : cells.take 1 = [c]) (h : K c = r) : C6 false 1 (.rp cells) H (fun x => K x) = r := by
 cases cells with
 | nil => cases hc
 | cons x xs =>
  obtain rfl : x = c := by simpa using hc
  rw [Nm]
  exact h
theorem Jv {w : Nat} {cells ds : List AV} (hl : w ≤ cells.length) (hc : cells.take w = ds) (h : K (.agg ds) = r) : C6 true w (.rp cells) H (fun x => K x) = r := by
 simp only [C6, hl, if_true, hc]
 exact h
theorem A2 {op : BinOp} {x y v : AV} (e : ∀ k : AV → Option β, E8 op x y k = k v) (h : K v = r) : E8 op x y (fun t => K t) = r := (e _).trans h
theorem Ln {op : BinOp} {x y v : AV} (e : ∀ k : AV → Option β, Oj op x y k = k v) (h : K v = r) : Oj op x y (fun t => K t) = r := (e _).trans h
theorem Gw {b : Bool} (h : K (.sc (.bool (!b))) = r) : pUn .not (.sc (.bool b)) (fun t => K t) = r := h
theorem AeD {s : ByteArray} (h : K (.sc (.int .i64 s.size)) = r) : Uc (.sc (.string s)) (fun t => K t) = r := h
theorem Do {m : Nat} {cs : List AV} (h : K (.sc (.int .i64 m)) = r) : On (.ro m cs) (fun t => K t) = r := h
theorem Ah {g : Prop} (b : Bool) (ht : b = true → g) (hf : b = false → g) : g := by
 cases h : b
 ·exact hf h
 ·exact ht h
theorem E2 {b : Bool} {x y : Option β} (hb : b = true) (h : x = r) : G5 (.sc (.bool b)) x y = r := by subst hb; exact h
theorem Fc {b : Bool} {x y : Option β} (hb : b = false) (h : y = r) : G5 (.sc (.bool b)) x y = r := by subst hb; exact h
theorem As {b : Bool} {m : (KO β) → Option β} (hb : b = true) (h : m (fun x H => KH x H) = r) : Hi (.sc (.bool b)) true H m (fun x H => KH x H) = r := by subst hb; exact h
theorem Av {b : Bool} {m : (KO β) → Option β} (hb : b = false) (h : KH (.sc undef) H = r) : Hi (.sc (.bool b)) true H m (fun x H => KH x H) = r := by subst hb; exact h
theorem Cy {b : Bool} {m : (KO β) → Option β} (hb : b = false) (h : m (fun x H => KH x H) = r) : Hi (.sc (.bool b)) false H m (fun x H => KH x H) = r := by subst hb; exact h
theorem C8 {b : Bool} {m : (KO β) → Option β} (hb : b = true) (h : KH (.sc undef) H = r) : Hi (.sc (.bool b)) false H m (fun x H => KH x H) = r := by subst hb; exact h
theorem Pz {t : Bool} {m : (KO β) → Option β} (h : KH (.sc undef) H = r) : Hi (.sc undef) t H m (fun x H => KH x H) = r := h
theorem S2 {b : Bool} {x y : AV} (hb : b = true) (h : K x = r) : M6 (.sc (.bool b)) x y (fun t => K t) = r := by
 subst hb
 cases x <;> cases y <;> exact h
theorem Tc {b : Bool} {x y : AV} (hb : b = false) (h : K y = r) : M6 (.sc (.bool b)) x y (fun t => K t) = r := by
 subst hb
 cases x <;> cases y <;> exact h
def I9 {α : Type} (p : α → α → Bool) : List α → List α → Bool
 | x :: a, y :: b => if p x y then I9 p a b else false
 | _, _ => true
theorem Nu {α : Type} {w : Nat} (enc : α → List AV) (hw : ∀ x, (enc x).length = w) (h0 : 0 < w) (pk : α → AV) (LOAD : AV → (AV → Option β) → Option β) (hld : ∀ x rest k, LOAD (.rp (enc x ++ rest)) k = k (pk x)) (NE : AV → AV → (AV → Option β) → Option β) (pr : α → α → Bool) (hne : ∀ x y k, NE (pk x) (pk y) k = k (.sc (.bool (!(pr x y)))))
  (l q : List α) (hlq : l.length = q.length) (hlen : l.length ≤ 1048576) (L : Nat → AV → Option β) (KF KT : Option β)
  (hL : ∀ m i, L (m + 1) i = E8 .lss i (.sc (.int .i64 l.length)) fun t14 => G5 t14 (Es w (Am enc l) i fun t19 => LOAD t19 fun t20 => Es w (Am enc q) i fun t23 => LOAD t23 fun t24 => NE t20 t24 fun t25 => G5 t25 KF (E8 .add i (.sc (.int .i64 1)) fun t16 => L m t16)) KT) :
  ∀ (s t pl pq : List α) (m : Nat), l = pl ++ s → q = pq ++ t → pl.length = pq.length → s.length < m → L m (.sc (.int .i64 pl.length)) = if I9 pr s t then KT else KF
 | [], t, pl, pq, m + 1, hl, hq, hpp, hm => by
  rw [zam] at hl
  subst hl
  rw [hL, Ej, Ef]
  cases t <;> simp [I9]
 | x :: s, [], pl, pq, m + 1, hl, hq, hpp, hm => by
  have h1 := congrArg List.length hl
  have h2 := congrArg List.length hq
  simp only [zae, zao, zat] at h1 h2
  omega
 | x :: s, y :: t, pl, pq, m + 1, hl, hq, hpp, hm => by
  have hlt : pl.length < l.length := by rw [hl]; simp
  rw [hL, Ej, Ef, if_pos (by simpa using hlt)]
  have hel := fun k => M4 (β := β) hw h0 pl x s k
  rw [← hl] at hel
  have heq := fun k => M4 (β := β) hw h0 pq y t k
  rw [← hq, ← hpp] at heq
  rw [hel, hld, heq, hld, hne, Ef, I9]
  cases hpx : pr x y
  ·simp
  ·simp only [Bool.not_true, zan, if_false, if_true]
   rw [Ff _ _ (by omega)]
   have ih := Nu enc hw h0 pk LOAD hld NE pr hne l q hlq hlen L KF KT hL s t (pl ++ [x]) (pq ++ [y]) m (by rw [hl]; simp) (by rw [hq]; simp) (by simp [hpp]) (by simpa using hm)
   rw [zae, zal] at ih
   exact ih
def Qj (z : Int) : List AV := [.sc (.int .i64 z)]
def AaR (s : ByteArray) : List AV := [.sc (.string s)]
theorem Ji (l : List Int) : Df l = Am Qj l := by
 rw [Am, show (Qj) = fun z => [AV.sc (.int .i64 z)] from rfl, N0]
theorem Ul (l : List ByteArray) : Mj l = Am AaR l := by
 rw [Am, show (AaR) = fun z => [AV.sc (.string z)] from rfl, N0]
theorem ldI (z : Int) (rest : List AV) (H : Ab) (k : AV → Option β) : C6 false 1 (.rp (Qj z ++ rest)) H k = k (.sc (.int .i64 z)) := Nm _ _ _ _
theorem ldS (z : ByteArray) (rest : List AV) (H : Ab) (k : AV → Option β) : C6 false 1 (.rp (AaR z ++ rest)) H k = k (.sc (.string z)) := Nm _ _ _ _
def eqI (x y : Int) : Bool := x == y
def Uu (x y : ByteArray) : Bool := x.toList == y.toList
def Pa {α : Type} (p : α → α → Bool) (a b : List α) : Bool := if a.length = b.length then I9 p a b else false
theorem neI (x y : Int) (k : AV → Option β) : E8 .neq (.sc (.int .i64 x)) (.sc (.int .i64 y)) k = k (.sc (.bool (!(eqI x y)))) := rfl
theorem neS (x y : ByteArray) (k : AV → Option β) : E8 .neq (.sc (.string x)) (.sc (.string y)) k = k (.sc (.bool (!(Uu x y)))) := rfl
theorem AeK (qs : List Nat) (cs ds : List AV) (b : Bool) (h : J6 qs cs ds = some b) (k : AV → Option β) : Oi .neq qs (.agg cs) (.agg ds) k = k (.sc (.bool (!b))) := by
 simp only [Oi, h, zab]
theorem A8 {X : Option β} (e : Bool) {K : Bool → Option β} (h1 : ∀ b, b = e → X = K b) (h2 : ∀ b, b = e → K b = r) : X = r := (h1 e rfl).trans (h2 e rfl)
theorem Ch {c v b : Bool} {y : AV} (hc : c = true) (hv : v = b) (h : K (.sc (.bool b)) = r) : M6 (.sc (.bool c)) (.sc (.bool v)) y (fun t => K t) = r := by
 subst hc
 subst hv
 cases y <;> exact h
theorem Cg {c v b : Bool} {x : AV} (hc : c = false) (hv : v = b) (h : K (.sc (.bool b)) = r) : M6 (.sc (.bool c)) x (.sc (.bool v)) (fun t => K t) = r := by
 subst hc
 subst hv
 cases x <;> exact h
theorem Hs {b c v : Bool} (hb : b = (c && v)) (h : c = true) : v = b := by rw [hb, h]; rfl
theorem Hr {b c v : Bool} (hb : b = (c && v)) (h : c = false) : false = b := by rw [hb, h]; rfl
theorem mOT {b c v : Bool} (hb : b = (c || v)) (h : c = true) : true = b := by rw [hb, h]; rfl
theorem mOF {b c v : Bool} (hb : b = (c || v)) (h : c = false) : v = b := by rw [hb, h]; rfl
theorem Zx {α : Sort _} {γ : Type} {x : α} {f : α → Option γ} {r : Option γ} (h : f x = r) : M2 x f = r := h
theorem Dv {ty : Nat} {b b' : Bool} (h : b = b') : A4 Aq E0.tp ty H (.sc (.bool b)) = some (.sc (.bool b')) := by subst h; rfl
theorem Agv {α : Type} {w : Nat} {enc : α → List AV} {l : List α} (hw : ∀ x, (enc x).length = w) (h0 : 0 < w) (hl : 0 < l.length) (h : ∀ x t, l = x :: t → K (.rp (enc x ++ (t.map enc).flatten)) = r) : Es w (Am enc l) (.sc (.int .i64 0)) (fun t => K t) = r := by
 cases l with
 | nil => simp at hl
 | cons x t =>
  have := M4 (β := β) hw h0 [] x t (fun t => K t)
  simp only [zah, zat, zbg] at this
  rw [this]
  exact h x t rfl
theorem Vv {ty : Nat} {f : FuncId} {caps args vs : List AV} {t : AV} {k : KO β} (hh : Fz f = false) (hv : (args ++ caps).mapM (Dm H 8) = some vs) (ht : C1 E0 n ty f vs = some t) :
  (PR n β).call ty (.fn f [] caps) args H k = k (Bp Aq E0.tp H.length ty t).1 (H ++ (Bp Aq E0.tp H.length ty t).2) := by
 show J4 E0 (Dd E0 n) ty f ([] ++ args ++ caps) H k = _
 simp only [J4, Ud hh, Xb hh, zah, zan, if_false, V5, hv, zab]
 have ht : Pw E0 (Dd E0 n) ty f vs = some t := ht
 rw [ht]
 rfl
def I7 {α : Type} (p : α → Bool) : List α → Nat → Int
 | [], _ => -1
 | x :: l, i => if p x then i else I7 p l (i + 1)
theorem Rm {α : Type} {tb g w : Nat} {caps : List AV} (enc : α → List AV) (pr : α → Bool) (k : KO β) (hw : ∀ x, (enc x).length = w) (h0 : 0 < w) (hfl : ∀ x, (enc x).all Ip = true) (hh : Fz g = false) (hcv : ∀ H, caps.mapM (Dm H 8) = some caps) (L : Nat → AV → AV → AV → KO β)
  (hL : ∀ m a b c i H, L (m + 1) a b c i H = E8 .lss i c fun t9 => G5 t9 (Es w a i fun t14 => C6 true w t14 H fun t15 => (PR n β).call tb b [t15] H fun t16 H => G5 t16 (k i H) (E8 .add i (.sc (.int .i64 1)) fun t18 => L m a b c t18 H)) (k (.sc (.int .i64 (-1))) H))
  (l : List α) (hp : ∀ x ∈ l, C1 E0 n tb g (.agg (enc x) :: caps) = some (.sc (.bool (pr x)))) (hlen : l.length ≤ 1048576) (H : Ab) : ∀ (t pre : List α) (m : Nat), l = pre ++ t → t.length < m →
   L m (Am enc l) (.fn g [] caps) (.sc (.int .i64 l.length)) (.sc (.int .i64 pre.length)) H = k (.sc (.int .i64 (I7 pr t pre.length))) H
 | [], pre, m + 1, hl, hm => by
  rw [zam] at hl
  subst hl
  rw [hL, Ej, Ef]
  simp [I7]
 | x :: t, pre, m + 1, hl, hm => by
  have hlt : pre.length < l.length := by rw [hl]; simp
  rw [hL, Ej, Ef, if_pos (by simpa using hlt)]
  have hel := fun k => M4 (β := β) hw h0 pre x t k
  rw [← hl] at hel
  rw [hel, Tw w _ _ _ _ (hw x)]
  rw [Vv (vs := .agg (enc x) :: caps) hh (by simp only [zax, zah, zaT, (Fo _ (hfl x)).now, hcv]; rfl) (hp x (by rw [hl]; simp)), G3, zam]
  simp only
  rw [Ef, I7]
  cases hpx : pr x
  ·simp only [zan, if_false]
   rw [Ff _ _ (by omega)]
   have ih := Rm enc pr k hw h0 hfl hh hcv L hL l hp hlen H t (pre ++ [x]) m (by rw [hl]; simp) (by simpa using hm)
   rw [zae, zal] at ih
   exact ih
  ·simp only [if_true]
theorem AgX {i g : Nat} {cs : List AV} (hi : H[i]? = some ⟨cs, true, true⟩) (hfl : cs.all Ip = true) : Vw H (.fn g [] [.ptr i 0]) (.fn g [] [.rp cs]) := fun X => by
 have hg : (H ++ X)[i]? = some ⟨cs, true, true⟩ := Lw hi X
 have hr : A3 (H ++ X) i 0 (cs.length - 0) = some cs := by
  simp only [A3, hg, if_true, Nat.sub_zero, zav, zai, za7, za3]
 have hp : Dm (H ++ X) 7 (.ptr i 0) = some (.rp cs) := by
  show ((H ++ X)[i]?).bind (fun b => (A3 (H ++ X) i 0 (b.cells.length - 0)).bind fun cs => (cs.mapM (Dm (H ++ X) 6)).bind fun vs => some (AV.rp vs)) = _
  rw [hg, zab]
  show (A3 (H ++ X) i 0 (cs.length - 0)).bind _ = _
  rw [hr, zab, Qr hfl]
  rfl
 show (([] : List AV).mapM (Dm (H ++ X) 7)).bind (fun us => ([AV.ptr i 0].mapM (Dm (H ++ X) 7)).bind fun cs => some (AV.fn g us cs)) = _
 simp only [zaT, List.mapM_nil, hp, zbe, zaS, zab]
theorem Ai5 {v : Value} (hv : Ku v = true) (h : ∀ i, i = H.length → (H ++ [⟨[.sc v], true, true⟩])[i]? = some ⟨[.sc v], true, true⟩ → KH (.ptr i 0) (H ++ [⟨[.sc v], true, true⟩]) = r) : Ol (.sc v) H (fun x H => KH x H) = r := by
 have e : Cq (.sc v) = some [.sc v] := by simp only [Cq, Ap, hv, if_true]
 show (Cq (.sc v)).bind _ = r
 rw [e]
 exact h _ rfl (by rw [zaf (zai _), zaL]; rfl)
theorem AgJ (s : ByteArray) (i : Nat) (b : UInt8) (k : AV → Option β) (h : s.data.toList[i]? = some b) : AbP (.sc (.string s)) (.sc (.int .i64 i)) k = k (.sc (.int .u8 b.toNat)) := by
 have hlt : i < s.size := by
  have := (zac.1 h).1
  simpa using this
 have hb : s[i]'hlt = b := by
  have := (zac.1 h).2
  simp only [Array.getElem_toList] at this
  exact this
 simp only [AbP, Xz, asS, zab, zbi]
 rw [dif_pos ⟨by omega, hlt⟩, hb]
theorem Zo {α : Type} {w : Nat} {enc : α → List AV} (hw : ∀ x, (enc x).length = w) (l : List α) (d : Nat) (hd : d ≤ l.length) (k : AV → Option β) : Iv w (Am enc l) (some (.sc (.int .i64 d))) none k = k (Am enc (l.drop d)) := by
 simp only [Iv, Gi, Jm, Xz, zab]
 rw [if_pos (by omega)]
 have h1 : ((l.length : Int) - d).toNat = (l.drop d).length := by rw [zaH]; omega
 have h2 : ((l.map enc).flatten.drop (d * w)) = ((l.drop d).map enc).flatten := by
  have := To hw (l.take d) (l.drop d)
  rw [zaR, zaK, zaQ hd] at this
  exact this
 rw [h1, zbi, h2, ← Fa hw, za3]
theorem nT {b : Bool} (h : b = false) : (!b) = true := by rw [h]; rfl
theorem nF {b : Bool} (h : b = true) : (!b) = false := by rw [h]; rfl
end
end
section
open Go
theorem Y1 (n : Int) : bits .and .i64 n 255 = n % 256 := by
 have h255 : (BitVec.ofInt 64 255).toNat = 2 ^ 8 - 1 := by decide
 have key : (BitVec.ofInt 64 n &&& BitVec.ofInt 64 255).toNat = (n % ((2 ^ 64 : Nat) : Int)).toNat % 2 ^ 8 := by
  rw [BitVec.toNat_and, BitVec.toNat_ofInt, h255, Nat.and_two_pow_sub_one_eq_mod]
 show IntKind.i64.wrap ((BitVec.ofInt 64 n &&& BitVec.ofInt 64 255).toNat : Nat) = n % 256
 rw [key, IntKind.wrap_i64]
 omega
section
variable {β : Type} {n : Nat} {H : Ab}
theorem K4 {ty : Nat} {f : FuncId} {args : List AV} {k : KO β} (hh : E0.hm f = true) (he : E0.ext f = none) : (PR n β).call ty (.fn f [] []) args H k = Dd E0 n β f args H k := by
 show J4 E0 (Dd E0 n) ty f ([] ++ args ++ []) H k = _
 simp only [J4, he, hh, zah, zam, if_true]
def cur (code : ByteArray) (i : Nat) (h : Int) : List AV := [.ro code.size (Bk code), .sc (.int .i64 i), .sc (.int .i64 h)]
def Nf (code : ByteArray) (i : Nat) (h : Int) : Gh := ⟨cur code i h, true, true⟩
theorem ldC {c o : Nat} {code : ByteArray} {i : Nat} {h : Int} {x : AV} {K : AV → Option β} {r : Option β} (hc : H[c]? = some (Nf code i h)) (hx : (cur code i h)[o]? = some x) (hk : K x = r) : C6 false 1 (.ptr c (0 + o)) H (fun t => K t) = r := by
 obtain ⟨hlt, he⟩ := zac.1 hx
 have e : ((cur code i h).drop o).take 1 = [x] := by
  rw [zbj hlt, he]
  rfl
 rw [zav]
 simp only [C6, A3, hc, Nf, if_true, zan, if_false]
 rw [if_pos (by omega), zab, e]
 exact hk
theorem stC {c o : Nat} {code : ByteArray} {i i' : Nat} {h h' : Int} {v : Value} {K : Ab → Option β} {r : Option β} (hc : H[c]? = some (Nf code i h)) (hv : Ku v = true) (ho : o < 3) (hs : Cf (cur code i h) o [.sc v] = cur code i' h') (hk : K (H.set c (Nf code i' h')) = r) : D7 1 (.ptr c (0 + o)) (.sc v) H (fun H => K H) = r := by
 rw [zav, Fl 1 c o (.sc v) (Nf code i h) [.sc v] H _ hc (by simp only [Cq, Ap, hv, if_true]) rfl (by show o + 1 ≤ 3; omega) rfl]
 show K (H.set c ⟨Cf (cur code i h) o [.sc v], true, true⟩) = r
 rw [hs]
 exact hk
theorem Ago {c : Nat} {b : Gh} (hl : c < H.length) : (H.set c b)[c]? = some b := by
 rw [zaX hl]
theorem Xv (z : Int) (k : AV → Option β) : E8 .and (.sc (.int .i64 z)) (.sc (.int .i64 255)) k = k (.sc (.int .i64 (z % 256))) := by
 rw [← Y1]
 rfl
theorem I8 {id off : Nat} {K : AV → Option β} {r : Option β} (h : K (.ptr id off) = r) : Aes (.ptr id off) (fun t => K t) = r := h
theorem AgT {a z : Int} {k : IntKind} {K : AV → Option β} {r : Option β} (hz : IntKind.i64.wrap a = z) (h : K (.sc (.int .i64 z)) = r) : W7 .i64 (.sc (.int k a)) (fun t => K t) = r := by
 show K (.sc (.int .i64 (IntKind.i64.wrap a))) = r
 rw [hz]
 exact h
theorem Acl (s : ByteArray) (i : Nat) (h : i < s.size) (H : Ab) (k : AV → Option β) : (Es 1 (.ro s.size (Bk s)) (.sc (.int .i64 i)) fun t => C6 false 1 t H k) = k (.sc (.int .u8 (s.data.toList.getD i 0).toNat)) := by
 rw [Qs 1 _ _ i _ h (by rw [E4]; omega)]
 have hd : (Bk s).drop (i * 1) = .sc (.int .u8 (s.data.toList.getD i 0).toNat) :: (Bk s).drop (i + 1) := by
  rw [Nat.mul_one, zbj (by rw [E4]; omega)]
  congr 1
  simp [Bk, zbB, h]
 rw [hd, Nm]
theorem V3 (c : Nat) (code : ByteArray) (hs : code.size ≤ 1048576) (i : Nat) (h : Int) (hc : H[c]? = some (Nf code i h)) (ty : Nat) :
  ∃ (x i' : Nat) (h' : Int), x < 256 ∧ ∀ K : KO β, (PR (n + 1) β).call ty (.fn 97 [] []) [.ptr c 0] H K = K (si x) (H.set c (Nf code i' h')) := by
 have hl : c < H.length := (zac.1 hc).1
 obtain ⟨h1, hh1⟩ : ∃ z, IntKind.i64.wrap (IntKind.i64.wrap (h * 6364136223846793005) + 1442695040888963407) = z := ⟨_, rfl⟩
 obtain ⟨y, hy⟩ : ∃ z, bits .xor .i64 (h1 / 2 ^ (33 : Int).toNat) (h1 / 2 ^ (47 : Int).toNat) = z := ⟨_, rfl⟩
 have hc1 : (H.set c (Nf code i h1))[c]? = some (Nf code i h1) := Ago hl
 by_cases hlt : i < code.size
 have hb := (code.data.toList.getD i 0).toNat_lt
 refine ⟨((y % 256 + (code.data.toList.getD i 0).toNat) % 256).toNat, i + 1, h1, by omega, fun K => ?_⟩
 rw [K4 rfl rfl, AdE, f97]
 simp only [Xt, Br, A5, Ba, Bf, Bw, A0, Bx, Di]
 refine I8 (Ak (ldC (o := 2) (x := .sc (.int .i64 h)) hc rfl (A2 (v := .sc (.int .i64 (IntKind.i64.wrap (h * 6364136223846793005)))) (fun k => rfl) (A2 (v := .sc (.int .i64 h1)) (fun k => by rw [← hh1]; rfl) (I8 (Ak (stC (i' := i) (h' := h1) hc rfl (by omega) rfl (I8 (Ak (ldC (o := 2) (x := .sc (.int .i64 h1)) hc1 rfl (A2 (v := .sc (.int .i64 (h1 / 2 ^ (33 : Int).toNat))) (fun k => rfl) (I8 (Ak (ldC (o := 2) (x := .sc (.int .i64 h1)) hc1 rfl (A2 (v := .sc (.int .i64 (h1 / 2 ^ (47 : Int).toNat))) (fun k => rfl) (A2 (v := .sc (.int .i64 y)) (fun k => by rw [← hy]; rfl) (A2 (v := .sc (.int .i64 (y % 256))) (fun k => Xv _ k) (I8 (Ak (ldC (o := 1) (x := .sc (.int .i64 i)) hc1 rfl (I8 (Ak (ldC (o := 0) (x := .ro code.size (Bk code)) hc1 rfl (Do (A2 (v := .sc (.bool (decide (i < code.size)))) (fun k => Ej _ _ k) (Zx (E2 (by simpa using hlt) (I8 (Ak (ldC (o := 0) (x := .ro code.size (Bk code)) hc1 rfl (I8 (Ak (ldC (o := 1) (x := .sc (.int .i64 i)) hc1 rfl ?_)))))))))))))))))))))))))))))))))
 rw [Acl code i hlt]
 refine AgT (z := (code.data.toList.getD i 0).toNat) (Fd _ (by omega) (by omega)) (A2 (v := .sc (.int .i64 (y % 256 + (code.data.toList.getD i 0).toNat))) (fun k => by rw [Qz, Fd _ (by omega) (by omega)]) (A2 (v := .sc (.int .i64 ((y % 256 + (code.data.toList.getD i 0).toNat) % 256))) (fun k => Xv _ k) (I8 (Ak (ldC (o := 1) (x := .sc (.int .i64 i)) hc1 rfl (A2 (v := .sc (.int .i64 ((i + 1 : Nat) : Int))) (fun k => Ff _ k (by omega)) (I8 (Ak (stC (i' := i + 1) (h' := h1) hc1 rfl (by omega) rfl ?_)))))))))
 rw [List.set_set, show (((y % 256 + (code.data.toList.getD i 0).toNat) % 256).toNat : Int) = (y % 256 + (code.data.toList.getD i 0).toNat) % 256 by omega]
 refine ⟨(y % 256).toNat, i, h1, by omega, fun K => ?_⟩
 rw [K4 rfl rfl, AdE, f97]
 simp only [Xt, Br, A5, Ba, Bf, Bw, A0, Bx, Di]
 refine I8 (Ak (ldC (o := 2) (x := .sc (.int .i64 h)) hc rfl (A2 (v := .sc (.int .i64 (IntKind.i64.wrap (h * 6364136223846793005)))) (fun k => rfl) (A2 (v := .sc (.int .i64 h1)) (fun k => by rw [← hh1]; rfl) (I8 (Ak (stC (i' := i) (h' := h1) hc rfl (by omega) rfl (I8 (Ak (ldC (o := 2) (x := .sc (.int .i64 h1)) hc1 rfl (A2 (v := .sc (.int .i64 (h1 / 2 ^ (33 : Int).toNat))) (fun k => rfl) (I8 (Ak (ldC (o := 2) (x := .sc (.int .i64 h1)) hc1 rfl (A2 (v := .sc (.int .i64 (h1 / 2 ^ (47 : Int).toNat))) (fun k => rfl) (A2 (v := .sc (.int .i64 y)) (fun k => by rw [← hy]; rfl) (A2 (v := .sc (.int .i64 (y % 256))) (fun k => Xv _ k) (I8 (Ak (ldC (o := 1) (x := .sc (.int .i64 i)) hc1 rfl (I8 (Ak (ldC (o := 0) (x := .ro code.size (Bk code)) hc1 rfl (Do (A2 (v := .sc (.bool (decide (i < code.size)))) (fun k => Ej _ _ k) (Zx (Fc (by simpa using hlt) ?_)))))))))))))))))))))))))))
 rw [show ((y % 256).toNat : Int) = y % 256 by omega]
theorem AaG (c : Nat) (code : ByteArray) (hs : code.size ≤ 1048576) (i : Nat) (h : Int) (hc : H[c]? = some (Nf code i h)) (ty m : Nat) (h1 : 1 ≤ m) (h2 : m ≤ 256) :
  ∃ (x i' : Nat) (h' : Int), x < m ∧ ∀ K : KO β, (PR (n + 2) β).call ty (.fn 59 [] []) [.ptr c 0, si m] H K = K (si x) (H.set c (Nf code i' h')) := by
 obtain ⟨x, i', h', hx, hr⟩ := V3 (β := β) (n := n) c code hs i h hc 3
 refine ⟨x % m, i', h', Nat.mod_lt _ (by omega), fun K => ?_⟩
 rw [K4 rfl rfl, Ys, f59]
 simp only [Ba, A0]
 refine A2 (v := .sc (.bool (decide ((m : Int) ≤ 0)))) (fun k => rfl) (Fc (by simp; omega) (A2 (v := .sc (.bool (decide ((m : Int) ≤ 256)))) (fun k => rfl) (E2 (by simp; omega) ?_)))
 rw [hr]
 refine A2 (v := si ((x % m : Nat) : Int)) (fun k => ?_) ?_
 show (X3 .rem .i64 (x : Int) (m : Int)).bind (fun v => k (.sc v)) = _
 have e : X3 .rem .i64 (x : Int) (m : Int) = some (.int .i64 ((x : Int).tmod m)) := by
  show (if (m : Int) = 0 then none else some (Value.int .i64 ((x : Int).tmod m))) = _
  rw [if_neg (by omega)]
 rw [e]
 show k (.sc (.int .i64 ((x : Int).tmod (m : Int)))) = _
 rw [show ((x : Int).tmod (m : Int)) = ((x % m : Nat) : Int) from rfl]
 rfl
theorem Aax (code : ByteArray) (h : Int) (K : KO β) : ((Ek [.nl, .sc (.int .i64 0), .sc (.int .i64 0)] [(0, 1, .ro code.size (Bk code)), (2, 1, .sc (.int .i64 h))]).bind fun ct => Ol (.agg ct) H fun t H => K t H) = K (.ptr H.length 0) (H ++ [Nf code 0 h]) := rfl
theorem Wr (code : ByteArray) (hs : code.size ≤ 1048576) : ∀ (j m i : Nat) (h : Int), i + j = min code.size 4000 → j < m →
  ∃ h' : Int, ∀ k : KO β, Nj (PR n β) n k m (.ro code.size (Bk code)) (si h) (si i) H = k (.ptr H.length 0) (H ++ [Nf code 0 h'])
 | 0, m + 1, i, h, hi, hm => by
  refine ⟨h, fun k => ?_⟩
  rw [Nj]
  simp only [Bw, Ba, A0, Bs, Pr.gT, Pr.gF, Pr.hT, Pr.hF, Pr.kT, Pr.kF, B7, Bx, A5, Di, Bj, C4]
  refine Do (A2 (v := sb (decide (i < code.size))) (fun k => Ej _ _ k) ?_)
  by_cases hl : i < code.size
  have e : decide (i < code.size) = true := by simpa using hl
  exact As e (As e (A2 (v := .sc (.bool (decide ((i : Int) < 4000)))) (fun k => rfl) (S2 e (Fc (by simp; omega) (Aax code h k)))))
  have e : decide (i < code.size) = false := by simpa using hl
  exact Av e (Av e (Tc e (Fc rfl (Aax code h k))))
 | j + 1, m + 1, i, h, hi, hm => by
  have hl : i < code.size := by omega
  have hb := (code.data.toList.getD i 0).toNat_lt
  obtain ⟨h', ih⟩ := Wr code hs j m (i + 1) (bits .and .i64 (IntKind.i64.wrap (IntKind.i64.wrap (IntKind.i64.wrap (h * 137) + (code.data.toList.getD i 0).toNat) + 11)) 1073741823) (by omega) (by omega)
  refine ⟨h', fun k => ?_⟩
  rw [Nj]
  simp only [Bw, Ba, A0, Bs, Pr.gT, Pr.gF, Pr.hT, Pr.hF, Pr.kT, Pr.kF, B7, Bx, A5, Di, Bj, C4]
  refine Do (A2 (v := sb (decide (i < code.size))) (fun k => Ej _ _ k) ?_)
  have e : decide (i < code.size) = true := by simpa using hl
  refine As e (As e (A2 (v := .sc (.bool (decide ((i : Int) < 4000)))) (fun k => rfl) (S2 e (E2 (by simp; omega) (A2 (v := .sc (.int .i64 (IntKind.i64.wrap (h * 137)))) (fun k => rfl) ?_)))))
  rw [Acl code i hl]
  exact AgT (z := (code.data.toList.getD i 0).toNat) (Fd _ (by omega) (by omega)) (A2 (v := si (IntKind.i64.wrap (IntKind.i64.wrap (h * 137) + (code.data.toList.getD i 0).toNat))) (fun k => rfl) (A2 (v := si (IntKind.i64.wrap (IntKind.i64.wrap (IntKind.i64.wrap (h * 137) + (code.data.toList.getD i 0).toNat) + 11))) (fun k => rfl) (A2 (v := .sc (.int .i64 (bits .and .i64 (IntKind.i64.wrap (IntKind.i64.wrap (IntKind.i64.wrap (h * 137) + (code.data.toList.getD i 0).toNat) + 11)) 1073741823))) (fun k => rfl) (A2 (v := si ((i + 1 : Nat) : Int)) (fun k => Ff _ k (by omega)) (ih k)))))
theorem AfX (code : ByteArray) (hs : code.size ≤ 1048576) (hn : 4000 < n) (ty : Nat) :
  ∃ h : Int, ∀ K : KO β, (PR (n + 1) β).call ty (.fn 40 [] []) [.ro code.size (Bk code)] H K = K (.ptr H.length 0) (H ++ [Nf code 0 h]) := by
 obtain ⟨h', e⟩ := Wr (β := β) (n := n) (H := H) code hs (min code.size 4000) n 0 (IntKind.i64.wrap (128361 + (code.size : Int))) (by omega) (by omega)
 refine ⟨h', fun K => ?_⟩
 rw [K4 rfl rfl, Ah2, f40]
 simp only [Bw, Ba]
 exact Do (A2 (v := si (IntKind.i64.wrap (128361 + (code.size : Int)))) (fun k => rfl) (e K))
end
end
section
open Go
theorem M0 : ∃ i j, Aq 22 = some i ∧ Aq i.elem = some j ∧ j.size = 1 ∧ j.cty.length = 1 := ⟨_, _, rfl, rfl, rfl, rfl⟩
theorem Zv : ∃ i j, Aq 39 = some i ∧ Aq i.elem = some j ∧ j.size = 1 ∧ j.cty.length = 1 := ⟨_, _, rfl, rfl, rfl, rfl⟩
theorem Acb : ∃ i j, Aq 38 = some i ∧ Aq i.elem = some j ∧ j.size = 1 ∧ j.cty.length = 1 := ⟨_, _, rfl, rfl, rfl, rfl⟩
structure Cz where
 fTopic : ByteArray
 fBody : ByteArray
 fQos : Int
 fRetain : Bool
def Ao (x : Cz) : List AV := .sc (.string x.fTopic) :: Bt x.fBody :: .sc (.int .i64 x.fQos) :: .sc (.bool x.fRetain) :: []
def B4 (x : Cz) : Nat := x.fTopic.size + (x.fBody.size + 0)
def Dj (x : Cz) : Prop := Iq x.fTopic ∧ Iq x.fBody ∧ Ct x.fQos ∧ True
theorem Eg (x : Cz) : (Ao x).length = 4 := rfl
theorem Gb (x : Cz) : (Ao x).all Ip = true := rfl
def Gy : List Nat := [9, 22, 3, 4]
theorem Oz : ∃ i, Aq 33 = some i ∧ i.cty = Gy := ⟨_, rfl, rfl⟩
theorem Ic (d : Nat) (x : Cz) : Eh (Gj Aq E0.tp (d + 2)) Gy (Ao x) := ⟨trivial, ⟨Pn (d := d + 0) M0 x.fBody, ⟨trivial, ⟨trivial, trivial⟩⟩⟩⟩
theorem Kj : ∃ i j, Aq 25 = some i ∧ Aq i.elem = some j ∧ j.size = 4 ∧ j.cty = Gy := ⟨_, _, rfl, rfl, rfl, rfl⟩
def Hq : List AV := [(.sc (.string ⟨#[]⟩)), .nl, (.sc (.int .i64 0)), (.sc (.bool false))]
structure Aj where
 fId : Int
 fM : Cz
 fSt : Int
def Ar (x : Aj) : List AV := .sc (.int .i64 x.fId) :: (Ao x.fM ++ .sc (.int .i64 x.fSt) :: [])
def A1 (x : Aj) : Nat := B4 x.fM + 0
def B6 (x : Aj) : Prop := Ct x.fId ∧ Dj x.fM ∧ Ct x.fSt
theorem Bm (x : Aj) : (Ar x).length = 6 := rfl
theorem E6 (x : Aj) : (Ar x).all Ip = true := rfl
def Fv : List Nat := [3, 9, 22, 3, 4, 3]
theorem Mu (d : Nat) (x : Aj) : Eh (Gj Aq E0.tp (d + 2)) Fv (Ar x) := ⟨trivial, Gn (ts := Gy) (ts' := [3]) (Ic (d + 0) x.fM) ⟨trivial, trivial⟩⟩
theorem Px : ∃ i j, Aq 24 = some i ∧ Aq i.elem = some j ∧ j.size = 6 ∧ j.cty = Fv := ⟨_, _, rfl, rfl, rfl, rfl⟩
def S5 : List AV := [(.sc (.int .i64 0)), (.sc (.string ⟨#[]⟩)), .nl, (.sc (.int .i64 0)), (.sc (.bool false)), (.sc (.int .i64 0))]
structure Bv where
 fLast : Int
 fFl : List Aj
 fQ : List Cz
def A9 (x : Bv) : List AV := .sc (.int .i64 x.fLast) :: Am Ar x.fFl :: Am Ao x.fQ :: []
def Eu (x : Bv) : Nat := Ft A1 x.fFl + (Ft B4 x.fQ + 0)
def R4 (x : Bv) : Prop := Ct x.fLast ∧ (x.fFl.length ≤ 9223372036854775807 ∧ ∀ z ∈ x.fFl, B6 z) ∧ (x.fQ.length ≤ 9223372036854775807 ∧ ∀ z ∈ x.fQ, Dj z)
theorem Ait (x : Bv) : (A9 x).length = 3 := rfl
theorem G2 (x : Bv) : (A9 x).all Ip = true := rfl
def Gf : List Nat := [3, 24, 25]
theorem Xo : ∃ i, Aq 27 = some i ∧ i.cty = Gf := ⟨_, rfl, rfl⟩
theorem Aem (d : Nat) (x : Bv) : Eh (Gj Aq E0.tp (d + 3)) Gf (A9 x) := ⟨trivial, ⟨Gp (d := d + 2) Bm Px (Mu (d + 0)) x.fFl, ⟨Gp (d := d + 2) Eg Kj (Ic (d + 0)) x.fQ, trivial⟩⟩⟩
def Cs : List AV := [(.sc (.int .i64 0)), .nl, .nl]
structure Qy where
 fFilter : ByteArray
 fQos : Int
def Ey (x : Qy) : List AV := .sc (.string x.fFilter) :: .sc (.int .i64 x.fQos) :: []
theorem Vd (x : Qy) : (Ey x).length = 2 := rfl
def AeN : List Nat := [9, 3]
theorem Aga (d : Nat) (x : Qy) : Eh (Gj Aq E0.tp (d + 1)) AeN (Ey x) := ⟨trivial, ⟨trivial, trivial⟩⟩
structure B5 where
 fType : Int
 fDup : Bool
 fQos : Int
 fRetain : Bool
 fId : Int
 fTopic : ByteArray
 fBody : ByteArray
 fClient : ByteArray
 fLevel : Int
 fClean : Bool
 fKeep : Int
 fHasWill : Bool
 fWTopic : ByteArray
 fWBody : ByteArray
 fWQos : Int
 fWRetain : Bool
 fHasUser : Bool
 fUser : ByteArray
 fHasPass : Bool
 fPass : ByteArray
 fCode : Int
 fPresent : Bool
 fWants : List Qy
 fNames : List ByteArray
 fCodes : List Int
def C7 (x : B5) : List AV := .sc (.int .i64 x.fType) :: .sc (.bool x.fDup) :: .sc (.int .i64 x.fQos) :: .sc (.bool x.fRetain) :: .sc (.int .i64 x.fId) :: .sc (.string x.fTopic) :: Bt x.fBody :: .sc (.string x.fClient) :: .sc (.int .i64 x.fLevel) :: .sc (.bool x.fClean) :: .sc (.int .i64 x.fKeep) :: .sc (.bool x.fHasWill) :: .sc (.string x.fWTopic) :: Bt x.fWBody :: .sc (.int .i64 x.fWQos) :: .sc (.bool x.fWRetain) :: .sc (.bool x.fHasUser) :: .sc (.string x.fUser) :: .sc (.bool x.fHasPass) :: Bt x.fPass :: .sc (.int .i64 x.fCode) :: .sc (.bool x.fPresent) :: Am Ey x.fWants :: Mj x.fNames :: Df x.fCodes :: []
theorem Ks (x : B5) : (C7 x).all Ip = true := rfl
def AaN : List Nat := [3, 4, 3, 4, 3, 9, 22, 9, 3, 4, 3, 4, 9, 22, 3, 4, 4, 9, 4, 22, 3, 4, 37, 38, 39]
structure At where
 fClient : ByteArray
 fBorn : Int
 fClean : Bool
 fConn : Int
 fGen : Int
 fO : Bv
 fIn : List Int
def Bq (x : At) : List AV := .sc (.string x.fClient) :: .sc (.int .i64 x.fBorn) :: .sc (.bool x.fClean) :: .sc (.int .i64 x.fConn) :: .sc (.int .i64 x.fGen) :: (A9 x.fO ++ Df x.fIn :: [])
def Kn (x : At) : Nat := x.fClient.size + (Eu x.fO + (x.fIn.length + 0))
def Vf (x : At) : Prop := Iq x.fClient ∧ Ct x.fBorn ∧ True ∧ Ct x.fConn ∧ Ct x.fGen ∧ R4 x.fO ∧ (x.fIn.length ≤ 9223372036854775807 ∧ ∀ z ∈ x.fIn, Ct z)
theorem Hg (x : At) : (Bq x).all Ip = true := rfl
def Us : List Nat := [9, 3, 4, 3, 3, 3, 24, 25, 39]
theorem Ae6 : ∃ i, Aq 53 = some i ∧ i.cty = Us := ⟨_, rfl, rfl⟩
def Gg : List AV := [(.sc (.string ⟨#[]⟩)), (.sc (.int .i64 0)), (.sc (.bool false)), (.sc (.int .i64 0)), (.sc (.int .i64 0)), (.sc (.int .i64 0)), .nl, .nl, .nl]
end
section
open Go
section own
variable {ti : Nat → Option TI} {tp : Nat → Option (List Nat)}
theorem E5 {f : Nat → AV → Option (AV × List Nat)} {t : Nat} {ts : List Nat} {x : AV} {xs : List AV} {p : List AV × List Nat} (h : Ce f (t :: ts) (x :: xs) = some p) :
  ∃ a b, f t x = some a ∧ Ce f ts xs = some b ∧ p = (a.1 :: b.1, a.2 ++ b.2) := by
 simp only [Ce, zaa] at h
 obtain ⟨a, h1, b, h2, h3⟩ := h
 exact ⟨a, b, h1, h2, (Option.some.inj h3).symm⟩
theorem Ir {f : Nat → AV → Option (AV × List Nat)} {ts : List Nat} {p : List AV × List Nat} (h : Ce f ts [] = some p) : ts = [] ∧ p = ([], []) := by
 cases ts with
 | nil => exact ⟨rfl, (Option.some.inj h).symm⟩
 | cons t ts => simp [Ce] at h
theorem R7 {f : Nat → AV → Option (AV × List Nat)} : ∀ {ts : List Nat} {xs : List AV} {p : List AV × List Nat}, Ce f ts xs = some p → ts.length = xs.length ∧ p.1.length = xs.length
 | ts, [], p, h => by
  obtain ⟨rfl, rfl⟩ := Ir h
  exact ⟨rfl, rfl⟩
 | [], _ :: _, p, h => by simp [Ce] at h
 | t :: ts, x :: xs, p, h => by
  obtain ⟨a, b, h1, h2, rfl⟩ := E5 h
  obtain ⟨e1, e2⟩ := R7 h2
  simp [e1, e2]
theorem F5 {f : Nat → AV → Option (AV × List Nat)} : ∀ {ts us : List Nat} {xs ys : List AV} {p q : List AV × List Nat}, Ce f ts xs = some p → Ce f us ys = some q → Ce f (ts ++ us) (xs ++ ys) = some (p.1 ++ q.1, p.2 ++ q.2)
 | ts, us, [], ys, p, q, h, h' => by
  obtain ⟨rfl, rfl⟩ := Ir h
  exact h'
 | [], _, _ :: _, _, _, _, h, _ => by simp [Ce] at h
 | t :: ts, us, x :: xs, ys, p, q, h, h' => by
  obtain ⟨a, b, h1, h2, rfl⟩ := E5 h
  have ih := F5 h2 h'
  rw [zax, zax, Ce, h1, zab, ih]
  simp
theorem D6 {f f' : Nat → AV → Option (AV × List Nat)} : ∀ {ts : List Nat} {xs : List AV} {p : List AV × List Nat}, (∀ t x a, f t x = some a → (∀ i ∈ a.2, i ∈ p.2) → f' t x = some a) → Ce f ts xs = some p → Ce f' ts xs = some p
 | ts, [], p, _, h => by
  obtain ⟨rfl, rfl⟩ := Ir h
  rfl
 | [], _ :: _, p, _, h => by simp [Ce] at h
 | t :: ts, x :: xs, p, hf, h => by
  obtain ⟨a, b, h1, h2, rfl⟩ := E5 h
  have e1 := hf t x a h1 fun i hi => zau _ hi
  have e2 := D6 (f' := f') (fun t x a' h hi => hf t x a' h fun i hi' => zaq _ (hi i hi')) h2
  rw [Ce, e1, zab, e2]
  rfl
theorem Dg {H H' : Ab} : ∀ (d ty : Nat) (x : AV) (p : AV × List Nat), B0 ti tp H d ty x = some p → (∀ i ∈ p.2, H'[i]? = H[i]?) → B0 ti tp H' d ty x = some p
 | 0, _, _, _, h, _ => by simp [B0] at h
 | d + 1, ty, x, p, h, hs => by
  cases x with
  | sc v => exact h
  | nl => exact h
  | sl id off n z =>
   rw [Fj] at h ⊢
   simp only [zaa] at h
   obtain ⟨i, h1, j, h2, h3⟩ := h
   split at h3
   case isFalse => cases h3
   rename_i hz
   split at h3
   case isFalse => cases h3
   rename_i ha
   simp only [zaa] at h3
   obtain ⟨cs, h4, q, h5, h6⟩ := h3
   obtain rfl := (Option.some.inj h6).symm
   have hid := hs id za6
   have e1 : E7 H' id = true := by simpa only [E7, hid] using ha
   have e2 : A3 H' id off (n * z) = some cs := by simpa only [A3, hid] using h4
   have e3 := D6 (f' := B0 ti tp H' d) (fun t x a h hi => Dg d t x a h fun i' hi' => hs i' (zaw _ (hi i' hi'))) h5
   simp only [h1, h2, zab, hz, if_true, e1, e3]
   rw [hz] at e2
   rw [e2]
   simp only [zab, e3]
  | agg cs =>
   rw [Ee] at h ⊢
   simp only [zaa] at h
   obtain ⟨i, h1, q, h2, h3⟩ := h
   obtain rfl := (Option.some.inj h3).symm
   have e3 := D6 (f' := B0 ti tp H' d) (fun t x a h hi => Dg d t x a h fun i' hi' => hs i' (hi i' hi')) h2
   rw [h1, zab, e3]
   rfl
  | tup cs =>
   rw [Fy] at h ⊢
   simp only [zaa] at h
   obtain ⟨i, h1, q, h2, h3⟩ := h
   obtain rfl := (Option.some.inj h3).symm
   have e3 := D6 (f' := B0 ti tp H' d) (fun t x a h hi => Dg d t x a h fun i' hi' => hs i' (hi i' hi')) h2
   rw [h1, zab, e3]
   rfl
  | _ => simp [B0] at h
theorem Og {f : Nat → AV → Option (AV × List Nat)} {N : Nat} : ∀ {ts : List Nat} {xs : List AV} {p : List AV × List Nat}, (∀ t x a, f t x = some a → ∀ i ∈ a.2, i < N) → Ce f ts xs = some p → ∀ i ∈ p.2, i < N
 | ts, [], p, _, h => by
  obtain ⟨rfl, rfl⟩ := Ir h
  intro i hi
  cases hi
 | [], _ :: _, p, _, h => by simp [Ce] at h
 | t :: ts, x :: xs, p, hf, h => by
  obtain ⟨a, b, h1, h2, rfl⟩ := E5 h
  intro i hi
  rcases zaB.1 hi with hi | hi
  ·exact hf t x a h1 i hi
  ·exact Og hf h2 i hi
theorem Kf {H : Ab} : ∀ (d ty : Nat) (x : AV) (p : AV × List Nat), B0 ti tp H d ty x = some p → ∀ i ∈ p.2, i < H.length
 | 0, _, _, _, h => by simp [B0] at h
 | d + 1, ty, x, p, h => by
  cases x with
  | sc v =>
   obtain rfl := (Option.some.inj h).symm
   intro i hi
   cases hi
  | nl =>
   obtain rfl := (Option.some.inj h).symm
   intro i hi
   cases hi
  | sl id off n z =>
   rw [Fj] at h
   simp only [zaa] at h
   obtain ⟨i, h1, j, h2, h3⟩ := h
   split at h3
   case isFalse => cases h3
   split at h3
   case isFalse => cases h3
   rename_i ha
   simp only [zaa] at h3
   obtain ⟨cs, h4, q, h5, h6⟩ := h3
   obtain rfl := (Option.some.inj h6).symm
   intro i' hi'
   rcases zay.1 hi' with rfl | hi'
   ·unfold E7 at ha
    cases hg : H[i']? with
    | none => rw [hg] at ha; cases ha
    | some b => exact (zac.1 hg).1
   ·exact Og (fun t x a h => Kf d t x a h) h5 i' hi'
  | agg cs =>
   rw [Ee] at h
   simp only [zaa] at h
   obtain ⟨i, h1, q, h2, h3⟩ := h
   obtain rfl := (Option.some.inj h3).symm
   exact Og (fun t x a h => Kf d t x a h) h2
  | tup cs =>
   rw [Fy] at h
   simp only [zaa] at h
   obtain ⟨i, h1, q, h2, h3⟩ := h
   obtain rfl := (Option.some.inj h3).symm
   exact Og (fun t x a h => Kf d t x a h) h2
  | _ => simp [B0] at h
end own
def OwnC (d : Nat) (H : Ab) (ts : List Nat) (raw cells : List AV) (ids : List Nat) : Prop := Ce (B0 Aq E0.tp H d) ts raw = some (cells, ids)
theorem OwnC.frame {d : Nat} {H H' : Ab} {ts : List Nat} {raw cells : List AV} {ids : List Nat} (h : OwnC d H ts raw cells ids) (hs : ∀ i ∈ ids, H'[i]? = H[i]?) : OwnC d H' ts raw cells ids :=
 D6 (fun t x a h hi => Dg d t x a h fun i hi' => hs i (hi i hi')) h
theorem OwnC.lt {d : Nat} {H : Ab} {ts : List Nat} {raw cells : List AV} {ids : List Nat} (h : OwnC d H ts raw cells ids) : ∀ i ∈ ids, i < H.length := Og (fun t x a h => Kf d t x a h) h
theorem OwnC.grow {d : Nat} {H : Ab} {ts : List Nat} {raw cells : List AV} {ids : List Nat} (h : OwnC d H ts raw cells ids) (X : List Gh) : OwnC d (H ++ X) ts raw cells ids :=
 h.frame fun i hi => zag (h.lt i hi)
theorem OwnC.append {d : Nat} {H : Ab} {ts us : List Nat} {raw raw' cells cells' : List AV} {ids ids' : List Nat} (h : OwnC d H ts raw cells ids) (h' : OwnC d H us raw' cells' ids') : OwnC d H (ts ++ us) (raw ++ raw') (cells ++ cells') (ids ++ ids') := F5 h h'
theorem OwnC.len {d : Nat} {H : Ab} {ts : List Nat} {raw cells : List AV} {ids : List Nat} (h : OwnC d H ts raw cells ids) : ts.length = raw.length ∧ cells.length = raw.length := R7 h
def OwnS (d : Nat) (H : Ab) (w : Nat) (cty : List Nat) (x : AV) (k : Nat) (cells : List AV) : Prop :=
 (x = .nl ∧ k = 0 ∧ cells = []) ∨ ∃ id raw ids, x = .sl id 0 k w ∧ H[id]? = some ⟨raw, true, true⟩ ∧ raw.length = k * w ∧ OwnC d H (zad k cty).flatten raw cells ids ∧ (id :: ids).Nodup
theorem OwnS.nil (d : Nat) (H : Ab) (w : Nat) (cty : List Nat) : OwnS d H w cty .nl 0 [] := .inl ⟨rfl, rfl, rfl⟩
theorem OwnS.grow {d : Nat} {H : Ab} {w : Nat} {cty : List Nat} {x : AV} {k : Nat} {cells : List AV} (h : OwnS d H w cty x k cells) (X : List Gh) : OwnS d (H ++ X) w cty x k cells := by
 rcases h with h | ⟨id, raw, ids, h1, h2, h3, h4, h5⟩
 ·exact .inl h
 ·exact .inr ⟨id, raw, ids, h1, by rw [zag (zac.1 h2).1]; exact h2, h3, h4.grow X, h5⟩
variable {β : Type} {n : Nat} {r : Option β}
theorem Zn (A : Ab) (b b' : Gh) (R : Ab) : (A ++ b :: R).set A.length b' = A ++ b' :: R := by
 rw [List.set_append_right _ _ (zai _), zaL]
 rfl
theorem Iu (A : Ab) (b : Gh) (R : Ab) : (A ++ b :: R)[A.length]? = some b := by
 rw [zaf (zai _), zaL]
 rfl
theorem Z3 {d : Nat} {H X : Ab} {w bytes : Nat} {cty : List Nat} {x : AV} {k : Nat} {cells er ec : List AV} {eids : List Nat} {K : KO β} (hx : OwnS d H w cty x k cells) (hw : er.length = w) (hl : er.all Ap = true)
  (he : OwnC d (H ++ X) cty er ec eids) (hn : eids.Nodup) (hge : ∀ i ∈ eids, H.length ≤ i) (hb : (k + 1) * bytes ≤ 140737488355328)
  (h : ∀ x' H', OwnS d H' w cty x' (k + 1) (cells ++ ec) → K x' H' = r) :
  E9 1 w er true (H ++ X) (fun y G => G4 w bytes x y G K) = r := by
 have hy : ∀ G : Ab, C3 (G ++ [⟨er, true, true⟩]) w (.sl G.length 0 1 w) = some er := by
  intro G
  simp only [C3, if_true, zbw, A3, Iu G _ [], zav, hw, zai, za7]
  rw [← hw, za3]
 have hell : (H ++ X).length ∉ eids := fun hm => Nat.lt_irrefl _ (he.lt _ hm)
 rcases hx with ⟨rfl, rfl, rfl⟩ | ⟨id, raw, ids, rfl, h2, h3, h4, h5⟩
 ·simp only [E9, G4, Gi, zab, hy]
  rw [show C3 (H ++ X ++ [⟨er, true, true⟩]) w .nl = some [] from rfl]
  simp only [zab, Lt]
  rw [if_pos hb, if_pos hl]
  refine h _ _ (.inr ⟨_, er, eids, rfl, ?_, by simp [hw], ?_, ?_⟩)
  ·rw [zaf (zai _), zaL]
   rfl
  ·simp only [zav, List.replicate_one, zaD, List.flatten_nil, zam, zah]
   exact (he.grow _).grow _
  ·rw [zaG]
   refine ⟨fun hm => ?_, hn⟩
   have := he.lt _ hm
   simp at this
   omega
 ·have hid : id < H.length := (zac.1 h2).1
  have hg : (H ++ X ++ [(⟨er, true, true⟩ : Gh)])[id]? = some ⟨raw, true, true⟩ := by
   rw [zaj, zag hid]
   exact h2
  have hcx : C3 (H ++ X ++ [⟨er, true, true⟩]) w (.sl id 0 k w) = some raw := by
   simp only [C3, if_true, A3, hg, zav, h3, zai, za7]
   rw [← h3, za3]
  simp only [E9, G4, Gi, zab, hy, hcx, Lt, hg, if_true]
  rw [if_pos hb, if_pos hl]
  have hn5 := zaG.1 h5
  have hne : ∀ i ∈ ids, i ≠ id := fun i hi e => hn5.1 (e ▸ hi)
  have hne2 : ∀ i ∈ eids, i ≠ id := fun i hi e => by
   have := hge i hi
   omega
  refine h _ _ (.inr ⟨_, raw ++ er, ids ++ eids, rfl, ?_, by simp [h3, hw, zbG], ?_, ?_⟩)
  ·rw [zaf (zai _), zaL]
   rfl
  ·have e : (zad (k + 1) cty).flatten = (zad k cty).flatten ++ cty := by
    rw [List.replicate_succ', za1]
    simp
   rw [e]
   refine OwnC.append ?_ ?_
   ·refine OwnC.grow (OwnC.frame (H := H ++ X ++ [⟨er, true, true⟩]) ((h4.grow X).grow _) fun i hi => ?_) _
    rw [za4 (fun e => hne i hi e.symm)]
   ·refine OwnC.grow (OwnC.frame (H := H ++ X ++ [⟨er, true, true⟩]) (he.grow _) fun i hi => ?_) _
    rw [za4 (fun e => hne2 i hi e.symm)]
  ·rw [zaG]
   refine ⟨fun hm => ?_, ?_⟩
   ·rcases zaB.1 hm with hm | hm
    ·have := h4.lt _ hm
     simp at this
     omega
    ·have := he.lt _ hm
     simp at this
     omega
   ·rw [zaI]
    refine ⟨hn5.2, hn, fun a ha b hb e => ?_⟩
    have h1 := h4.lt a ha
    have h2 := hge b hb
    omega
theorem Aa5 {d : Nat} {H : Ab} {ts : List Nat} {cs : List AV} (h : Eh (Gj Aq E0.tp d) ts cs) : OwnC d (H ++ (Bz Aq E0.tp H.length ts cs).2) ts (Bz Aq E0.tp H.length ts cs).1 cs (zaV H.length (Bz Aq E0.tp H.length ts cs).2.length) :=
 Id (fun ty t N h h' _ => Fk d ty t N h h') ts cs H.length h (Jk _ _) (Er _ _ _)
theorem Qu {d : Nat} {H : Ab} {w tyS k : Nat} {cty : List Nat} {x : AV} {cells : List AV} (hty : ∃ i j, Aq tyS = some i ∧ Aq i.elem = some j ∧ j.size = w ∧ j.cty = cty) (h : OwnS d H w cty x k cells) : ∃ ids, B0 Aq E0.tp H (d + 1) tyS x = some (.ro k cells, ids) ∧ ids.Nodup := by
 rcases h with ⟨rfl, rfl, rfl⟩ | ⟨id, raw, ids, rfl, h2, h3, h4, h5⟩
 ·exact ⟨[], rfl, zb3⟩
 ·obtain ⟨i, j, e1, e2, rfl, rfl⟩ := hty
  refine ⟨id :: ids, ?_, h5⟩
  rw [Fj]
  have ha : E7 H id = true := by simp only [E7, h2]
  have hr : A3 H id 0 (k * j.size) = some raw := by
   simp only [A3, h2, if_true, zav, h3, zai, za7]
   rw [← h3, za3]
  have h4' : Ce (B0 Aq E0.tp H d) (zad k j.cty).flatten raw = some (cells, ids) := h4
  simp only [e1, e2, zab, if_true, ha, hr, h4']
end
section
open Go
section
variable {ti : Nat → Option TI} {tp : Nat → Option (List Nat)} {H : Ab}
theorem Me {d d' : Nat} (hd : ∀ ty x t I, B0 ti tp H d ty x = some (t, I) → Gj ti tp d' ty t → B0 ti tp H d' ty x = some (t, I)) : ∀ (ts : List Nat) (xs cells : List AV) (I : List Nat), Ce (B0 ti tp H d) ts xs = some (cells, I) → Eh (Gj ti tp d') ts cells → Ce (B0 ti tp H d') ts xs = some (cells, I)
 | ts, [], cells, I, h, _ => by
  obtain ⟨rfl, e⟩ := Ir h
  cases e
  rfl
 | [], _ :: _, _, _, h, _ => by simp [Ce] at h
 | t :: ts, x :: xs, cells, I, h, ho => by
  obtain ⟨a, b, h1, h2, e⟩ := E5 h
  cases e
  have e1 := hd t x a.1 a.2 h1 ho.1
  have e2 := Me hd ts xs b.1 b.2 h2 ho.2
  rw [Ce, e1, zab, e2]
  rfl
theorem Hx : ∀ (d d' ty : Nat) (x t : AV) (I : List Nat), B0 ti tp H d ty x = some (t, I) → Gj ti tp d' ty t → B0 ti tp H d' ty x = some (t, I)
 | 0, _, _, _, _, _, h, _ => by simp [B0] at h
 | d + 1, 0, _, _, _, _, _, ho => by cases ho
 | d + 1, d' + 1, ty, x, t, I, h, ho => by
  cases x with
  | sc v =>
   obtain ⟨rfl, rfl⟩ : AV.sc v = t ∧ [] = I := by simpa [B0] using h
   rfl
  | nl =>
   obtain ⟨rfl, rfl⟩ : AV.ro 0 [] = t ∧ [] = I := by simpa [B0] using h
   rfl
  | sl id off n z =>
   rw [Fj] at h ⊢
   simp only [zaa] at h
   obtain ⟨i, h1, j, h2, h3⟩ := h
   split at h3
   case isFalse => cases h3
   rename_i hz
   split at h3
   case isFalse => cases h3
   rename_i ha
   simp only [zaa] at h3
   obtain ⟨cs, h4, q, h5, h6⟩ := h3
   obtain ⟨rfl, rfl⟩ : AV.ro n q.1 = t ∧ id :: q.2 = I := by simpa using h6
   obtain ⟨i', j', g1, g2, g3, g4⟩ := ho
   rw [h1] at g1
   cases g1
   rw [h2] at g2
   cases g2
   have e3 := Me (fun ty x t I h ho => Hx d d' ty x t I h ho) _ _ _ _ h5 g4
   rw [hz] at h4
   simp only [h1, h2, zab, hz, if_true, ha, h4, e3]
  | agg cs =>
   rw [Ee] at h ⊢
   simp only [zaa] at h
   obtain ⟨i, h1, q, h2, h3⟩ := h
   obtain ⟨rfl, rfl⟩ : AV.agg q.1 = t ∧ q.2 = I := by simpa using h3
   obtain ⟨i', g1, g2⟩ := ho
   rw [h1] at g1
   cases g1
   have e3 := Me (fun ty x t I h ho => Hx d d' ty x t I h ho) _ _ _ _ h2 g2
   rw [h1, zab, e3]
   rfl
  | tup cs =>
   rw [Fy] at h ⊢
   simp only [zaa] at h
   obtain ⟨i, h1, q, h2, h3⟩ := h
   obtain ⟨rfl, rfl⟩ : AV.tup q.1 = t ∧ q.2 = I := by simpa using h3
   obtain ⟨i', g1, g2⟩ := ho
   rw [h1] at g1
   cases g1
   have e3 := Me (fun ty x t I h ho => Hx d d' ty x t I h ho) _ _ _ _ h2 g2
   rw [h1, zab, e3]
   rfl
  | _ => simp [B0] at h
theorem T7 {d : Nat} (hd : ∀ ty x t I, B0 ti tp H d ty x = some (t, I) → Dm H d x = some t) : ∀ (ts : List Nat) (xs cells : List AV) (I : List Nat), Ce (B0 ti tp H d) ts xs = some (cells, I) → xs.mapM (Dm H d) = some cells
 | ts, [], cells, I, h => by
  obtain ⟨rfl, e⟩ := Ir h
  cases e
  rfl
 | [], _ :: _, _, _, h => by simp [Ce] at h
 | t :: ts, x :: xs, cells, I, h => by
  obtain ⟨a, b, h1, h2, e⟩ := E5 h
  cases e
  simp only [zaT, hd t x a.1 a.2 h1, T7 hd ts xs b.1 b.2 h2, zbe, zaS, zab]
theorem Mf : ∀ (d ty : Nat) (x t : AV) (I : List Nat), B0 ti tp H d ty x = some (t, I) → Dm H d x = some t
 | 0, _, _, _, _, h => by simp [B0] at h
 | d + 1, ty, x, t, I, h => by
  have ih := T7 (ti := ti) (tp := tp) (H := H) (d := d) (fun ty x t I h => Mf d ty x t I h)
  cases x with
  | sc v =>
   obtain ⟨rfl, rfl⟩ : AV.sc v = t ∧ [] = I := by simpa [B0] using h
   rfl
  | nl =>
   obtain ⟨rfl, rfl⟩ : AV.ro 0 [] = t ∧ [] = I := by simpa [B0] using h
   rfl
  | sl id off n z =>
   rw [Fj] at h
   simp only [zaa] at h
   obtain ⟨i, h1, j, h2, h3⟩ := h
   split at h3
   case isFalse => cases h3
   split at h3
   case isFalse => cases h3
   simp only [zaa] at h3
   obtain ⟨cs, h4, q, h5, h6⟩ := h3
   obtain ⟨rfl, rfl⟩ : AV.ro n q.1 = t ∧ id :: q.2 = I := by simpa using h6
   rw [O3, h4, zab, ih _ _ _ _ h5]
   rfl
  | agg cs =>
   rw [Ee] at h
   simp only [zaa] at h
   obtain ⟨i, h1, q, h2, h3⟩ := h
   obtain ⟨rfl, rfl⟩ : AV.agg q.1 = t ∧ q.2 = I := by simpa using h3
   rw [M1, ih _ _ _ _ h2]
   rfl
  | tup cs =>
   rw [Fy] at h
   simp only [zaa] at h
   obtain ⟨i, h1, q, h2, h3⟩ := h
   obtain ⟨rfl, rfl⟩ : AV.tup q.1 = t ∧ q.2 = I := by simpa using h3
   show (cs.mapM (Dm H d)).bind _ = _
   rw [ih _ _ _ _ h2]
   rfl
  | _ => simp [B0] at h
theorem Kx {f g : Nat → AV → Prop} (hfg : ∀ t x, f t x → g t x) : ∀ {ts : List Nat} {cs : List AV}, Eh f ts cs → Eh g ts cs
 | [], [], h => h
 | _ :: ts, _ :: cs, h => ⟨hfg _ _ h.1, Kx hfg h.2⟩
theorem Of : ∀ (d ty : Nat) (x : AV), Gj ti tp d ty x → Gj ti tp (d + 1) ty x
 | 0, _, _, h => by cases h
 | d + 1, ty, x, h => by
  cases x with
  | sc v => trivial
  | ro n cells =>
   obtain ⟨i, j, h1, h2, h3, h4⟩ := h
   exact ⟨i, j, h1, h2, h3, Kx (Of d) h4⟩
  | agg cs =>
   obtain ⟨i, h1, h2⟩ := h
   exact ⟨i, h1, Kx (Of d) h2⟩
  | tup cs =>
   obtain ⟨i, h1, h2⟩ := h
   exact ⟨i, h1, Kx (Of d) h2⟩
  | _ => cases h
theorem A7 {d d' ty : Nat} {x : AV} (h : Gj ti tp d ty x) (hd : d ≤ d') : Gj ti tp d' ty x := by
 induction hd with
 | refl => exact h
 | step _ ih => exact Of _ _ _ ih
theorem Aay {d d' : Nat} {ts : List Nat} {cs : List AV} (h : Eh (Gj ti tp d) ts cs) (hd : d ≤ d') : Eh (Gj ti tp d') ts cs := Kx (fun _ _ h => A7 h hd) h
end
inductive Ck where
 | blk (id : Nat) (cs : List AV) (a : Bool)
 | own (x : AV) (ty : Nat) (t : AV)
 | shr (x : AV) (ty : Nat) (t : AV) (y : AV) (ty' : Nat) (t' : AV)
 | shs (x : AV) (ty : Nat) (t : AV) (ys : List (AV × Nat × AV))
def CkOk (H : Ab) (c : Ck) (I : List Nat) : Prop :=
 match c with
 | .blk id cs a => I = [id] ∧ H[id]? = some ⟨cs, true, a⟩
 | .own x ty t => Ap x = true ∧ Gj Aq E0.tp 6 ty t ∧ B0 Aq E0.tp H 6 ty x = some (t, I)
 | .shr x ty t y ty' t' => (Ap x = true ∧ Gj Aq E0.tp 6 ty t ∧ B0 Aq E0.tp H 6 ty x = some (t, I)) ∧ Gj Aq E0.tp 6 ty' t' ∧ ∃ J, B0 Aq E0.tp H 6 ty' y = some (t', J) ∧ ∀ i ∈ J, i ∈ I
 | .shs x ty t ys => (Ap x = true ∧ Gj Aq E0.tp 6 ty t ∧ B0 Aq E0.tp H 6 ty x = some (t, I)) ∧ ∀ q ∈ ys, Gj Aq E0.tp 6 q.2.1 q.2.2 ∧ ∃ J, B0 Aq E0.tp H 6 q.2.1 q.1 = some (q.2.2, J) ∧ ∀ i ∈ J, i ∈ I
def SepI (H : Ab) : List Ck → List Nat → Prop
 | [], I => I = []
 | c :: L, I => ∃ J R, I = J ++ R ∧ CkOk H c J ∧ SepI H L R
def Sep (H : Ab) (L : List Ck) : Prop := ∃ I, SepI H L I ∧ I.Nodup
inductive Pk : List Ck → Ck → List Ck → Prop
 | here {c : Ck} {L : List Ck} : Pk (c :: L) c L
 | there {a c : Ck} {L L' : List Ck} : Pk L c L' → Pk (a :: L) c (a :: L')
section
variable {H H' : Ab} {L L' L1 L2 : List Ck} {c : Ck} {I J R : List Nat}
theorem Hz : Sep H [] := ⟨[], rfl, zb3⟩
theorem CkOk.frame (h : CkOk H c I) (hs : ∀ i ∈ I, H'[i]? = H[i]?) : CkOk H' c I := by
 cases c with
 | blk id cs a =>
  obtain ⟨rfl, h2⟩ := h
  exact ⟨rfl, by rw [hs id (by simp)]; exact h2⟩
 | own x ty t => exact ⟨h.1, h.2.1, Dg 6 ty x _ h.2.2 hs⟩
 | shr x ty t y ty' t' =>
  obtain ⟨⟨h1, h2, h3⟩, h4, J, h5, h6⟩ := h
  exact ⟨⟨h1, h2, Dg 6 ty x _ h3 hs⟩, h4, J, Dg 6 ty' y _ h5 fun i hi => hs i (h6 i hi), h6⟩
 | shs x ty t ys =>
  obtain ⟨⟨h1, h2, h3⟩, h4⟩ := h
  exact ⟨⟨h1, h2, Dg 6 ty x _ h3 hs⟩, fun q hq => by
   obtain ⟨g1, J, g2, g3⟩ := h4 q hq
   exact ⟨g1, J, Dg 6 _ _ _ g2 fun i hi => hs i (g3 i hi), g3⟩⟩
theorem CkOk.lt (h : CkOk H c I) : ∀ i ∈ I, i < H.length := by
 cases c with
 | blk id cs a =>
  obtain ⟨rfl, h2⟩ := h
  intro i hi
  rw [zbu] at hi
  subst hi
  exact (zac.1 h2).1
 | own x ty t => exact Kf 6 ty x _ h.2.2
 | shr x ty t y ty' t' => exact Kf 6 ty x _ h.1.2.2
 | shs x ty t ys => exact Kf 6 ty x _ h.1.2.2
theorem SepI.frame : ∀ {L : List Ck} {I : List Nat}, SepI H L I → (∀ i ∈ I, H'[i]? = H[i]?) → SepI H' L I
 | [], I, h, _ => h
 | c :: L, I, h, hs => by
  obtain ⟨J, R, rfl, h1, h2⟩ := h
  exact ⟨J, R, rfl, h1.frame fun i hi => hs i (zau _ hi), h2.frame fun i hi => hs i (zaq _ hi)⟩
theorem SepI.lt : ∀ {L : List Ck} {I : List Nat}, SepI H L I → ∀ i ∈ I, i < H.length
 | [], I, h => by
  cases (show I = [] from h)
  intro i hi
  cases hi
 | c :: L, I, h => by
  obtain ⟨J, R, rfl, h1, h2⟩ := h
  intro i hi
  rcases zaB.1 hi with hi | hi
  ·exact h1.lt i hi
  ·exact h2.lt i hi
theorem SepI.grow (h : SepI H L I) (X : List Gh) : SepI (H ++ X) L I := h.frame fun i hi => zag (h.lt i hi)
theorem Sep.grow (h : Sep H L) (X : List Gh) : Sep (H ++ X) L := by
 obtain ⟨I, h1, h2⟩ := h
 exact ⟨I, h1.grow X, h2⟩
theorem Sep.new {X : List Gh} (hs : Sep H L) (hc : CkOk (H ++ X) c J) (hJ : J.Nodup) (hge : ∀ i ∈ J, H.length ≤ i) : Sep (H ++ X) (c :: L) := by
 obtain ⟨I, h1, h2⟩ := hs
 refine ⟨J ++ I, ⟨J, I, rfl, hc, h1.grow X⟩, zaI.2 ⟨hJ, h2, fun a ha b hb e => ?_⟩⟩
 have := h1.lt b hb
 have := hge a ha
 omega
theorem Pk.sepI : ∀ {L L' : List Ck} {c : Ck} {I : List Nat}, Pk L c L' → SepI H L I → ∃ J R, CkOk H c J ∧ SepI H L' R ∧ I.Perm (J ++ R)
 | _, _, _, _, .here, h => by
  obtain ⟨J, R, rfl, h1, h2⟩ := h
  exact ⟨J, R, h1, h2, zb1.refl _⟩
 | _, _, _, _, .there p, h => by
  obtain ⟨J, R, rfl, h1, h2⟩ := h
  obtain ⟨J', R', g1, g2, g3⟩ := p.sepI h2
  refine ⟨J', J ++ R', g1, ⟨J, R', rfl, h1, g2⟩, ?_⟩
  refine (zb1.append_left J g3).trans ?_
  rw [← zaj, ← zaj]
  exact zb1.append_right R' List.perm_append_comm
theorem Sep.pick (h : Sep H L) (p : Pk L c L') : Sep H (c :: L') := by
 obtain ⟨I, h1, h2⟩ := h
 obtain ⟨J, R, g1, g2, g3⟩ := p.sepI h1
 exact ⟨J ++ R, ⟨J, R, rfl, g1, g2⟩, g3.nodup_iff.1 h2⟩
theorem Sep.tail (h : Sep H (c :: L)) : Sep H L := by
 obtain ⟨I, ⟨J, R, rfl, h1, h2⟩, h3⟩ := h
 exact ⟨R, h2, (zaI.1 h3).2.1⟩
theorem Sep.blk {id : Nat} {cs : List AV} {a : Bool} (h : Sep H L) (p : Pk L (.blk id cs a) L') : H[id]? = some ⟨cs, true, a⟩ := by
 obtain ⟨I, ⟨J, R, rfl, h1, h2⟩, h3⟩ := h.pick p
 exact h1.2
theorem Sep.put {id : Nat} {cs : List AV} {a : Bool} (h : Sep H L) (p : Pk L (.blk id cs a) L') (cs' : List AV) (a' : Bool) : Sep (H.set id ⟨cs', true, a'⟩) (.blk id cs' a' :: L') := by
 obtain ⟨I, ⟨J, R, rfl, ⟨rfl, h1⟩, h2⟩, h3⟩ := h.pick p
 have hn := (zaG.1 h3).1
 have hl := (zac.1 h1).1
 refine ⟨[id] ++ R, ⟨[id], R, rfl, ⟨rfl, by rw [zaX hl]⟩, h2.frame fun i hi => ?_⟩, h3⟩
 rw [za4]
 rintro rfl
 exact hn hi
theorem Sep.own {x t : AV} {ty : Nat} (h : Sep H L) (p : Pk L (.own x ty t) L') : Ap x = true ∧ Gj Aq E0.tp 6 ty t ∧ ∃ I, B0 Aq E0.tp H 6 ty x = some (t, I) ∧ I.Nodup := by
 obtain ⟨I, ⟨J, R, rfl, ⟨h0, h1, h1'⟩, h2⟩, h3⟩ := h.pick p
 exact ⟨h0, h1, J, h1', (zaI.1 h3).1⟩
theorem Sep.seen {x t y t' : AV} {ty ty' : Nat} (h : Sep H L) (p : Pk L (.shr x ty t y ty' t') L') : Gj Aq E0.tp 6 ty' t' ∧ ∃ I, B0 Aq E0.tp H 6 ty' y = some (t', I) := by
 obtain ⟨I, ⟨J, R, rfl, ⟨h0, h1, J', h1', h3⟩, h2⟩, h4⟩ := h.pick p
 exact ⟨h1, J', h1'⟩
theorem Sep.toShs {x t : AV} {ty : Nat} (h : Sep H L) (p : Pk L (.own x ty t) L') : Sep H (.shs x ty t [] :: L') := by
 obtain ⟨I, ⟨J, R, rfl, h0, h2⟩, h3⟩ := h.pick p
 exact ⟨J ++ R, ⟨J, R, rfl, ⟨h0, fun q hq => by cases hq⟩, h2⟩, h3⟩
theorem Sep.ofShs {x t : AV} {ty : Nat} {ys : List (AV × Nat × AV)} (h : Sep H L) (p : Pk L (.shs x ty t ys) L') : Sep H (.own x ty t :: L') := by
 obtain ⟨I, ⟨J, R, rfl, ⟨h0, _⟩, h2⟩, h3⟩ := h.pick p
 exact ⟨J ++ R, ⟨J, R, rfl, h0, h2⟩, h3⟩
theorem Sep.seenS {x t : AV} {ty k : Nat} {ys : List (AV × Nat × AV)} {q : AV × Nat × AV} (h : Sep H L) (p : Pk L (.shs x ty t ys) L') (hk : ys[k]? = some q) : Gj Aq E0.tp 6 q.2.1 q.2.2 ∧ ∃ I, B0 Aq E0.tp H 6 q.2.1 q.1 = some (q.2.2, I) := by
 obtain ⟨I, ⟨J, R, rfl, ⟨h0, h1⟩, h2⟩, h4⟩ := h.pick p
 obtain ⟨g1, J', g2, _⟩ := h1 q (List.mem_of_getElem? hk)
 exact ⟨g1, J', g2⟩
theorem Sep.forget {x t y t' : AV} {ty ty' : Nat} (h : Sep H L) (p : Pk L (.shr x ty t y ty' t') L') : Sep H (.own x ty t :: L') := by
 obtain ⟨I, ⟨J, R, rfl, ⟨h0, _⟩, h2⟩, h4⟩ := h.pick p
 exact ⟨J ++ R, ⟨J, R, rfl, h0, h2⟩, h4⟩
theorem Sep.nl {ty : Nat} (h : Sep H L) (hty : ∃ i j, Aq ty = some i ∧ Aq i.elem = some j) : Sep H (.own .nl ty (.ro 0 []) :: L) := by
 obtain ⟨I, h1, h2⟩ := h
 obtain ⟨i, j, e1, e2⟩ := hty
 exact ⟨[] ++ I, ⟨[], I, rfl, ⟨rfl, ⟨i, j, e1, e2, by simp, by simp [Eh]⟩, rfl⟩, h1⟩, h2⟩
inductive OwnR : List Ck → List AV → List Nat → List AV → List Ck → Prop
 | nil {L : List Ck} : OwnR L [] [] [] L
 | sc {L L' : List Ck} {v : Value} {raw cells : List AV} {ty : Nat} {tys : List Nat} : OwnR L raw tys cells L' → OwnR L (.sc v :: raw) (ty :: tys) (.sc v :: cells) L'
 | nl {L L' : List Ck} {raw cells : List AV} {ty : Nat} {tys : List Nat} : OwnR L raw tys cells L' → OwnR L (.nl :: raw) (ty :: tys) (.ro 0 [] :: cells) L'
 | own {L L1 L' : List Ck} {x t : AV} {raw cells : List AV} {ty : Nat} {tys : List Nat} : Pk L (.own x ty t) L1 → OwnR L1 raw tys cells L' → OwnR L (x :: raw) (ty :: tys) (t :: cells) L'
 | agg {L L1 L' : List Ck} {cs ts raw cells : List AV} {ty : Nat} {tys cty : List Nat} : (∃ i, Aq ty = some i ∧ i.cty = cty) → OwnR L cs cty ts L1 → OwnR L1 raw tys cells L' → OwnR L (.agg cs :: raw) (ty :: tys) (.agg ts :: cells) L'
theorem OwnR.sound : ∀ {L L' : List Ck} {raw cells : List AV} {tys : List Nat} {I : List Nat}, OwnR L raw tys cells L' → SepI H L I → ∀ d, Eh (Gj Aq E0.tp d) tys cells → ∃ J R, Ce (B0 Aq E0.tp H d) tys raw = some (cells, J) ∧ SepI H L' R ∧ I.Perm (J ++ R)
 | _, _, _, _, _, I, .nil, h, d, _ => ⟨[], I, rfl, h, zb1.refl _⟩
 | _, _, _, _, _, I, .sc q, h, d + 1, ho => by
  obtain ⟨J, R, h1, h2, h3⟩ := q.sound h (d + 1) ho.2
  refine ⟨J, R, ?_, h2, h3⟩
  rw [Ce, G7, zab, h1]
  rfl
 | _, _, _, _, _, I, .nl q, h, d + 1, ho => by
  obtain ⟨J, R, h1, h2, h3⟩ := q.sound h (d + 1) ho.2
  refine ⟨J, R, ?_, h2, h3⟩
  rw [Ce, show B0 Aq E0.tp H (d + 1) _ .nl = some (.ro 0 [], []) from rfl, zab, h1]
  rfl
 | _, _, _, _, _, I, .own p q, h, d, ho => by
  obtain ⟨J1, R1, g1, g2, g3⟩ := p.sepI h
  obtain ⟨J, R, h1, h2, h3⟩ := q.sound g2 d ho.2
  have e := Hx 6 d _ _ _ _ g1.2.2 ho.1
  refine ⟨J1 ++ J, R, ?_, h2, ?_⟩
  ·rw [Ce, e, zab, h1]
   rfl
  ·refine g3.trans ?_
   rw [zaj]
   exact zb1.append_left J1 h3
 | _, _, _, _, _, I, .agg hty p q, h, d + 1, ho => by
  obtain ⟨i, e1, rfl⟩ := hty
  obtain ⟨i', g1, g2⟩ := ho.1
  rw [e1] at g1
  cases g1
  obtain ⟨J1, R1, a1, a2, a3⟩ := p.sound h (d + 1) (Aay g2 (Nat.le_succ d))
  obtain ⟨J, R, h1, h2, h3⟩ := q.sound a2 (d + 1) ho.2
  have a1' := Me (fun ty x t I h ho => Hx (d + 1) d ty x t I h ho) _ _ _ _ a1 g2
  refine ⟨J1 ++ J, R, ?_, h2, ?_⟩
  ·rw [Ce, Ee, e1, zab, a1', zab, zab, h1]
   rfl
  ·refine a3.trans ?_
   rw [zaj]
   exact zb1.append_left J1 h3
 | _, _, _, _, _, I, .sc q, h, 0, ho => by cases ho.1
 | _, _, _, _, _, I, .nl q, h, 0, ho => by cases ho.1
 | _, _, _, _, _, I, .agg _ p q, h, 0, ho => by cases ho.1
end
end
section
open Go
theorem Aw {a0 x : Ck} {L : List Ck} : Pk (a0 :: x :: L) x (a0 :: L) := .there (.here)
theorem Ca {a0 a1 x : Ck} {L : List Ck} : Pk (a0 :: a1 :: x :: L) x (a0 :: a1 :: L) := .there (.there (.here))
theorem Bn {a0 a1 a2 x : Ck} {L : List Ck} : Pk (a0 :: a1 :: a2 :: x :: L) x (a0 :: a1 :: a2 :: L) := .there (.there (.there (.here)))
theorem F2 {a0 a1 a2 a3 x : Ck} {L : List Ck} : Pk (a0 :: a1 :: a2 :: a3 :: x :: L) x (a0 :: a1 :: a2 :: a3 :: L) := .there (.there (.there (.there (.here))))
theorem Fu {a0 a1 a2 a3 a4 x : Ck} {L : List Ck} : Pk (a0 :: a1 :: a2 :: a3 :: a4 :: x :: L) x (a0 :: a1 :: a2 :: a3 :: a4 :: L) := .there (.there (.there (.there (.there (.here)))))
theorem Xq {a0 a1 a2 a3 a4 a5 x : Ck} {L : List Ck} : Pk (a0 :: a1 :: a2 :: a3 :: a4 :: a5 :: x :: L) x (a0 :: a1 :: a2 :: a3 :: a4 :: a5 :: L) := .there (.there (.there (.there (.there (.there (.here))))))
theorem S4 {a0 a1 a2 a3 a4 a5 a6 x : Ck} {L : List Ck} : Pk (a0 :: a1 :: a2 :: a3 :: a4 :: a5 :: a6 :: x :: L) x (a0 :: a1 :: a2 :: a3 :: a4 :: a5 :: a6 :: L) := .there (.there (.there (.there (.there (.there (.there (.here)))))))
theorem zP8 {a0 a1 a2 a3 a4 a5 a6 a7 x : Ck} {L : List Ck} : Pk (a0 :: a1 :: a2 :: a3 :: a4 :: a5 :: a6 :: a7 :: x :: L) x (a0 :: a1 :: a2 :: a3 :: a4 :: a5 :: a6 :: a7 :: L) := .there (.there (.there (.there (.there (.there (.there (.there (.here))))))))
theorem D3 {a0 a1 a2 a3 a4 a5 a6 a7 a8 x : Ck} {L : List Ck} : Pk (a0 :: a1 :: a2 :: a3 :: a4 :: a5 :: a6 :: a7 :: a8 :: x :: L) x (a0 :: a1 :: a2 :: a3 :: a4 :: a5 :: a6 :: a7 :: a8 :: L) := .there (.there (.there (.there (.there (.there (.there (.there (.there (.here)))))))))
theorem Vo {a0 a1 a2 a3 a4 a5 a6 a7 a8 a9 x : Ck} {L : List Ck} : Pk (a0 :: a1 :: a2 :: a3 :: a4 :: a5 :: a6 :: a7 :: a8 :: a9 :: x :: L) x (a0 :: a1 :: a2 :: a3 :: a4 :: a5 :: a6 :: a7 :: a8 :: a9 :: L) := .there (.there (.there (.there (.there (.there (.there (.there (.there (.there (.here))))))))))
theorem Hl {a0 a1 a2 a3 a4 a5 a6 a7 a8 a9 a10 x : Ck} {L : List Ck} : Pk (a0 :: a1 :: a2 :: a3 :: a4 :: a5 :: a6 :: a7 :: a8 :: a9 :: a10 :: x :: L) x (a0 :: a1 :: a2 :: a3 :: a4 :: a5 :: a6 :: a7 :: a8 :: a9 :: a10 :: L) := .there (.there (.there (.there (.there (.there (.there (.there (.there (.there (.there (.here)))))))))))
theorem Agy {a0 a1 a2 a3 a4 a5 a6 a7 a8 a9 a10 a11 x : Ck} {L : List Ck} : Pk (a0 :: a1 :: a2 :: a3 :: a4 :: a5 :: a6 :: a7 :: a8 :: a9 :: a10 :: a11 :: x :: L) x (a0 :: a1 :: a2 :: a3 :: a4 :: a5 :: a6 :: a7 :: a8 :: a9 :: a10 :: a11 :: L) := .there (.there (.there (.there (.there (.there (.there (.there (.there (.there (.there (.there (.here))))))))))))
theorem Vp {a0 a1 a2 a3 a4 a5 a6 a7 a8 a9 a10 a11 a12 x : Ck} {L : List Ck} : Pk (a0 :: a1 :: a2 :: a3 :: a4 :: a5 :: a6 :: a7 :: a8 :: a9 :: a10 :: a11 :: a12 :: x :: L) x (a0 :: a1 :: a2 :: a3 :: a4 :: a5 :: a6 :: a7 :: a8 :: a9 :: a10 :: a11 :: a12 :: L) := .there (.there (.there (.there (.there (.there (.there (.there (.there (.there (.there (.there (.there (.here)))))))))))))
theorem Agz {a0 a1 a2 a3 a4 a5 a6 a7 a8 a9 a10 a11 a12 a13 x : Ck} {L : List Ck} : Pk (a0 :: a1 :: a2 :: a3 :: a4 :: a5 :: a6 :: a7 :: a8 :: a9 :: a10 :: a11 :: a12 :: a13 :: x :: L) x (a0 :: a1 :: a2 :: a3 :: a4 :: a5 :: a6 :: a7 :: a8 :: a9 :: a10 :: a11 :: a12 :: a13 :: L) := .there (.there (.there (.there (.there (.there (.there (.there (.there (.there (.there (.there (.there (.there (.here))))))))))))))
theorem Vq {a0 a1 a2 a3 a4 a5 a6 a7 a8 a9 a10 a11 a12 a13 a14 x : Ck} {L : List Ck} : Pk (a0 :: a1 :: a2 :: a3 :: a4 :: a5 :: a6 :: a7 :: a8 :: a9 :: a10 :: a11 :: a12 :: a13 :: a14 :: x :: L) x (a0 :: a1 :: a2 :: a3 :: a4 :: a5 :: a6 :: a7 :: a8 :: a9 :: a10 :: a11 :: a12 :: a13 :: a14 :: L) := .there (.there (.there (.there (.there (.there (.there (.there (.there (.there (.there (.there (.there (.there (.there (.here)))))))))))))))
theorem AjS {a0 a1 a2 a3 a4 a5 a6 a7 a8 a9 a10 a11 a12 a13 a14 a15 x : Ck} {L : List Ck} : Pk (a0 :: a1 :: a2 :: a3 :: a4 :: a5 :: a6 :: a7 :: a8 :: a9 :: a10 :: a11 :: a12 :: a13 :: a14 :: a15 :: x :: L) x (a0 :: a1 :: a2 :: a3 :: a4 :: a5 :: a6 :: a7 :: a8 :: a9 :: a10 :: a11 :: a12 :: a13 :: a14 :: a15 :: L) := .there (.there (.there (.there (.there (.there (.there (.there (.there (.there (.there (.there (.there (.there (.there (.there (.here))))))))))))))))
theorem AjT {a0 a1 a2 a3 a4 a5 a6 a7 a8 a9 a10 a11 a12 a13 a14 a15 a16 x : Ck} {L : List Ck} : Pk (a0 :: a1 :: a2 :: a3 :: a4 :: a5 :: a6 :: a7 :: a8 :: a9 :: a10 :: a11 :: a12 :: a13 :: a14 :: a15 :: a16 :: x :: L) x (a0 :: a1 :: a2 :: a3 :: a4 :: a5 :: a6 :: a7 :: a8 :: a9 :: a10 :: a11 :: a12 :: a13 :: a14 :: a15 :: a16 :: L) := .there (.there (.there (.there (.there (.there (.there (.there (.there (.there (.there (.there (.there (.there (.there (.there (.there (.here)))))))))))))))))
theorem AjU {a0 a1 a2 a3 a4 a5 a6 a7 a8 a9 a10 a11 a12 a13 a14 a15 a16 a17 x : Ck} {L : List Ck} : Pk (a0 :: a1 :: a2 :: a3 :: a4 :: a5 :: a6 :: a7 :: a8 :: a9 :: a10 :: a11 :: a12 :: a13 :: a14 :: a15 :: a16 :: a17 :: x :: L) x (a0 :: a1 :: a2 :: a3 :: a4 :: a5 :: a6 :: a7 :: a8 :: a9 :: a10 :: a11 :: a12 :: a13 :: a14 :: a15 :: a16 :: a17 :: L) := .there (.there (.there (.there (.there (.there (.there (.there (.there (.there (.there (.there (.there (.there (.there (.there (.there (.there (.here))))))))))))))))))
def Gd {β : Type} (G : Option β → Prop) (o : Option β) : Prop := G o
section
variable {β : Type} {n : Nat} {H : Ab} {L L' L1 L2 : List Ck} {G : Option β → Prop} {K : AV → Option β} {KH : KO β}
theorem Dy {a b : Option β} (e : a = b) (h : Gd G b) : Gd G a := by rw [e]; exact h
theorem D1 {cs : List AV} (hs : Sep H L) (h : ∀ i H', Sep H' (.blk i cs true :: L) → Gd G (KH (.ptr i 0) H')) : Gd G (Je cs H fun x H => KH x H) :=
 h _ _ (hs.new (J := [H.length]) ⟨rfl, by rw [zaf (zai _), zaL]; rfl⟩ (by simp) (by simp))
theorem Au {k w : Nat} {cs : List AV} {a : Bool} (hs : Sep H L) (h : ∀ i H', Sep H' (.blk i cs a :: L) → Gd G (KH (.sl i 0 k w) H')) : Gd G (E9 k w cs a H fun x H => KH x H) :=
 h _ _ (hs.new (J := [H.length]) ⟨rfl, by rw [zaf (zai _), zaL]; rfl⟩ (by simp) (by simp))
theorem N3 {x : AV} {cs : List AV} (hs : Sep H L) (hc : Cq x = some cs) (h : ∀ i H', Sep H' (.blk i cs true :: L) → Gd G (KH (.ptr i 0) H')) : Gd G (Ol x H fun x H => KH x H) := by
 refine Dy (b := Je cs H fun x H => KH x H) ?_ (D1 hs h)
 show (Cq x).bind _ = _
 rw [hc]
 rfl
theorem G1 {cs : List AV} (h : cs.all Ip = true) : Cq (.agg cs) = some cs := Rh h
theorem Ac {cs : List AV} (h : cs.all Ap = true) : Cq (.agg cs) = some cs := by
 show (if cs.all Ap then some cs else none) = _
 rw [if_pos h]
theorem Aa {x : AV} {xs : List AV} (h : Ap x = true) (hs : xs.all Ap = true) : (x :: xs).all Ap = true := by
 rw [zaY, h, hs]
 rfl
theorem D0 {x : AV} (h : Ap x = true) : Cq x = some [x] := by
 cases x <;> simp_all [Cq, Ap]
theorem Bg {i o : Nat} {cs : List AV} {a : Bool} {c : AV} (hs : Sep H L) (hp : Pk L (.blk i cs a) L1) (hc : cs[o]? = some c) (h : Gd G (K c)) : Gd G (C6 false 1 (.ptr i o) H fun x => K x) := by
 refine Dy ?_ h
 obtain ⟨hlt, he⟩ := zac.1 hc
 have e : A3 H i o 1 = some [c] := by
  simp only [A3, hs.blk hp, if_true]
  rw [if_pos (by omega), zbj hlt, he]
  rfl
 exact ldF e _
theorem Ajz {i o w : Nat} {cs ds : List AV} {a : Bool} (hs : Sep H L) (hp : Pk L (.blk i cs a) L1) (hl : o + w ≤ cs.length) (hc : (cs.drop o).take w = ds) (h : Gd G (K (.agg ds))) : Gd G (C6 true w (.ptr i o) H fun x => K x) := by
 refine Dy ?_ h
 have e : A3 H i o w = some ds := by
  simp only [A3, hs.blk hp, if_true]
  rw [if_pos hl, hc]
 exact ldT e _
theorem Ag {i w : Nat} {cs : List AV} {a : Bool} (hs : Sep H L) (hp : Pk L (.blk i cs a) L1) (hl : cs.length = w) (h : Gd G (K (.agg cs))) : Gd G (C6 true w (.ptr i 0) H fun x => K x) :=
 Ajz hs hp (by omega) (by rw [za7, ← hl, za3]) h
theorem Bi {i o w : Nat} {cs cs' ds : List AV} {a : Bool} {y : AV} {KS : Ab → Option β} (hs : Sep H L) (hp : Pk L (.blk i cs a) L1) (hy : Cq y = some ds) (hd : ds.length = w) (hl : o + w ≤ cs.length) (hc : Cf cs o ds = cs') (h : ∀ H', Sep H' (.blk i cs' a :: L1) → Gd G (KS H')) : Gd G (D7 w (.ptr i o) y H fun H => KS H) := by
 have hb := hs.blk hp
 refine Dy (Fl w i o y ⟨cs, true, a⟩ ds H _ hb hy hd hl rfl) ?_
 have := hs.put hp cs' a
 rw [← hc] at this
 exact h _ (by rw [← hc]; exact this)
theorem Aap {cells : List AV} {c : AV} (hc : cells[0]? = some c) (h : Gd G (K c)) : Gd G (C6 false 1 (.rp cells) H fun x => K x) := by
 cases cells with
 | nil => cases hc
 | cons x xs =>
  obtain rfl : x = c := by simpa using hc
  refine Dy (Nm x xs H _) h
theorem Aj0 {w : Nat} {cs rest : List AV} (hw : cs.length = w) (h : Gd G (K (.agg cs))) : Gd G (C6 true w (.rp (cs ++ rest)) H fun x => K x) := Dy (Tw w cs rest H _ hw) h
theorem An {o i off o' : Nat} (e : off + o = o') (h : Gd G (K (.ptr i o'))) : Gd G (Eb o (.ptr i off) fun x => K x) := by subst e; exact h
theorem gf0 {i : Nat} (h : Gd G (K (.ptr i 0))) : Gd G (Eb 0 (.ptr i 0) fun x => K x) := An rfl h
theorem gf1 {i : Nat} (h : Gd G (K (.ptr i 1))) : Gd G (Eb 1 (.ptr i 0) fun x => K x) := An rfl h
theorem gf2 {i : Nat} (h : Gd G (K (.ptr i 2))) : Gd G (Eb 2 (.ptr i 0) fun x => K x) := An rfl h
theorem gf3 {i : Nat} (h : Gd G (K (.ptr i 3))) : Gd G (Eb 3 (.ptr i 0) fun x => K x) := An rfl h
theorem Vr {i : Nat} (h : Gd G (K (.ptr i 4))) : Gd G (Eb 4 (.ptr i 0) fun x => K x) := An rfl h
theorem gf5 {i : Nat} (h : Gd G (K (.ptr i 5))) : Gd G (Eb 5 (.ptr i 0) fun x => K x) := An rfl h
theorem gf6 {i : Nat} (h : Gd G (K (.ptr i 6))) : Gd G (Eb 6 (.ptr i 0) fun x => K x) := An rfl h
theorem gf7 {i : Nat} (h : Gd G (K (.ptr i 7))) : Gd G (Eb 7 (.ptr i 0) fun x => K x) := An rfl h
theorem gf8 {i : Nat} (h : Gd G (K (.ptr i 8))) : Gd G (Eb 8 (.ptr i 0) fun x => K x) := An rfl h
theorem gf9 {i : Nat} (h : Gd G (K (.ptr i 9))) : Gd G (Eb 9 (.ptr i 0) fun x => K x) := An rfl h
theorem Aj1 {i : Nat} (h : Gd G (K (.ptr i 10))) : Gd G (Eb 10 (.ptr i 0) fun x => K x) := An rfl h
theorem Aj2 {i : Nat} (h : Gd G (K (.ptr i 11))) : Gd G (Eb 11 (.ptr i 0) fun x => K x) := An rfl h
theorem Aj3 {i : Nat} (h : Gd G (K (.ptr i 12))) : Gd G (Eb 12 (.ptr i 0) fun x => K x) := An rfl h
theorem Aj4 {i : Nat} (h : Gd G (K (.ptr i 13))) : Gd G (Eb 13 (.ptr i 0) fun x => K x) := An rfl h
theorem Aj5 {i : Nat} (h : Gd G (K (.ptr i 14))) : Gd G (Eb 14 (.ptr i 0) fun x => K x) := An rfl h
theorem Aj6 {i : Nat} (h : Gd G (K (.ptr i 15))) : Gd G (Eb 15 (.ptr i 0) fun x => K x) := An rfl h
theorem AfC {i : Nat} (h : Gd G (K (.ptr i 16))) : Gd G (Eb 16 (.ptr i 0) fun x => K x) := An rfl h
theorem AfD {i : Nat} (h : Gd G (K (.ptr i 17))) : Gd G (Eb 17 (.ptr i 0) fun x => K x) := An rfl h
theorem AfE {i : Nat} (h : Gd G (K (.ptr i 18))) : Gd G (Eb 18 (.ptr i 0) fun x => K x) := An rfl h
theorem AfF {i : Nat} (h : Gd G (K (.ptr i 19))) : Gd G (Eb 19 (.ptr i 0) fun x => K x) := An rfl h
theorem Aij {i : Nat} (h : Gd G (K (.ptr i 20))) : Gd G (Eb 20 (.ptr i 0) fun x => K x) := An rfl h
theorem Aik {i : Nat} (h : Gd G (K (.ptr i 21))) : Gd G (Eb 21 (.ptr i 0) fun x => K x) := An rfl h
theorem Aj7 {i : Nat} (h : Gd G (K (.ptr i 22))) : Gd G (Eb 22 (.ptr i 0) fun x => K x) := An rfl h
theorem Aj8 {i : Nat} (h : Gd G (K (.ptr i 23))) : Gd G (Eb 23 (.ptr i 0) fun x => K x) := An rfl h
theorem Aj9 {i : Nat} (h : Gd G (K (.ptr i 24))) : Gd G (Eb 24 (.ptr i 0) fun x => K x) := An rfl h
theorem AfB {o : Nat} {cells : List AV} (h : Gd G (K (.rp (cells.drop o)))) : Gd G (Eb o (.rp cells) fun x => K x) := h
theorem Gl {z cs z' r : List AV} {o n : Nat} {v : AV} {rest : List (Nat × Nat × AV)} (h : Cq v = some cs) (hl : cs.length = n) (ho : o + n ≤ z.length) (hz : Cf z o cs = z') (h2 : Ek z' rest = some r) : Ek z ((o, n, v) :: rest) = some r := by
 subst hz
 subst hl
 simp only [Ek, h, zab, if_true, if_pos ho]
 exact h2
theorem Az {zs cs : List AV} {ps : List (Nat × Nat × AV)} {KL : List AV → Option β} (hf : Ek zs ps = some cs) (h : Gd G (KL cs)) : Gd G ((Ek zs ps).bind fun c => KL c) := by
 rw [hf]
 exact h
theorem Ez {i : Nat} {vs : List AV} {v : AV} (hv : vs[i]? = some v) (h : Gd G (K v)) : Gd G (Om (.tup vs) i fun x => K x) := by
 refine Dy ?_ h
 show (vs[i]?).bind _ = _
 rw [hv]
 rfl
theorem P6 {m : Nat} {cs : List AV} (h : Gd G (K (.sc (.int .i64 m)))) : Gd G (On (.ro m cs) fun x => K x) := h
theorem AdM {i o m w : Nat} (h : Gd G (K (.sc (.int .i64 m)))) : Gd G (On (.sl i o m w) fun x => K x) := h
theorem AfT {d ty m : Nat} {x : AV} {cells : List AV} {I : List Nat} (h : B0 Aq E0.tp H d ty x = some (.ro m cells, I)) : Gi x = some m := by
 cases d with
 | zero => simp [B0] at h
 | succ d =>
  cases x with
  | sc v => simp [B0] at h
  | nl =>
   have := (Option.some.inj h)
   simp only [Prod.mk.injEq, AV.ro.injEq] at this
   rw [← this.1.1]
   rfl
  | sl id off n z =>
   rw [Fj] at h
   simp only [zaa] at h
   obtain ⟨i, h1, j, h2, h3⟩ := h
   split at h3
   case isFalse => cases h3
   split at h3
   case isFalse => cases h3
   simp only [zaa] at h3
   obtain ⟨cs, h4, q, h5, h6⟩ := h3
   obtain ⟨h7, -⟩ : AV.ro n q.1 = .ro m cells ∧ _ := by simpa only [Prod.mk.injEq, Option.some.injEq] using h6
   cases h7
   rfl
  | agg cs =>
   rw [Ee] at h
   simp only [zaa] at h
   obtain ⟨i, h1, q, h2, h3⟩ := h
   simp at h3
  | tup cs =>
   rw [Fy] at h
   simp only [zaa] at h
   obtain ⟨i, h1, q, h2, h3⟩ := h
   simp at h3
  | _ => simp [B0] at h
theorem Kd {x : AV} {ty m : Nat} {cells : List AV} (hs : Sep H L) (hp : Pk L (.own x ty (.ro m cells)) L1) (h : Gd G (K (.sc (.int .i64 m)))) : Gd G (On x fun x => K x) := by
 obtain ⟨_, _, I, e, _⟩ := hs.own hp
 have hl := AfT e
 refine Dy ?_ h
 have key : ∀ (x : AV), (∀ v, x ≠ .sc v) → Gi x = some m → On x K = K (.sc (.int .i64 m)) := by
  intro x hx hl
  cases x with
  | sc v => exact absurd rfl (hx v)
  | nl => cases hl; rfl
  | ro n cs => cases hl; rfl
  | sl a b c d => cases hl; rfl
  | _ => cases hl
 refine key x (fun v hv => ?_) hl
 subst hv
 simp [B0] at e
theorem Ajx {op : BinOp} {x y v : AV} (e : ∀ k : AV → Option β, E8 op x y k = k v) (h : Gd G (K v)) : Gd G (E8 op x y fun t => K t) := Dy (e _) h
theorem Yz {op : BinOp} {x y v : AV} (e : ∀ k : AV → Option β, Oj op x y k = k v) (h : Gd G (K v)) : Gd G (Oj op x y fun t => K t) := Dy (e _) h
theorem Cd {a b : Int} (h : Gd G (K (.sc (.bool (decide (a = b)))))) : Gd G (E8 .eql (.sc (.int .i64 a)) (.sc (.int .i64 b)) fun t => K t) := h
theorem M5 {a b : Int} (h : Gd G (K (.sc (.bool (!decide (a = b)))))) : Gd G (E8 .neq (.sc (.int .i64 a)) (.sc (.int .i64 b)) fun t => K t) := h
theorem L8 {a b : Int} (h : Gd G (K (.sc (.bool (decide (a < b)))))) : Gd G (E8 .lss (.sc (.int .i64 a)) (.sc (.int .i64 b)) fun t => K t) := h
theorem Aaq {a b : Int} (h : Gd G (K (.sc (.bool (decide (a ≤ b)))))) : Gd G (E8 .leq (.sc (.int .i64 a)) (.sc (.int .i64 b)) fun t => K t) := h
theorem L7 {a b : Int} (h : Gd G (K (.sc (.bool (decide (b < a)))))) : Gd G (E8 .gtr (.sc (.int .i64 a)) (.sc (.int .i64 b)) fun t => K t) := h
theorem AgH {a b : Int} (h : Gd G (K (.sc (.bool (decide (b ≤ a)))))) : Gd G (E8 .geq (.sc (.int .i64 a)) (.sc (.int .i64 b)) fun t => K t) := h
theorem Hm {a b : Int} (h0 : -9223372036854775808 ≤ a + b) (h1 : a + b ≤ 9223372036854775807) (h : Gd G (K (.sc (.int .i64 (a + b))))) : Gd G (E8 .add (.sc (.int .i64 a)) (.sc (.int .i64 b)) fun t => K t) := by
 refine Dy ?_ h
 show K (.sc (.int .i64 (IntKind.i64.wrap (a + b)))) = _
 rw [Fd _ h0 h1]
theorem Tq {a b : Int} (h0 : -9223372036854775808 ≤ a - b) (h1 : a - b ≤ 9223372036854775807) (h : Gd G (K (.sc (.int .i64 (a - b))))) : Gd G (E8 .sub (.sc (.int .i64 a)) (.sc (.int .i64 b)) fun t => K t) := by
 refine Dy ?_ h
 show K (.sc (.int .i64 (IntKind.i64.wrap (a - b)))) = _
 rw [Fd _ h0 h1]
theorem AgI {a b : Int} (h0 : -9223372036854775808 ≤ a * b) (h1 : a * b ≤ 9223372036854775807) (h : Gd G (K (.sc (.int .i64 (a * b))))) : Gd G (E8 .mul (.sc (.int .i64 a)) (.sc (.int .i64 b)) fun t => K t) := by
 refine Dy ?_ h
 show K (.sc (.int .i64 (IntKind.i64.wrap (a * b)))) = _
 rw [Fd _ h0 h1]
theorem Hw {b : Bool} (h : Gd G (K (.sc (.bool (!b))))) : Gd G (pUn .not (.sc (.bool b)) fun t => K t) := h
theorem Ia {α : Sort _} {γ : Type} {G : Option γ → Prop} {x : α} {f : α → Option γ} (h : Gd G (f x)) : Gd G (M2 x f) := h
theorem Dk {b : Bool} {x y : Option β} (hb : b = true) (h : Gd G x) : Gd G (G5 (.sc (.bool b)) x y) := by subst hb; exact h
theorem Ci {b : Bool} {x y : Option β} (hb : b = false) (h : Gd G y) : Gd G (G5 (.sc (.bool b)) x y) := by subst hb; exact h
theorem Bd {b t : Bool} {m : (KO β) → Option β} (hb : b = t) (h : Gd G (m fun x H => KH x H)) : Gd G (Hi (.sc (.bool b)) t H m fun x H => KH x H) := by
 subst hb
 cases b <;> exact h
theorem Cb {b t : Bool} {m : (KO β) → Option β} (hb : b = !t) (h : Gd G (KH (.sc undef) H)) : Gd G (Hi (.sc (.bool b)) t H m fun x H => KH x H) := by
 subst hb
 cases t <;> exact h
theorem H9 {t : Bool} {m : (KO β) → Option β} (h : Gd G (KH (.sc undef) H)) : Gd G (Hi (.sc undef) t H m fun x H => KH x H) := h
theorem Hh {b : Bool} {x y : AV} (hb : b = true) (h : Gd G (K x)) : Gd G (M6 (.sc (.bool b)) x y fun t => K t) := by
 subst hb
 cases x <;> cases y <;> exact h
theorem Fq {b : Bool} {x y : AV} (hb : b = false) (h : Gd G (K y)) : Gd G (M6 (.sc (.bool b)) x y fun t => K t) := by
 subst hb
 cases x <;> cases y <;> exact h
inductive VwC (L : List Ck) : Nat → AV → AV → Prop
 | sc {d : Nat} {v : Value} : VwC L (d + 1) (.sc v) (.sc v)
 | nl {d : Nat} : VwC L (d + 1) .nl (.ro 0 [])
 | ro {d n : Nat} {cs : List AV} : VwC L (d + 1) (.ro n cs) (.ro n cs)
 | rp {d : Nat} {cs : List AV} : VwC L (d + 1) (.rp cs) (.rp cs)
 | own {d : Nat} {x t : AV} {ty : Nat} {L' : List Ck} : 6 ≤ d → Pk L (.own x ty t) L' → VwC L d x t
 | shr {d : Nat} {x t y t' : AV} {ty ty' : Nat} {L' : List Ck} : 6 ≤ d → Pk L (.shr x ty t y ty' t') L' → VwC L d y t'
 | shsE {d k : Nat} {x t y t' : AV} {ty ty' : Nat} {ys : List (AV × Nat × AV)} {L' : List Ck} : 6 ≤ d → Pk L (.shs x ty t ys) L' → ys[k]? = some (y, ty', t') → VwC L d y t'
 | shsO {d : Nat} {x t : AV} {ty : Nat} {ys : List (AV × Nat × AV)} {L' : List Ck} : 6 ≤ d → Pk L (.shs x ty t ys) L' → VwC L d x t
end
inductive VwL (L : List Ck) : Nat → List AV → List AV → Prop
 | nil {d : Nat} : VwL L d [] []
 | cons {d : Nat} {x t : AV} {xs ts : List AV} : VwC L d x t → VwL L d xs ts → VwL L d (x :: xs) (t :: ts)
 | agg {d : Nat} {cs ds xs ts : List AV} : VwL L d cs ds → VwL L (d + 1) xs ts → VwL L (d + 1) (.agg cs :: xs) (.agg ds :: ts)
 | aggF {d : Nat} {cs xs ts : List AV} : cs.all Ip = true → VwL L (d + 2) xs ts → VwL L (d + 2) (.agg cs :: xs) (.agg cs :: ts)
 | sl {d i k w : Nat} {cs ds xs ts : List AV} {a : Bool} {L' : List Ck} : Pk L (.blk i cs a) L' → cs.length = k * w → VwL L d cs ds → VwL L (d + 1) xs ts → VwL L (d + 1) (.sl i 0 k w :: xs) (.ro k ds :: ts)
 | slA {d i o k w : Nat} {cs ds xs ts : List AV} {a : Bool} {L' : List Ck} : Pk L (.blk i cs a) L' → o + k * w ≤ cs.length → VwL L d ((cs.drop o).take (k * w)) ds → VwL L (d + 1) xs ts → VwL L (d + 1) (.sl i o k w :: xs) (.ro k ds :: ts)
 | ptr {d i : Nat} {cs ds xs ts : List AV} {a : Bool} {L' : List Ck} : Pk L (.blk i cs a) L' → VwL L d cs ds → VwL L (d + 1) xs ts → VwL L (d + 1) (.ptr i 0 :: xs) (.rp ds :: ts)
 | fn {d f : Nat} {ps cs ps' cs' xs ts : List AV} : VwL L d ps ps' → VwL L d cs cs' → VwL L (d + 1) xs ts → VwL L (d + 1) (.fn f ps cs :: xs) (.fn f ps' cs' :: ts)
section
variable {β : Type} {n : Nat} {H : Ab} {L L' L1 L2 : List Ck} {G : Option β → Prop} {K : AV → Option β} {KH : KO β}
theorem VwC.sound (hs : Sep H L) {d : Nat} {x t : AV} (h : VwC L d x t) : Dm H d x = some t := by
 cases h with
 | sc => rfl
 | nl => rfl
 | ro => rfl
 | rp => rfl
 | own hd hp =>
  obtain ⟨_, h1, I, h2, _⟩ := hs.own hp
  exact Mf d _ _ _ I (Hx 6 d _ _ _ _ h2 (A7 h1 hd))
 | shr hd hp =>
  obtain ⟨h1, I, h2⟩ := hs.seen hp
  exact Mf d _ _ _ I (Hx 6 d _ _ _ _ h2 (A7 h1 hd))
 | shsE hd hp hk =>
  obtain ⟨h1, I, h2⟩ := hs.seenS hp hk
  exact Mf d _ _ _ I (Hx 6 d _ _ _ _ h2 (A7 h1 hd))
 | shsO hd hp =>
  obtain ⟨_, h1, I, h2, _⟩ := (hs.ofShs hp).own .here
  exact Mf d _ _ _ I (Hx 6 d _ _ _ _ h2 (A7 h1 hd))
theorem Ih {d : Nat} {x t : AV} {xs ts : List AV} (h : Dm H d x = some t) (hs : xs.mapM (Dm H d) = some ts) : (x :: xs).mapM (Dm H d) = some (t :: ts) := by
 simp only [zaT, h, hs, zbe, zaS, zab]
theorem VwL.sound (hs : Sep H L) : ∀ {d : Nat} {xs ts : List AV}, VwL L d xs ts → xs.mapM (Dm H d) = some ts
 | _, _, _, .nil => rfl
 | _, _, _, .cons h q => Ih (h.sound hs) (q.sound hs)
 | _, _, _, .agg h q => Ih (by rw [M1, h.sound hs]; rfl) (q.sound hs)
 | _, _, _, .aggF h q => Ih (by rw [M1, Qr h]; rfl) (q.sound hs)
 | _, _, _, .sl (i := i) (k := k) (w := w) (cs := cs) hp hl h q => Ih (by
   rw [O3]
   have hb := hs.blk hp
   have e : A3 H i 0 (k * w) = some cs := by
    simp only [A3, hb, if_true, za7, zav, ← hl, zai, za3]
   rw [e, zab, h.sound hs]
   rfl) (q.sound hs)
 | _, _, _, .slA (i := i) (o := o) (k := k) (w := w) (cs := cs) hp hl h q => Ih (by
   rw [O3]
   have hb := hs.blk hp
   have e : A3 H i o (k * w) = some ((cs.drop o).take (k * w)) := by
    simp only [A3, hb, if_true, hl]
   rw [e, zab, h.sound hs]
   rfl) (q.sound hs)
 | _, _, _, .ptr (i := i) (cs := cs) hp h q => Ih (by
   have hb := hs.blk hp
   show ((H[i]?).bind fun b => (A3 H i 0 (b.cells.length - 0)).bind fun cs => (cs.mapM (Dm H _)).bind fun vs => some (AV.rp vs)) = _
   rw [hb, zab]
   have e : A3 H i 0 (cs.length - 0) = some cs := by
    simp only [A3, hb, if_true, za7, zav, Nat.sub_zero, zai, za3]
   show (A3 H i 0 (cs.length - 0)).bind _ = _
   rw [e, zab, h.sound hs]
   rfl) (q.sound hs)
 | _, _, _, .fn (d := d) (ps := ps) (cs := cs) h1 h2 q => Ih (by
   show ((ps.mapM (Dm H d)).bind fun us => (cs.mapM (Dm H d)).bind fun ws => some (AV.fn _ us ws)) = _
   rw [h1.sound hs, zab, h2.sound hs]
   rfl) (q.sound hs)
theorem U5 {ty : Nat} {f : FuncId} {caps args vs : List AV} {t : AV} (hs : Sep H L) (hh : Fz f = false) (hv : VwL L 8 (args ++ caps) vs) (ht : C1 E0 n ty f vs = some t) (h : Gd G (KH (Bp Aq E0.tp H.length ty t).1 (H ++ (Bp Aq E0.tp H.length ty t).2))) : Gd G ((PR n β).call ty (.fn f [] caps) args H fun x H => KH x H) := Dy (Vv hh (hv.sound hs) ht) h
theorem D4 {ty : Nat} {f : FuncId} {args vs : List AV} {v : Value} (hs : Sep H L) (hh : Fz f = false) (hv : VwL L 8 args vs) (ht : C1 E0 n ty f vs = some (.sc v)) (h : Gd G (KH (.sc v) H)) : Gd G ((PR n β).call ty (.fn f [] []) args H fun x H => KH x H) := by
 refine U5 hs hh (by rw [zam]; exact hv) ht ?_
 rw [G3, zam]
 exact h
theorem AdZ {ty m : Nat} {cells : List AV} (hs : Sep H L) (hok : Gj Aq E0.tp 6 ty (.ro m cells)) : Ap (Bp Aq E0.tp H.length ty (.ro m cells)).1 = true ∧ Sep (H ++ (Bp Aq E0.tp H.length ty (.ro m cells)).2) (.own (Bp Aq E0.tp H.length ty (.ro m cells)).1 ty (.ro m cells) :: L) := by
 have hl : Ap (Bp Aq E0.tp H.length ty (.ro m cells)).1 = true := rfl
 refine ⟨hl, hs.new (J := zaV H.length (Bp Aq E0.tp H.length ty (.ro m cells)).2.length) ⟨hl, hok, Fk 6 ty _ H.length hok (Jk _ _)⟩ zaP fun i hi => ?_⟩
 rw [zaJ] at hi
 exact hi.1
def InsL (ts : List Nat) (cs : List AV) (Φ : List AV → List Ck → Prop) : Prop := ∀ (H : Ab) (L : List Ck), Sep H L → ∃ xs Lx, xs = (Bz Aq E0.tp H.length ts cs).1 ∧ Sep (H ++ (Bz Aq E0.tp H.length ts cs).2) (Lx ++ L) ∧ Φ xs Lx
theorem Il {ts : List Nat} : InsL ts [] fun xs Lx => xs = [] ∧ Lx = [] := fun H L hs => ⟨[], [], rfl, by simpa [Bz] using hs, rfl, rfl⟩
theorem Dp {ts : List Nat} {v : Value} {cs : List AV} {Φ : List AV → List Ck → Prop} (h : InsL ts.tail cs Φ) : InsL ts (.sc v :: cs) fun xs Lx => ∃ ys, xs = .sc v :: ys ∧ Φ ys Lx := fun H L hs => by
 obtain ⟨ys, Ly, e1, e2, e3⟩ := h H L hs
 refine ⟨.sc v :: ys, Ly, ?_, ?_, ys, rfl, e3⟩
 ·simp only [Bz, G3, zat, zaZ]
  rw [e1]
 ·simpa only [Bz, G3, zat, zaZ, zah] using e2
theorem Ib {ts : List Nat} {m ty : Nat} {cells cs : List AV} {Φ : List AV → List Ck → Prop} (hty : ts.headD 0 = ty) (hok : Gj Aq E0.tp 6 ty (.ro m cells)) (h : InsL ts.tail cs Φ) : InsL ts (.ro m cells :: cs) fun xs Lx => ∃ x ys Ly, Ap x = true ∧ xs = x :: ys ∧ Lx = Ly ++ [.own x ty (.ro m cells)] ∧ Φ ys Ly := fun H L hs => by
 subst hty
 obtain ⟨h1, h2⟩ := AdZ hs hok
 obtain ⟨ys, Ly, e1, e2, e3⟩ := h _ _ h2
 refine ⟨_ :: ys, Ly ++ [.own _ (ts.headD 0) (.ro m cells)], ?_, ?_, _, ys, Ly, h1, rfl, rfl, e3⟩
 ·simp only [Bz]
  rw [e1, zae]
 ·simp only [Bz]
  rw [zae, zaj] at e2
  rw [zaj]
  exact e2
theorem Lf {ts cty : List Nat} {cs rest : List AV} {Φ Ψ : List AV → List Ck → Prop} (hty : ∃ i, Aq (ts.headD 0) = some i ∧ i.cty = cty) (h1 : InsL cty cs Ψ) (h : InsL ts.tail rest Φ) : InsL ts (.agg cs :: rest) fun xs Lx => ∃ ys zs Ly Lz, xs = .agg ys :: zs ∧ Lx = Lz ++ Ly ∧ Ψ ys Ly ∧ Φ zs Lz := fun H L hs => by
 obtain ⟨i, hi, rfl⟩ := hty
 obtain ⟨ys, Ly, a1, a2, a3⟩ := h1 H L hs
 obtain ⟨zs, Lz, b1, b2, b3⟩ := h _ _ a2
 refine ⟨.agg ys :: zs, Lz ++ Ly, ?_, ?_, ys, zs, Ly, Lz, rfl, rfl, a3, b3⟩
 ·simp only [Bz, Ge, hi, za5]
  rw [a1, b1, zae]
 ·simp only [Bz, Ge, hi, za5]
  rw [zae, zaj] at b2
  rw [zaj]
  exact b2
theorem Fi {ty : Nat} {f : FuncId} {args vs cs : List AV} {cty : List Nat} {Φ : List AV → List Ck → Prop} (hs : Sep H L) (hh : Fz f = false) (hv : VwL L 8 args vs) (ht : C1 E0 n ty f vs = some (.agg cs)) (hty : ∃ i, Aq ty = some i ∧ i.cty = cty) (hi : InsL cty cs Φ) (h : ∀ xs Lx H', Φ xs Lx → Sep H' (Lx ++ L) → Gd G (KH (.agg xs) H')) : Gd G ((PR n β).call ty (.fn f [] []) args H fun x H => KH x H) := by
 refine U5 hs hh (by rw [zam]; exact hv) ht ?_
 obtain ⟨i, e1, rfl⟩ := hty
 obtain ⟨xs, Lx, a1, a2, a3⟩ := hi H L hs
 rw [Ge, e1, za5, ← a1]
 exact h _ _ _ a3 a2
theorem Mp {ty : Nat} {f : FuncId} {args vs cs : List AV} {tys : List Nat} {Φ : List AV → List Ck → Prop} (hs : Sep H L) (hh : Fz f = false) (hv : VwL L 8 args vs) (ht : C1 E0 n ty f vs = some (.tup cs)) (hty : E0.tp ty = some tys) (hi : InsL tys cs Φ) (h : ∀ xs Lx H', Φ xs Lx → Sep H' (Lx ++ L) → Gd G (KH (.tup xs) H')) : Gd G ((PR n β).call ty (.fn f [] []) args H fun x H => KH x H) := by
 refine U5 hs hh (by rw [zam]; exact hv) ht ?_
 obtain ⟨xs, Lx, a1, a2, a3⟩ := hi H L hs
 rw [Pg, hty, za5, ← a1]
 exact h _ _ _ a3 a2
theorem Gx {ty : Nat} {f : FuncId} {caps args : List AV} (hh : E0.hm f = true) (he : E0.ext f = none) (h : Gd G (Dd E0 n β f (args ++ caps) H fun x H => KH x H)) : Gd G ((PR n β).call ty (.fn f [] caps) args H fun x H => KH x H) := by
 refine Dy ?_ h
 show J4 E0 (Dd E0 n) ty f ([] ++ args ++ caps) H _ = _
 simp only [J4, he, hh, zah, if_true]
def Src (H : Ab) (L : List Ck) (sz : Nat) (cty : List Nat) (y : AV) (m : Nat) (cb : List AV) (L' : List Ck) : Prop :=
 ∀ I, SepI H L I → ∃ raw J R X, Gi y = some m ∧ C3 H sz y = some raw ∧ raw.all Ap = true ∧ raw.length = m * sz ∧ Ce (B0 Aq E0.tp H 5) (zad m cty).flatten raw = some (cb, J) ∧ SepI H L' R ∧ I.Perm (J ++ (R ++ X))
def Rq : AV → Bool
 | .sc v => Ku v
 | _ => false
theorem AbJ {l : List AV} (h : l.all Rq = true) : l.all Ap = true := by
 rw [zaF] at h ⊢
 intro x hx
 have := h x hx
 cases x <;> simp_all [Rq, Ap]
theorem T5 {d : Nat} : ∀ {ts : List Nat} {l : List AV}, ts.length = l.length → l.all Rq = true → Ce (B0 Aq E0.tp H (d + 1)) ts l = some (l, [])
 | [], [], _, _ => rfl
 | t :: ts, x :: l, h, hl => by
  rw [zaY, zak] at hl
  cases x with
  | sc v =>
   rw [Ce, G7, zab, T5 (ts := ts) (l := l) (by simpa using h) hl.2]
   rfl
  | _ => simp [Rq] at hl
 | [], _ :: _, h, _ => by simp at h
 | _ :: _, [], h, _ => by simp at h
theorem Ai3 {sz m : Nat} {cty : List Nat} {cells : List AV} (hc : cty.length = sz) (hl : cells.length = m * sz) (hf : cells.all Rq = true) : Src H L sz cty (.ro m cells) m cells L := fun I h => by
 refine ⟨cells, [], I, [], rfl, ?_, AbJ hf, hl, T5 (by simp [hc, hl]) hf, h, by simp⟩
 show (if cells.length = m * sz then some cells else none) = _
 rw [if_pos hl]
theorem Ox {sz m i : Nat} {cty : List Nat} {raw cb : List AV} {a : Bool} (hp : Pk L (.blk i raw a) L1) (hl : raw.length = m * sz) (hf : raw.all Ap = true) (hr : OwnR L1 raw (zad m cty).flatten cb L2) (hok : Eh (Gj Aq E0.tp 5) (zad m cty).flatten cb) : Src H L sz cty (.sl i 0 m sz) m cb L2 := fun I h => by
 obtain ⟨J, R, ⟨rfl, h1⟩, h2, h3⟩ := hp.sepI h
 obtain ⟨J', R', g1, g2, g3⟩ := hr.sound h2 5 hok
 refine ⟨raw, J', R', [i], rfl, ?_, hf, hl, g1, g2, ?_⟩
 ·show (if sz = sz then A3 H i 0 (m * sz) else none) = _
  simp only [if_true, A3, h1, zav, za7, ← hl, zai, za3]
 ·refine h3.trans (List.perm_append_comm.trans ?_)
  rw [← zaj]
  exact zb1.append_right [i] g3
theorem Lj {d ty m : Nat} {x : AV} {cells : List AV} {I : List Nat} {i j : TI} (h1 : Aq ty = some i) (h2 : Aq i.elem = some j) (h : B0 Aq E0.tp H (d + 1) ty x = some (.ro m cells, I)) :
  (x = .nl ∧ m = 0 ∧ cells = [] ∧ I = []) ∨ ∃ id off raw J b, x = .sl id off m j.size ∧ I = id :: J ∧ H[id]? = some b ∧ b.live = true ∧ b.app = true ∧ A3 H id off (m * j.size) = some raw ∧ Ce (B0 Aq E0.tp H d) (zad m j.cty).flatten raw = some (cells, J) := by
 cases x with
 | sc v => simp [B0] at h
 | nl =>
  have := (Option.some.inj h)
  simp only [Prod.mk.injEq, AV.ro.injEq] at this
  obtain ⟨⟨rfl, rfl⟩, rfl⟩ := this
  exact .inl ⟨rfl, rfl, rfl, rfl⟩
 | sl id off n z =>
  rw [Fj] at h
  simp only [h1, h2, zab] at h
  split at h
  case isFalse => cases h
  rename_i hz
  split at h
  case isFalse => cases h
  rename_i ha
  simp only [zaa] at h
  obtain ⟨cs, h4, q, h5, h6⟩ := h
  simp only [Option.some.injEq, Prod.mk.injEq, AV.ro.injEq] at h6
  obtain ⟨⟨rfl, rfl⟩, rfl⟩ := h6
  subst hz
  obtain ⟨hl, b, hb, hlv, _, _⟩ := G9 h4
  have ha' : b.app = true := by simpa only [E7, hb] using ha
  exact .inr ⟨id, off, cs, q.2, b, rfl, rfl, hb, hlv, ha', h4, h5⟩
 | agg cs =>
  rw [Ee] at h
  simp only [zaa] at h
  obtain ⟨i, h1, q, h2, h3⟩ := h
  simp at h3
 | tup cs =>
  rw [Fy] at h
  simp only [zaa] at h
  obtain ⟨i, h1, q, h2, h3⟩ := h
  simp at h3
 | _ => simp [B0] at h
theorem Pp {f : Nat → AV → Option (AV × List Nat)} : ∀ {ts : List Nat} {xs : List AV} {p : List AV × List Nat}, (∀ t x a I, f t x = some (a, I) → Ip a = true → Ap x = true) → Ce f ts xs = some p → p.1.all Ip = true → xs.all Ap = true
 | ts, [], p, _, h, _ => rfl
 | [], _ :: _, p, _, h, _ => by simp [Ce] at h
 | t :: ts, x :: xs, p, hf, h, hl => by
  obtain ⟨a, b, h1, h2, rfl⟩ := E5 h
  rw [zaY, zak] at hl
  rw [zaY, zak]
  exact ⟨hf t x a.1 a.2 h1 hl.1, Pp hf h2 hl.2⟩
theorem W3 {d ty : Nat} {x a : AV} {I : List Nat} (h : B0 Aq E0.tp H d ty x = some (a, I)) (hl : Ip a = true) : Ap x = true := by
 cases d with
 | zero => simp [B0] at h
 | succ d =>
  cases x with
  | sc v =>
   obtain ⟨rfl, _⟩ : AV.sc v = a ∧ [] = I := by simpa [B0] using h
   exact hl
  | nl => rfl
  | sl id off n z => rfl
  | agg cs =>
   rw [Ee] at h
   simp only [zaa] at h
   obtain ⟨i, h1, q, h2, h3⟩ := h
   obtain ⟨rfl, _⟩ : AV.agg q.1 = a ∧ q.2 = I := by simpa using h3
   cases hl
  | tup cs =>
   rw [Fy] at h
   simp only [zaa] at h
   obtain ⟨i, h1, q, h2, h3⟩ := h
   obtain ⟨rfl, _⟩ : AV.tup q.1 = a ∧ q.2 = I := by simpa using h3
   cases hl
  | _ => simp [B0] at h
theorem AdL {sz bytes k m ty : Nat} {cty : List Nat} {x y : AV} {ca cb : List AV} (hs : Sep H L) (hty : ∃ i j, Aq ty = some i ∧ Aq i.elem = some j ∧ j.size = sz ∧ j.cty = cty) (hx : Pk L (.own x ty (.ro k ca)) L1) (hy : Src H L1 sz cty y m cb L2) (hok : Eh (Gj Aq E0.tp 5) (zad m cty).flatten cb) (hb : (k + m) * bytes ≤ 140737488355328)
  (h : ∀ x' H', Ap x' = true → Sep H' (.own x' ty (.ro (k + m) (ca ++ cb)) :: L2) → (∃ id cx cy, x' = .sl id 0 (k + m) sz ∧ H'[id]? = some ⟨cx ++ cy, true, true⟩ ∧ C3 H sz y = some cy ∧ cx.length = k * sz) → Gd G (KH x' H')) : Gd G (G4 sz bytes x y H fun x H => KH x H) := by
 obtain ⟨i, j, e1, e2, rfl, rfl⟩ := hty
 obtain ⟨I, hI, hn⟩ := hs
 obtain ⟨J, R, ⟨hlx, hox, h1⟩, h2, h3⟩ := hx.sepI hI
 obtain ⟨raw, Jy, Ry, X, q1, q2, q3, q4, q5, q6, q7⟩ := hy R h2
 have hn' : (J ++ (Jy ++ (Ry ++ X))).Nodup := (h3.trans (zb1.append_left J q7)).nodup_iff.1 hn
 have hRlt : ∀ i ∈ Jy ++ Ry, i < H.length := fun z hz => by
  refine h2.lt z ?_
  refine q7.symm.mem_iff.1 ?_
  rw [← zaj]
  exact zau _ hz
 have hok' : Gj Aq E0.tp 6 ty (.ro (k + m) (ca ++ cb)) := by
  obtain ⟨i', j', g1, g2, g3, g4⟩ := hox
  rw [e1] at g1
  cases g1
  rw [e2] at g2
  cases g2
  refine ⟨i, j, e1, e2, ?_, ?_⟩
  ·have := Ww hok
   have hq := R7 q5
   rw [zae, g3, hq.2, q4, zaU]
  ·rw [← zaA, za1]
   exact Gn g4 hok
 have fin : ∀ (H1 : Ab) (cx : List AV) (Jx : List Nat), H1.length = H.length → cx.all Ap = true ∨ True → Ce (B0 Aq E0.tp H1 5) (zad k j.cty).flatten cx = some (ca, Jx) → Ce (B0 Aq E0.tp H1 5) (zad m j.cty).flatten raw = some (cb, Jy) → SepI H1 L2 Ry → (Jx ++ (Jy ++ (Ry ++ X))).Nodup → (∀ i ∈ Jx, i < H1.length) → cx.length = k * j.size →
   Sep (H1 ++ [⟨cx ++ raw, true, true⟩]) (.own (.sl H1.length 0 (k + m) j.size) ty (.ro (k + m) (ca ++ cb)) :: L2) := by
  intro H1 cx Jx hl1 _ a1 a2 a3 a4 a5 a6
  have hg : (H1 ++ [(⟨cx ++ raw, true, true⟩ : Gh)])[H1.length]? = some ⟨cx ++ raw, true, true⟩ := by
   rw [zaf (zai _), zaL]
   rfl
  have fr : ∀ z, z < H1.length → (H1 ++ [(⟨cx ++ raw, true, true⟩ : Gh)])[z]? = H1[z]? := fun z hz => zag hz
  have b1 := D6 (f' := B0 Aq E0.tp (H1 ++ [⟨cx ++ raw, true, true⟩]) 5) (fun t x a h hi => Dg 5 t x a h fun z hz => fr z (a5 z (hi z hz))) a1
  have b2 := D6 (f' := B0 Aq E0.tp (H1 ++ [⟨cx ++ raw, true, true⟩]) 5) (fun t x a h hi => Dg 5 t x a h fun z hz => fr z (by rw [hl1]; exact hRlt z (zau _ (hi z hz)))) a2
  have b3 := a3.grow [⟨cx ++ raw, true, true⟩]
  have b4 := F5 b1 b2
  rw [← za1, zaA] at b4
  refine ⟨(H1.length :: (Jx ++ Jy)) ++ Ry, ⟨H1.length :: (Jx ++ Jy), Ry, rfl, ⟨rfl, hok', ?_⟩, b3⟩, ?_⟩
  ·rw [Fj]
   have ha : E7 (H1 ++ [⟨cx ++ raw, true, true⟩]) H1.length = true := by simp only [E7, hg]
   have hrd : A3 (H1 ++ [⟨cx ++ raw, true, true⟩]) H1.length 0 ((k + m) * j.size) = some (cx ++ raw) := by
    have : (cx ++ raw).length = (k + m) * j.size := by rw [zae, a6, q4, zaU]
    simp only [A3, hg, if_true, zav, za7, ← this, zai, za3]
   simp only [e1, e2, zab, if_true, ha, hrd, b4]
  ·rw [zax, zaG]
   have hn3 : (Jx ++ Jy ++ Ry).Nodup := by
    rw [zaj]
    have : (Jx ++ (Jy ++ Ry) ++ X).Nodup := by simpa only [zaj] using a4
    exact (zaI.1 this).1
   refine ⟨fun hm => ?_, hn3⟩
   rcases zaB.1 hm with hm | hm
   ·rcases zaB.1 hm with hm | hm
    ·exact Nat.lt_irrefl _ (a5 _ hm)
    ·have := hRlt _ (zau _ hm)
     omega
   ·have := hRlt _ (zaq _ hm)
    omega
 rcases Lj e1 e2 h1 with ⟨rfl, rfl, rfl, rfl⟩ | ⟨id, off, cx, J', b, rfl, rfl, hb1, hlv, hap, h4, h5⟩
 ·have hc : C3 H j.size .nl = some [] := rfl
  refine Dy (b := KH (.sl H.length 0 (0 + m) j.size) (H ++ [⟨[] ++ raw, true, true⟩])) ?_ (h _ _ rfl (fin H [] [] rfl (.inr trivial) (by simp [Ce]) q5 q6 (by simpa using hn') (by simp) (by simp)) ⟨_, [], raw, rfl, by rw [zaf (zai _), zaL]; rfl, q2, by simp⟩)
  have hl0 : Gi .nl = some 0 := rfl
  have hk0 : Lt H .nl = some H := rfl
  simp only [G4, hl0, zab, q1, q2, hc, hk0]
  rw [if_pos hb, if_pos q3]
  rfl
 ·have hc : C3 H j.size (.sl id off k j.size) = some cx := by
   show (if j.size = j.size then A3 H id off (k * j.size) else none) = _
   rw [if_pos rfl, h4]
  have hk : Lt H (.sl id off k j.size) = some (H.set id { b with live := false }) := by
   show (H[id]?).bind (fun b => if b.app then some (H.set id { b with live := false }) else none) = _
   rw [hb1, zab, if_pos hap]
  have hn2 : (id :: (J' ++ (Jy ++ (Ry ++ X)))).Nodup := hn'
  have hnid := (zaG.1 hn2).1
  have hset : ∀ z, z ≠ id → (H.set id { b with live := false })[z]? = H[z]? := fun z hz => za4 (fun e => hz e.symm)
  have c1 := D6 (f' := B0 Aq E0.tp (H.set id { b with live := false }) 5) (fun t x a h hi => Dg 5 t x a h fun z hz => hset z (fun e => hnid (e ▸ zau _ (hi z hz)))) h5
  have c2 := D6 (f' := B0 Aq E0.tp (H.set id { b with live := false }) 5) (fun t x a h hi => Dg 5 t x a h fun z hz => hset z (fun e => hnid (e ▸ zaq _ (zau _ (hi z hz))))) q5
  have c3 := q6.frame (H' := H.set id { b with live := false }) fun z hz => hset z (fun e => hnid (e ▸ zaq _ (zaq _ (zau _ hz))))
  have hJlt : ∀ z ∈ J', z < H.length := fun z hz => Kf 6 ty _ _ h1 z (zaw _ hz)
  refine Dy (b := KH (.sl (H.set id { b with live := false }).length 0 (k + m) j.size) (H.set id { b with live := false } ++ [⟨cx ++ raw, true, true⟩])) ?_ (h _ _ rfl (fin _ cx J' (by simp) (.inr trivial) c1 c2 c3 (zaG.1 hn2).2 (fun z hz => by rw [zbf]; exact hJlt z hz) (G9 h4).1) ⟨_, cx, raw, rfl, by rw [zaf (zai _), zaL]; rfl, q2, (G9 h4).1⟩)
  have hl0 : Gi (.sl id off k j.size) = some k := rfl
  simp only [G4, hl0, zab, q1, q2, hc, hk]
  rw [if_pos hb, if_pos q3]
  rfl
theorem Wf {sz bytes k m ty : Nat} {cty : List Nat} {x y : AV} {ca cb : List AV} (hs : Sep H L) (hty : ∃ i j, Aq ty = some i ∧ Aq i.elem = some j ∧ j.size = sz ∧ j.cty = cty) (hx : Pk L (.own x ty (.ro k ca)) L1) (hy : Src H L1 sz cty y m cb L2) (hok : Eh (Gj Aq E0.tp 5) (zad m cty).flatten cb) (hb : (k + m) * bytes ≤ 140737488355328)
  (h : ∀ x' H', Ap x' = true → Sep H' (.own x' ty (.ro (k + m) (ca ++ cb)) :: L2) → Gd G (KH x' H')) : Gd G (G4 sz bytes x y H fun x H => KH x H) := AdL hs hty hx hy hok hb fun x' H' h1 h2 _ => h x' H' h1 h2
theorem H0 {G : Option AV → Prop} {o : Option AV} (h : Gd G o) : G o := h
theorem Hb {ty : Nat} {tys : List Nat} {raw cells : List AV} (hs : Sep H L) (hts : E0.tp ty = some tys) (hr : OwnR L raw tys cells L') (hok : Eh (Gj Aq E0.tp 7) tys cells) : A4 Aq E0.tp ty H (.tup raw) = some (.tup cells) := by
 obtain ⟨I, h1, h2⟩ := hs
 obtain ⟨J, R, g1, g2, g3⟩ := hr.sound h1 7 hok
 have hn := (zaI.1 (g3.nodup_iff.1 h2)).1
 rw [A4, Fy, hts, zab, g1, zab, zab, if_pos hn]
theorem Ha {ty : Nat} {cty : List Nat} {raw cells : List AV} (hs : Sep H L) (hty : ∃ i, Aq ty = some i ∧ i.cty = cty) (hr : OwnR L raw cty cells L') (hok : Eh (Gj Aq E0.tp 7) cty cells) : A4 Aq E0.tp ty H (.agg raw) = some (.agg cells) := by
 obtain ⟨i, e1, rfl⟩ := hty
 obtain ⟨I, h1, h2⟩ := hs
 obtain ⟨J, R, g1, g2, g3⟩ := hr.sound h1 7 hok
 have hn := (zaI.1 (g3.nodup_iff.1 h2)).1
 rw [A4, Ee, e1, zab, g1, zab, zab, if_pos hn]
theorem D5 {G : Option AV → Prop} {ty : Nat} {x t : AV} (e : A4 Aq E0.tp ty H x = some t) (h : G (some t)) : Gd G (A4 Aq E0.tp ty H x) := by
 rw [e]
 exact h
end
theorem Nb {L : List Ck} {d : Nat} {a0 a1 : Value} {xs ts : List AV} (h : VwL L (d + 1) xs ts) : VwL L (d + 1) (.sc a0 :: .sc a1 :: xs) (.sc a0 :: .sc a1 :: ts) := (.cons .sc (.cons .sc h))
theorem vS3 {L : List Ck} {d : Nat} {a0 a1 a2 : Value} {xs ts : List AV} (h : VwL L (d + 1) xs ts) : VwL L (d + 1) (.sc a0 :: .sc a1 :: .sc a2 :: xs) (.sc a0 :: .sc a1 :: .sc a2 :: ts) := (.cons .sc (.cons .sc (.cons .sc h)))
theorem S0 {L : List Ck} {d : Nat} {a0 a1 a2 a3 a4 : Value} {xs ts : List AV} (h : VwL L (d + 1) xs ts) : VwL L (d + 1) (.sc a0 :: .sc a1 :: .sc a2 :: .sc a3 :: .sc a4 :: xs) (.sc a0 :: .sc a1 :: .sc a2 :: .sc a3 :: .sc a4 :: ts) := (.cons .sc (.cons .sc (.cons .sc (.cons .sc (.cons .sc h)))))
theorem Iz {L : List Ck} {d : Nat} {a0 a1 a2 a3 a4 a5 : Value} {xs ts : List AV} (h : VwL L (d + 1) xs ts) : VwL L (d + 1) (.sc a0 :: .sc a1 :: .sc a2 :: .sc a3 :: .sc a4 :: .sc a5 :: xs) (.sc a0 :: .sc a1 :: .sc a2 :: .sc a3 :: .sc a4 :: .sc a5 :: ts) := (.cons .sc (.cons .sc (.cons .sc (.cons .sc (.cons .sc (.cons .sc h))))))
theorem oS3 {L L' : List Ck} {a0 a1 a2 : Value} {t0 t1 t2 : Nat} {xs cs : List AV} {ts : List Nat} (h : OwnR L xs ts cs L') : OwnR L (.sc a0 :: .sc a1 :: .sc a2 :: xs) (t0 :: t1 :: t2 :: ts) (.sc a0 :: .sc a1 :: .sc a2 :: cs) L' := (.sc (.sc (.sc h)))
theorem Ws {L L' : List Ck} {a0 a1 a2 a3 a4 : Value} {t0 t1 t2 t3 t4 : Nat} {xs cs : List AV} {ts : List Nat} (h : OwnR L xs ts cs L') : OwnR L (.sc a0 :: .sc a1 :: .sc a2 :: .sc a3 :: .sc a4 :: xs) (t0 :: t1 :: t2 :: t3 :: t4 :: ts) (.sc a0 :: .sc a1 :: .sc a2 :: .sc a3 :: .sc a4 :: cs) L' := (.sc (.sc (.sc (.sc (.sc h)))))
theorem Lh {L L' : List Ck} {a0 a1 a2 a3 a4 a5 : Value} {t0 t1 t2 t3 t4 t5 : Nat} {xs cs : List AV} {ts : List Nat} (h : OwnR L xs ts cs L') : OwnR L (.sc a0 :: .sc a1 :: .sc a2 :: .sc a3 :: .sc a4 :: .sc a5 :: xs) (t0 :: t1 :: t2 :: t3 :: t4 :: t5 :: ts) (.sc a0 :: .sc a1 :: .sc a2 :: .sc a3 :: .sc a4 :: .sc a5 :: cs) L' := (.sc (.sc (.sc (.sc (.sc (.sc h))))))
theorem S6 {P : Prop} (h : P) : True ∧ True ∧ P := ⟨trivial, trivial, h⟩
theorem tK3 {P : Prop} (h : P) : True ∧ True ∧ True ∧ P := ⟨trivial, trivial, trivial, h⟩
theorem Vm {P : Prop} (h : P) : True ∧ True ∧ True ∧ True ∧ True ∧ P := ⟨trivial, trivial, trivial, trivial, trivial, h⟩
theorem Lm {P : Prop} (h : P) : True ∧ True ∧ True ∧ True ∧ True ∧ True ∧ P := ⟨trivial, trivial, trivial, trivial, trivial, trivial, h⟩
theorem Cv {β : Type} {G : Option β → Prop} {H : Ab} {L L1 : List Ck} {i o : Nat} {cs : List AV} {a : Bool} {y : AV} {KS : Ab → Option β} (hs : Sep H L) (hp : Pk L (.blk i cs a) L1) (hy : Ap y = true) (hl : Nat.ble (o + 1) cs.length = true) (h : ∀ H', Sep H' (.blk i (cs.set o y) a :: L1) → Gd G (KS H')) : Gd G (D7 1 (.ptr i o) y H fun H => KS H) := Bi hs hp (D0 hy) rfl (Bb hl) (by
 unfold Cf
 have := Bb hl
 rw [List.set_eq_take_append_cons_drop, if_pos (by omega)]
 simp) h
end
section
open Go
variable {β : Type}
theorem Jc {d ty : Nat} {cty : List Nat} {cs : List AV} (hty : ∃ i, Aq ty = some i ∧ i.cty = cty) (h : Eh (Gj Aq E0.tp d) cty cs) : Gj Aq E0.tp (d + 1) ty (.agg cs) := by
 obtain ⟨i, hi, rfl⟩ := hty
 exact ⟨i, hi, h⟩
theorem Akv {d ty : Nat} (h : ∃ i j, Aq ty = some i ∧ Aq i.elem = some j) : Gj Aq E0.tp (d + 1) ty (.ro 0 []) := by
 obtain ⟨i, j, h1, h2⟩ := h
 exact ⟨i, j, h1, h2, by simp, by simp [Eh]⟩
theorem H6 {d ty : Nat} (h : ∃ i j, Aq ty = some i ∧ Aq i.elem = some j := by exact ⟨_, _, rfl, rfl⟩) : Gj Aq E0.tp (d + 1) ty (.ro 0 []) := Akv h
theorem Gd.both {G : Option β → Prop} {a b : Option β} (h1 : Gd G a) (h2 : a = b) : Gd G (Mg a b) := by
 rw [Ok rfl h2.symm]
 exact h1
theorem Jd (s : ByteArray) : Gj Aq E0.tp 6 22 (Bt s) := Pn (d := 4) M0 s
theorem Aej (s : ByteArray) : Gj Aq E0.tp 5 22 (Bt s) := Pn (d := 3) M0 s
theorem Mc (l : List Int) : Gj Aq E0.tp 6 39 (Df l) := R5 (d := 4) (fun z : Int => .int .i64 z) Zv l
theorem Zg (l : List ByteArray) : Gj Aq E0.tp 6 38 (Mj l) := R5 (d := 4) (fun z : ByteArray => .string z) Acb l
theorem E1 (l : List Cz) : Gj Aq E0.tp 6 25 (Am Ao l) := Gp (d := 5) Eg ⟨_, _, rfl, rfl, rfl, rfl⟩ (Ic 3) l
theorem De (l : List Aj) : Gj Aq E0.tp 6 24 (Am Ar l) := Gp (d := 5) Bm ⟨_, _, rfl, rfl, rfl, rfl⟩ (Mu 3) l
theorem Li (l : List Qy) : Gj Aq E0.tp 6 37 (Am Ey l) := Gp (d := 5) Vd ⟨_, _, rfl, rfl, rfl, rfl⟩ (Aga 4) l
theorem InsL.mono {ts : List Nat} {cs : List AV} {Φ Ψ : List AV → List Ck → Prop} (h : InsL ts cs Φ) (m : ∀ xs Lx, Φ xs Lx → Ψ xs Lx) : InsL ts cs Ψ := fun H L hs => by
 obtain ⟨xs, Lx, a, b, c⟩ := h H L hs
 exact ⟨xs, Lx, a, b, m _ _ c⟩
theorem Aim (p : Cz) : InsL Gy (Ao p) fun xs Lx => ∃ x1 : AV, Ap x1 = true ∧ xs = [.sc (.string p.fTopic), x1, .sc (.int .i64 p.fQos), .sc (.bool p.fRetain)] ∧ Lx = [.own x1 22 (Bt p.fBody)] :=
 InsL.mono (Dp (Ib (ty := 22) rfl (Jd p.fBody) (Dp (Dp Il)))) (by
  rintro _ _ ⟨_, rfl, ⟨x1, _, _, l1, rfl, rfl, ⟨_, rfl, ⟨_, rfl, ⟨rfl, rfl⟩⟩⟩⟩⟩
  exact ⟨x1, l1, rfl, rfl⟩)
theorem Pf (p : Bv) : InsL Gf (A9 p) fun xs Lx => ∃ x1 x2 : AV, Ap x1 = true ∧ Ap x2 = true ∧ xs = [.sc (.int .i64 p.fLast), x1, x2] ∧ Lx = [.own x2 25 (Am Ao p.fQ), .own x1 24 (Am Ar p.fFl)] :=
 InsL.mono (Dp (Ib (ty := 24) rfl (De p.fFl) (Ib (ty := 25) rfl (E1 p.fQ) Il))) (by
  rintro _ _ ⟨_, rfl, ⟨x1, _, _, l1, rfl, rfl, ⟨x2, _, _, l2, rfl, rfl, ⟨rfl, rfl⟩⟩⟩⟩
  exact ⟨x1, x2, l1, l2, rfl, rfl⟩)
theorem Ho (p : B5) : InsL AaN (C7 p) fun xs Lx => ∃ x6 x13 x19 x22 x23 x24 : AV, Ap x6 = true ∧ Ap x13 = true ∧ Ap x19 = true ∧ Ap x22 = true ∧ Ap x23 = true ∧ Ap x24 = true ∧ xs = [.sc (.int .i64 p.fType), .sc (.bool p.fDup), .sc (.int .i64 p.fQos), .sc (.bool p.fRetain), .sc (.int .i64 p.fId), .sc (.string p.fTopic), x6, .sc (.string p.fClient), .sc (.int .i64 p.fLevel), .sc (.bool p.fClean), .sc (.int .i64 p.fKeep), .sc (.bool p.fHasWill), .sc (.string p.fWTopic), x13, .sc (.int .i64 p.fWQos), .sc (.bool p.fWRetain), .sc (.bool p.fHasUser), .sc (.string p.fUser), .sc (.bool p.fHasPass), x19, .sc (.int .i64 p.fCode), .sc (.bool p.fPresent), x22, x23, x24] ∧ Lx = [.own x24 39 (Df p.fCodes), .own x23 38 (Mj p.fNames), .own x22 37 (Am Ey p.fWants), .own x19 22 (Bt p.fPass), .own x13 22 (Bt p.fWBody), .own x6 22 (Bt p.fBody)] :=
 InsL.mono (Dp (Dp (Dp (Dp (Dp (Dp (Ib (ty := 22) rfl (Jd p.fBody) (Dp (Dp (Dp (Dp (Dp (Dp (Ib (ty := 22) rfl (Jd p.fWBody) (Dp (Dp (Dp (Dp (Dp (Ib (ty := 22) rfl (Jd p.fPass) (Dp (Dp (Ib (ty := 37) rfl (Li p.fWants) (Ib (ty := 38) rfl (Zg p.fNames) (Ib (ty := 39) rfl (Mc p.fCodes) Il))))))))))))))))))))))))) (by
  rintro _ _ ⟨_, rfl, ⟨_, rfl, ⟨_, rfl, ⟨_, rfl, ⟨_, rfl, ⟨_, rfl, ⟨x6, _, _, l6, rfl, rfl, ⟨_, rfl, ⟨_, rfl, ⟨_, rfl, ⟨_, rfl, ⟨_, rfl, ⟨_, rfl, ⟨x13, _, _, l13, rfl, rfl, ⟨_, rfl, ⟨_, rfl, ⟨_, rfl, ⟨_, rfl, ⟨_, rfl, ⟨x19, _, _, l19, rfl, rfl, ⟨_, rfl, ⟨_, rfl, ⟨x22, _, _, l22, rfl, rfl, ⟨x23, _, _, l23, rfl, rfl, ⟨x24, _, _, l24, rfl, rfl, ⟨rfl, rfl⟩⟩⟩⟩⟩⟩⟩⟩⟩⟩⟩⟩⟩⟩⟩⟩⟩⟩⟩⟩⟩⟩⟩⟩⟩⟩
  exact ⟨x6, x13, x19, x22, x23, x24, l6, l13, l19, l22, l23, l24, rfl, rfl⟩)
theorem Jb (p : At) : InsL Us (Bq p) fun xs Lx => ∃ x6 x7 x8 : AV, Ap x6 = true ∧ Ap x7 = true ∧ Ap x8 = true ∧ xs = [.sc (.string p.fClient), .sc (.int .i64 p.fBorn), .sc (.bool p.fClean), .sc (.int .i64 p.fConn), .sc (.int .i64 p.fGen), .sc (.int .i64 p.fO.fLast), x6, x7, x8] ∧ Lx = [.own x8 39 (Df p.fIn), .own x7 25 (Am Ao p.fO.fQ), .own x6 24 (Am Ar p.fO.fFl)] :=
 InsL.mono (Dp (Dp (Dp (Dp (Dp (Dp (Ib (ty := 24) rfl (De p.fO.fFl) (Ib (ty := 25) rfl (E1 p.fO.fQ) (Ib (ty := 39) rfl (Mc p.fIn) Il))))))))) (by
  rintro _ _ ⟨_, rfl, ⟨_, rfl, ⟨_, rfl, ⟨_, rfl, ⟨_, rfl, ⟨_, rfl, ⟨x6, _, _, l6, rfl, rfl, ⟨x7, _, _, l7, rfl, rfl, ⟨x8, _, _, l8, rfl, rfl, ⟨rfl, rfl⟩⟩⟩⟩⟩⟩⟩⟩⟩⟩
  exact ⟨x6, x7, x8, l6, l7, l8, rfl, rfl⟩)
theorem Kr {raw : List AV} {y : Aj} (hl : raw.length = 6) (hlf : raw.all Ap = true) (hs : ∀ (k : Nat) (v : Value), (Ar y)[k]? = some (AV.sc v) → raw[k]? = some (AV.sc v)) : ∃ r2 : AV, Ap r2 = true ∧ raw = [.sc (.int .i64 y.fId), .sc (.string y.fM.fTopic), r2, .sc (.int .i64 y.fM.fQos), .sc (.bool y.fM.fRetain), .sc (.int .i64 y.fSt)] := by
 match raw, hl with
 | [r0, r1, r2, r3, r4, r5], _ =>
  obtain rfl : r0 = _ := Option.some.inj (hs 0 _ rfl)
  obtain rfl : r1 = _ := Option.some.inj (hs 1 _ rfl)
  obtain rfl : r3 = _ := Option.some.inj (hs 3 _ rfl)
  obtain rfl : r4 = _ := Option.some.inj (hs 4 _ rfl)
  obtain rfl : r5 = _ := Option.some.inj (hs 5 _ rfl)
  simp only [zaY, zak] at hlf
  exact ⟨r2, hlf.2.2.1, rfl⟩
end
section
open Go
inductive Sel : List Ck → List Ck → Prop
 | nil {L : List Ck} : Sel L []
 | cons {L L1 L' : List Ck} {c : Ck} : Pk L c L1 → Sel L1 L' → Sel L (c :: L')
 | rest {L : List Ck} : Sel L L
 | skip {L L' : List Ck} {c : Ck} : Sel L L' → Sel (c :: L) L'
theorem Qw {a0 a1 : Ck} {L : List Ck} : Sel (a0 :: a1 :: L) L := .skip (.skip (.rest))
theorem It {a0 a1 a2 : Ck} {L : List Ck} : Sel (a0 :: a1 :: a2 :: L) L := .skip (.skip (.skip (.rest)))
theorem zS4 {a0 a1 a2 a3 : Ck} {L : List Ck} : Sel (a0 :: a1 :: a2 :: a3 :: L) L := .skip (.skip (.skip (.skip (.rest))))
theorem zS5 {a0 a1 a2 a3 a4 : Ck} {L : List Ck} : Sel (a0 :: a1 :: a2 :: a3 :: a4 :: L) L := .skip (.skip (.skip (.skip (.skip (.rest)))))
theorem zS8 {a0 a1 a2 a3 a4 a5 a6 a7 : Ck} {L : List Ck} : Sel (a0 :: a1 :: a2 :: a3 :: a4 :: a5 :: a6 :: a7 :: L) L := .skip (.skip (.skip (.skip (.skip (.skip (.skip (.skip (.rest))))))))
theorem Ii {a0 a1 a2 a3 a4 a5 a6 a7 a8 : Ck} {L : List Ck} : Sel (a0 :: a1 :: a2 :: a3 :: a4 :: a5 :: a6 :: a7 :: a8 :: L) L := .skip (.skip (.skip (.skip (.skip (.skip (.skip (.skip (.skip (.rest)))))))))
section
variable {β : Type} {n : Nat} {H : Ab} {L L' L1 L2 : List Ck} {G : Option β → Prop} {K : AV → Option β} {KH : KO β}
theorem Sep.none (h : Sep H L) : Sep H [] := by
 induction L with
 | nil => exact h
 | cons c L ih => exact ih h.tail
theorem Sel.sepI : ∀ {L L' : List Ck} {I : List Nat}, Sel L L' → SepI H L I → ∃ J X, SepI H L' J ∧ I.Perm (J ++ X)
 | _, _, I, .nil, h => ⟨[], I, rfl, zb1.refl _⟩
 | _, _, I, .rest, h => ⟨I, [], h, by simp⟩
 | _, _, I, .skip q, h => by
  obtain ⟨J, R, rfl, g1, g2⟩ := h
  obtain ⟨J', X, e1, e2⟩ := q.sepI g2
  refine ⟨J', J ++ X, e1, ?_⟩
  refine (zb1.append_left J e2).trans ?_
  rw [← zaj, ← zaj]
  exact zb1.append_right X List.perm_append_comm
 | _, _, I, .cons p q, h => by
  obtain ⟨J, R, g1, g2, g3⟩ := p.sepI h
  obtain ⟨J', X, e1, e2⟩ := q.sepI g2
  refine ⟨J ++ J', X, ⟨J, J', rfl, g1, e1⟩, ?_⟩
  rw [zaj]
  exact g3.trans (zb1.append_left J e2)
theorem Sep.sel (h : Sep H L) (q : Sel L L') : Sep H L' := by
 obtain ⟨I, h1, h2⟩ := h
 obtain ⟨J, X, g1, g2⟩ := q.sepI h1
 exact ⟨J, g1, (zaI.1 (g2.nodup_iff.1 h2)).1⟩
theorem Gd.bothE {r a b : Option β} (h1 : Gd (· = r) a) (h2 : Gd (· = r) b) : Gd (· = r) (Mg a b) := Ok h1 h2
theorem Y0 {α : Type} {w : Nat} {enc : α → List AV} {l pre t : List α} {x : α} {i : Int} (hi : i = (pre.length : Nat)) (hw : ∀ x, (enc x).length = w) (h0 : 0 < w) (hl : l = pre ++ x :: t) (h : Gd G (K (.rp (enc x ++ (t.map enc).flatten)))) : Gd G (Es w (Am enc l) (.sc (.int .i64 i)) fun t => K t) := by
 subst hl
 subst hi
 exact Dy (M4 hw h0 pre x t _) h
theorem Ph {l pre t : List Int} {x i : Int} (hi : i = (pre.length : Nat)) (hl : l = pre ++ x :: t) (h : Gd G (K (.rp (Qj x ++ (t.map Qj).flatten)))) : Gd G (Es 1 (Df l) (.sc (.int .i64 i)) fun t => K t) := by
 rw [Ji]
 exact Y0 hi (fun _ => rfl) (by decide) hl h
theorem Se {α : Type} {enc : α → List AV} (l q : List α) : Am enc (l ++ q) = .ro (l.length + q.length) ((l.map enc).flatten ++ (q.map enc).flatten) := by
 show AV.ro _ _ = _
 rw [zae, za8, za1]
theorem Yy {α : Type} {enc : α → List AV} {sz bytes ty : Nat} {cty : List Nat} {x : AV} {l : List α} {i : Nat} {raw cb : List AV} {a : Bool} {e : α} {L3 : List Ck} (hs : Sep H L) (hty : ∃ i j, Aq ty = some i ∧ Aq i.elem = some j ∧ j.size = sz ∧ j.cty = cty) (hx : Pk L (.own x ty (Am enc l)) L1) (hp : Pk L1 (.blk i raw a) L2) (hl : raw.length = sz) (hf : raw.all Ap = true) (hr : OwnR L2 raw cty cb L3) (hok : Eh (Gj Aq E0.tp 5) cty cb) (he : cb = enc e) (hb : (l.length + 1) * bytes ≤ 140737488355328)
  (h : ∀ x' H', Ap x' = true → Sep H' (.own x' ty (Am enc (l ++ [e])) :: L3) → Gd G (KH x' H')) : Gd G (G4 sz bytes x (.sl i 0 1 sz) H fun x H => KH x H) := by
 have e1 : (zad 1 cty).flatten = cty := by simp
 refine Wf hs hty hx (Ox hp (by omega) hf (by rw [e1]; exact hr) (by rw [e1]; exact hok)) (by rw [e1]; exact hok) hb fun x' H' lx hs' => h x' H' lx ?_
 rw [Se]
 simpa [he] using hs'
theorem U4 {ty : Nat} {cty : List Nat} {x : AV} {l : List Int} {i : Nat} {z : Int} {a : Bool} (hs : Sep H L) (hx : Pk L (.own x ty (Df l)) L1) (hp : Pk L1 (.blk i [.sc (.int .i64 z)] a) L2) (hty : ∃ i j, Aq ty = some i ∧ Aq i.elem = some j ∧ j.size = 1 ∧ j.cty = cty) (hc : cty.length = 1) (hb : (l.length + 1) * 8 ≤ 140737488355328)
  (h : ∀ x' H', Ap x' = true → Sep H' (.own x' ty (Df (l ++ [z])) :: L2) → Gd G (KH x' H')) : Gd G (G4 1 8 x (.sl i 0 1 1) H fun x H => KH x H) := by
 obtain ⟨c, rfl⟩ := zb5.1 hc
 rw [Ji] at hx h
 exact Yy hs hty hx hp rfl rfl (.sc .nil) ⟨trivial, trivial⟩ rfl hb h
theorem Aa4 {f : Nat → AV → Option (AV × List Nat)} : ∀ {ts : List Nat} {xs cells : List AV} {I : List Nat} {k ty : Nat} {y t : AV}, Ce f ts xs = some (cells, I) → xs[k]? = some y → ts[k]? = some ty → cells[k]? = some t → ∃ J, f ty y = some (t, J) ∧ ∀ i ∈ J, i ∈ I
 | ts, [], cells, I, k, ty, y, t, h, hy, _, _ => by simp at hy
 | [], _ :: _, _, _, _, _, _, _, h, _, _, _ => by simp [Ce] at h
 | t0 :: ts, x :: xs, cells, I, k, ty, y, t, h, hy, ht, hc => by
  obtain ⟨a, b, h1, h2, e⟩ := E5 h
  cases e
  cases k with
  | zero =>
   simp only [zbo, Option.some.injEq] at hy ht hc
   subst hy
   subst ht
   subst hc
   exact ⟨a.2, h1, fun i hi => zau _ hi⟩
  | succ k =>
   obtain ⟨J, g1, g2⟩ := Aa4 (cells := b.1) (I := b.2) h2 (by simpa using hy) (by simpa using ht) (by simpa using hc)
   exact ⟨J, g1, fun i hi => zaq _ (g2 i hi)⟩
theorem Af9 {α : Type} {enc : α → List AV} {sz bytes ty : Nat} {cty : List Nat} {x : AV} {l : List α} {i k ty' : Nat} {y t' : AV} {raw cb : List AV} {a : Bool} {e : α} {L3 : List Ck} (hs : Sep H L) (hty : ∃ i j, Aq ty = some i ∧ Aq i.elem = some j ∧ j.size = sz ∧ j.cty = cty) (hx : Pk L (.own x ty (Am enc l)) L1) (hp : Pk L1 (.blk i raw a) L2) (hl : raw.length = sz) (hf : raw.all Ap = true) (hr : OwnR L2 raw cty cb L3) (hok : Eh (Gj Aq E0.tp 5) cty cb) (he : cb = enc e) (hb : (l.length + 1) * bytes ≤ 140737488355328)
  (hw : ∀ x, (enc x).length = sz) (hc : cty.length = sz) (hk : raw[k]? = some y) (hk2 : cty[k]? = some ty') (hk3 : cb[k]? = some t') (hok5 : Gj Aq E0.tp 6 ty' t')
  (h : ∀ x' H', Ap x' = true → Sep H' (.shr x' ty (Am enc (l ++ [e])) y ty' t' :: L3) → Gd G (KH x' H')) : Gd G (G4 sz bytes x (.sl i 0 1 sz) H fun x H => KH x H) := by
 have e1 : (zad 1 cty).flatten = cty := by simp
 have hblk := (hs.pick hx).tail.blk hp
 obtain ⟨ti, tj, t1, t2, t3, t4⟩ := hty
 refine AdL hs ⟨ti, tj, t1, t2, t3, t4⟩ hx (Ox hp (by omega) hf (by rw [e1]; exact hr) (by rw [e1]; exact hok)) (by rw [e1]; exact hok) hb fun x' H' lx hs' ⟨id, cx, cy, q1, q2, q3, q4⟩ => h x' H' lx ?_
 have hcy : cy = raw := by
  have : C3 H sz (.sl i 0 1 sz) = some raw := by
   show (if sz = sz then A3 H i 0 (1 * sz) else none) = _
   simp only [if_true, A3, hblk, zbw, zav, za7, ← hl, zai, za3]
  rw [this] at q3
  exact (Option.some.inj q3).symm
 subst hcy
 obtain ⟨I, ⟨J, R, rfl, ⟨h0, h1, h2⟩, h3⟩, h4⟩ := hs'
 have hrow : AV.ro (l.length + 1) ((l.map enc).flatten ++ cb) = Am enc (l ++ [e]) := by
  rw [Se]
  simp [he]
 rw [hrow] at h1 h2
 refine ⟨J ++ R, ⟨J, R, rfl, ⟨⟨h0, h1, h2⟩, hok5, ?_⟩, h3⟩, h4⟩
 rw [← hrow] at h2
 rcases Lj t1 t2 h2 with ⟨rfl, _⟩ | ⟨id', off, raw', J', b, p1, p2, p3, p4, p5, p6, p7⟩
 ·cases q1
 ·rw [q1] at p1
  cases p1
  rw [q2] at p3
  cases p3
  have hraw : raw' = cx ++ cy := by
   have hlen : (cx ++ cy).length = (l.length + 1) * tj.size := by rw [zae, q4, hl, t3, zaU, zbw]
   simp only [A3, q2, if_true, zav, za7] at p6
   rw [if_pos (by rw [hlen]; exact zai _), ← hlen, za3] at p6
   exact (Option.some.inj p6).symm
  subst hraw
  have hlk : k < cy.length := (zac.1 hk).1
  obtain ⟨J2, g1, g2⟩ := Aa4 (k := l.length * tj.size + k) (ty := ty') (y := y) (t := t') p7 (by
   rw [zaf (by omega), q4, zbq]
   exact hk) (by
   rw [List.replicate_succ', za1, zaf (by simp [t4, hc])]
   simp [t4, hc, hk2]) (by
   have hlr := Fa hw l
   rw [zaf (by omega), hlr, zbq]
   exact hk3)
  exact ⟨J2, Hx 5 6 ty' y t' J2 g1 hok5, fun z hz => by rw [p2]; exact zaw _ (g2 z hz)⟩
theorem Aii {α : Type} {enc : α → List AV} {sz bytes ty : Nat} {cty : List Nat} {x y : AV} {l q : List α} (hs : Sep H L) (hty : ∃ i j, Aq ty = some i ∧ Aq i.elem = some j ∧ j.size = sz ∧ j.cty = cty) (hx : Pk L (.own x ty (Am enc l)) L1) (hy : Src H L1 sz cty y q.length (q.map enc).flatten L2) (hok : Eh (Gj Aq E0.tp 5) (zad q.length cty).flatten (q.map enc).flatten) (hb : (l.length + q.length) * bytes ≤ 140737488355328)
  (h : ∀ x' H', Ap x' = true → Sep H' (.own x' ty (Am enc (l ++ q)) :: L2) → Gd G (KH x' H')) : Gd G (G4 sz bytes x y H fun x H => KH x H) := by
 refine Wf hs hty hx hy hok hb fun x' H' lx hs' => h x' H' lx ?_
 rw [Se]
 exact hs'
theorem Aih {sz bytes m ty : Nat} {cty : List Nat} {y : AV} {cb : List AV} (hs : Sep H L) (hty : ∃ i j, Aq ty = some i ∧ Aq i.elem = some j ∧ j.size = sz ∧ j.cty = cty) (hy : Src H L sz cty y m cb L2) (hok : Eh (Gj Aq E0.tp 5) (zad m cty).flatten cb) (hb : m * bytes ≤ 140737488355328)
  (h : ∀ x' H', Ap x' = true → Sep H' (.own x' ty (.ro m cb) :: L2) → Gd G (KH x' H')) : Gd G (G4 sz bytes .nl y H fun x H => KH x H) := by
 obtain ⟨i, j, e1, e2, e3, e4⟩ := hty
 refine Wf (hs.nl (ty := ty) ⟨i, j, e1, e2⟩) ⟨i, j, e1, e2, e3, e4⟩ .here hy hok (by rw [zav]; exact hb) fun x' H' lx hs' => h x' H' lx ?_
 rw [zav, zah] at hs'
 exact hs'
theorem R3 {d : Nat} : ∀ {ts : List Nat} {l : List AV}, ts.length = l.length → l.all Rq = true → Eh (Gj Aq E0.tp (d + 1)) ts l
 | [], [], _, _ => trivial
 | t :: ts, x :: l, h, hl => by
  rw [zaY, zak] at hl
  refine ⟨?_, R3 (by simpa using h) hl.2⟩
  cases x with
  | sc v => trivial
  | _ => simp [Rq] at hl
 | [], _ :: _, h, _ => by simp at h
 | _ :: _, [], h, _ => by simp at h
theorem Xd (s : ByteArray) : (Bk s).all Rq = true := by
 simp only [Bk, List.all_map, zaF]
 intro b _
 rfl
theorem AfU {cty : List Nat} {w m : Nat} (h : cty.length = w) : ((zad m cty).flatten).length = m * w := by simp [h]
theorem AfA {s : ByteArray} (hs : Sep H L) (hb : s.size ≤ 140737488355328) (h : ∀ x' H', Ap x' = true → Sep H' (.own x' 22 (Bt s) :: L) → Gd G (KH x' H')) : Gd G (G4 1 1 .nl (Bt s) H fun x H => KH x H) :=
 Aih hs ⟨_, _, rfl, rfl, rfl, rfl⟩ (Ai3 rfl (by rw [E4]; omega) (Xd s)) (R3 (by rw [AfU (w := 1) rfl, E4, Nat.mul_one]) (Xd s)) (by omega) h
end
end
section
open Go
section
variable {β : Type} {n : Nat} {H : Ab} {L L' L1 L2 : List Ck} {G : Option β → Prop} {K : AV → Option β} {KH : KO β}
theorem Qb {d : Nat} : ∀ {ts : List Nat} {l : List AV}, ts.length = l.length → l.all Rq = true → Ce (B0 Aq E0.tp H (d + 1)) ts l = some (l, [])
 | [], [], _, _ => rfl
 | t :: ts, x :: l, h, hl => by
  rw [zaY, zak] at hl
  cases x with
  | sc v =>
   rw [Ce, G7, zab, Qb (by simpa using h) hl.2]
   rfl
  | _ => simp [Rq] at hl
 | [], _ :: _, h, _ => by simp at h
 | _ :: _, [], h, _ => by simp at h
theorem Sep.closeR {sz m ty id : Nat} {pre cells post : List AV} (hty : ∃ i j, Aq ty = some i ∧ Aq i.elem = some j ∧ j.size = sz ∧ j.cty.length = sz) (hs : Sep H (.blk id (pre ++ (cells ++ post)) true :: L)) (hf : cells.all Rq = true) (hl : cells.length = m * sz) : Sep H (.own (.sl id pre.length m sz) ty (.ro m cells) :: L) := by
 obtain ⟨i, j, e1, e2, rfl, e4⟩ := hty
 obtain ⟨I, ⟨J, R, rfl, ⟨rfl, h1⟩, h2⟩, h3⟩ := hs
 have hlen : ((zad m j.cty).flatten).length = cells.length := by simp [e4, hl]
 refine ⟨[id] ++ R, ⟨[id], R, rfl, ⟨rfl, ⟨i, j, e1, e2, hl, R3 hlen hf⟩, ?_⟩, h2⟩, h3⟩
 rw [Fj]
 have ha : E7 H id = true := by simp only [E7, h1]
 have hrd : A3 H id pre.length (m * j.size) = some cells := by
  simp only [A3, h1, if_true]
  rw [if_pos (by simp only [zae]; omega), zbA, ← hl, List.take_left']
  rfl
  rfl
 simp only [e1, e2, zab, if_true, ha, hrd, Qb (d := 4) hlen hf]
theorem N6 {w m o d : Nat} {z : Int} {K : AV → Option β} (h0 : 0 ≤ z) (h1 : z < m) (hk : Gd G (K (.ptr d (o + z.toNat * w)))) : Gd G (Es w (.sl d o m w) (.sc (.int .i64 z)) fun t => K t) := by
 have e := AfH w m d o z.toNat (fun t => K t) (by omega)
 rw [show ((z.toNat : Nat) : Int) = z by omega] at e
 exact Dy e hk
end
end
section
open Go
section
variable {β : Type} {n : Nat} {H : Ab} {L L' L1 L2 : List Ck} {G : Option β → Prop} {K : AV → Option β} {KH : KO β}
theorem T6 {d : Nat} : ∀ {ts : List Nat} {xs cells : List AV} {I : List Nat} {k : Nat} {v : Value}, Ce (B0 Aq E0.tp H d) ts xs = some (cells, I) → cells[k]? = some (.sc v) → xs[k]? = some (.sc v)
 | ts, [], cells, I, k, v, h, hk => by
  obtain ⟨_, e⟩ := Ir h
  cases e
  simp at hk
 | [], _ :: _, _, _, _, _, h, _ => by simp [Ce] at h
 | t :: ts, x :: xs, cells, I, k, v, h, hk => by
  obtain ⟨a, b, h1, h2, e⟩ := E5 h
  cases e
  cases k with
  | zero =>
   obtain ⟨a1, a2⟩ := a
   have : a1 = .sc v := by simpa using hk
   subst this
   rw [Zi h1]
   rfl
  | succ k => simpa using T6 h2 (by simpa using hk)
end
end
section
open Go
section
variable {β : Type} {n : Nat} {H : Ab} {L L' L1 L2 : List Ck} {G : Option β → Prop} {K : AV → Option β} {KH : KO β}
def Ai6 : List AV → List Nat → List AV → List (AV × Nat × AV)
 | x :: xs, t :: ts, c :: cs => (x, t, c) :: Ai6 xs ts cs
 | _, _, _ => []
theorem Jr {f : Nat → AV → Option (AV × List Nat)} : ∀ {ts1 ts2 : List Nat} {xs cells : List AV} {I : List Nat}, Ce f (ts1 ++ ts2) xs = some (cells, I) → ts1.length ≤ xs.length → ∃ I1 I2, Ce f ts1 (xs.take ts1.length) = some (cells.take ts1.length, I1) ∧ Ce f ts2 (xs.drop ts1.length) = some (cells.drop ts1.length, I2) ∧ (∀ i ∈ I1, i ∈ I) ∧ ∀ i ∈ I2, i ∈ I
 | [], ts2, xs, cells, I, h, _ => ⟨[], I, by simp [Ce], by simpa using h, by simp, fun i hi => hi⟩
 | t :: ts1, ts2, [], cells, I, h, hl => by simp at hl
 | t :: ts1, ts2, x :: xs, cells, I, h, hl => by
  obtain ⟨a, b, h1, h2, e⟩ := E5 h
  cases e
  obtain ⟨I1, I2, g1, g2, g3, g4⟩ := Jr (ts1 := ts1) (ts2 := ts2) h2 (by simpa using hl)
  refine ⟨a.2 ++ I1, I2, ?_, ?_, ?_, ?_⟩
  show Ce f (t :: ts1) (x :: xs.take ts1.length) = some (a.1 :: b.1.take ts1.length, a.2 ++ I1)
  rw [Ce, h1, zab, g1]
  rfl
  simpa using g2
  intro i hi
  rcases zaB.1 hi with hi | hi
  exact zau _ hi
  exact zaq _ (g3 i hi)
  intro i hi
  exact zaq _ (g4 i hi)
theorem T8 {d : Nat} {I0 : List Nat} : ∀ {ts : List Nat} {xs cells : List AV} {I : List Nat}, Ce (B0 Aq E0.tp H d) ts xs = some (cells, I) → Eh (Gj Aq E0.tp 6) ts cells → (∀ i ∈ I, i ∈ I0) → ∀ q ∈ Ai6 xs ts cells, Gj Aq E0.tp 6 q.2.1 q.2.2 ∧ ∃ J, B0 Aq E0.tp H 6 q.2.1 q.1 = some (q.2.2, J) ∧ ∀ i ∈ J, i ∈ I0
 | ts, [], cells, I, h, _, _ => by intro q hq; cases ts <;> cases hq
 | [], _ :: _, _, _, h, _, _ => by simp [Ce] at h
 | t :: ts, x :: xs, cells, I, h, ho, hI => by
  obtain ⟨a, b, h1, h2, e⟩ := E5 h
  cases e
  intro q hq
  rcases zay.1 hq with rfl | hq
  exact ⟨ho.1, a.2, Hx d 6 t x a.1 a.2 h1 ho.1, fun i hi => hI i (zau _ hi)⟩
  exact T8 h2 ho.2 (fun i hi => hI i (zaq _ hi)) q hq
theorem F9 {f : Nat → AV → Prop} : ∀ {ts1 ts2 : List Nat} {cs : List AV}, Eh f (ts1 ++ ts2) cs → Eh f ts1 (cs.take ts1.length) ∧ Eh f ts2 (cs.drop ts1.length)
 | [], ts2, cs, h => ⟨by simp [Eh], by simpa using h⟩
 | t :: ts1, ts2, [], h => by cases h
 | t :: ts1, ts2, c :: cs, h => by
  obtain ⟨g1, g2⟩ := F9 (ts1 := ts1) h.2
  exact ⟨⟨h.1, g1⟩, by simpa using g2⟩
theorem Wg {α : Type} {enc : α → List AV} {w ty : Nat} {cty : List Nat} {x : AV} {l : List α} {y : α} {i : Int} {ys : List (AV × Nat × AV)} (hs : Sep H L) (hty : ∃ i j, Aq ty = some i ∧ Aq i.elem = some j ∧ j.size = w ∧ j.cty = cty) (hp : Pk L (.shs x ty (Am enc l) ys) L1)
  (hi : 0 ≤ i) (hy : l[i.toNat]? = some y) (hw : ∀ x, (enc x).length = w) (hf : ∀ x, (enc x).all Ip = true) (hc : cty.length = w)
  (h : ∀ id off raw, raw.length = w → raw.all Ap = true → A3 H id off w = some raw → (∀ (k : Nat) (v : Value), (enc y)[k]? = some (AV.sc v) → raw[k]? = some (AV.sc v)) → Sep H (.shs x ty (Am enc l) (Ai6 raw cty (enc y) ++ ys) :: L1) → Gd G (K (.ptr id off))) : Gd G (Es w x (si i) fun t => K t) := by
 obtain ⟨ti, tj, e1, e2, rfl, rfl⟩ := hty
 obtain ⟨I, ⟨J, R, rfl, ⟨⟨hlf, hok, e⟩, hys⟩, h2⟩, h3⟩ := hs.pick hp
 have hlt : i.toNat < l.length := (zac.1 hy).1
 rcases Lj e1 e2 e with ⟨rfl, h0, _, _⟩ | ⟨id, off, raw, J', b, rfl, rfl, hb, hlv, ha, h4, h5⟩
 omega
 obtain ⟨hl, b', hb', _, hle, hcs⟩ := G9 h4
 rw [hb] at hb'
 cases hb'
 have hm : (i.toNat + 1) * tj.size ≤ l.length * tj.size := zbd _ hlt
 have hrep : (zad l.length tj.cty).flatten = (zad i.toNat tj.cty).flatten ++ (tj.cty ++ (zad (l.length - i.toNat - 1) tj.cty).flatten) := by
  rw [show l.length = i.toNat + (1 + (l.length - i.toNat - 1)) by omega, ← zaA, ← zaA, za1, za1]
  simp
 have hl1 : ((zad i.toNat tj.cty).flatten).length = i.toNat * tj.size := by simp [hc]
 rw [hrep] at h5
 obtain ⟨I1, I2, g1, g2, g3, g4⟩ := Jr h5 (by rw [hl1, hl, zaU] at *; omega)
 obtain ⟨I3, I4, k1, k2, k3, k4⟩ := Jr g2 (by rw [zaH, hl1, hl, hc]; rw [zaU] at hm; omega)
 rw [hl1, hc] at k1
 have hcell : (((l.map enc).flatten).drop (i.toNat * tj.size)).take tj.size = enc y := by
  obtain ⟨_, hey⟩ := zac.1 hy
  have hsplit : l = l.take i.toNat ++ y :: l.drop (i.toNat + 1) := by
   rw [← hey, ← zbj hlt, zaR]
  have hpre : ((l.take i.toNat).map enc).flatten.length = i.toNat * tj.size := by
   rw [Fa hw, zaK, zaQ (Nat.le_of_lt hlt)]
  rw [hsplit, za8, za1, za0, zaD]
  have e0 : (l.take i.toNat ++ y :: l.drop (i.toNat + 1)).take i.toNat = l.take i.toNat := by rw [← hsplit]
  rw [zbn (by omega), ← hpre, List.drop_length, zah, zb2 (by rw [hw]; exact zai _), ← hw y, za3]
 rw [hcell] at k1
 have hokE : Eh (Gj Aq E0.tp 6) tj.cty (enc y) := by
  obtain ⟨i', j', q1, q2, q3, q4⟩ := hok
  rw [e1] at q1
  cases q1
  rw [e2] at q2
  cases q2
  rw [hrep] at q4
  have q5 := (F9 (F9 q4).2).1
  rw [hl1, hc] at q5
  show Eh (Gj Aq E0.tp 6) tj.cty (enc y)
  have hcell' : (((Am enc l |> fun _ => (l.map enc).flatten)).drop (i.toNat * tj.size)).take tj.size = enc y := hcell
  rw [← hcell]
  exact Aay q5 (by decide)
 have hrd : A3 H id (off + i.toNat * tj.size) tj.size = some ((raw.drop (i.toNat * tj.size)).take tj.size) := by
  simp only [A3, hb, hlv, if_true]
  rw [zaU] at hm
  rw [if_pos (by omega), hcs, List.drop_take, List.take_take, zbb, zaQ (by omega)]
 have hrl : ((raw.drop (i.toNat * tj.size)).take tj.size).length = tj.size := by
  rw [zaK, zaH, hl]
  rw [zaU] at hm
  omega
 refine N6 hi (by omega) (h id _ _ hrl (Pp (fun t x a I h hl => W3 h hl) k1 (hf y)) hrd (fun k v hk => T6 k1 hk) ⟨(id :: J') ++ R, ⟨id :: J', R, rfl, ⟨⟨hlf, hok, e⟩, fun q hq => ?_⟩, h2⟩, h3⟩)
 rcases zaB.1 hq with hq | hq
 exact T8 k1 hokE (fun i hi => zaw _ (g4 i (k3 i hi))) q hq
 exact hys q hq
theorem Rk {id o w : Nat} {cs : List AV} (e : A3 H id o w = some cs) (h : Gd G (K (.agg cs))) : Gd G (C6 true w (.ptr id o) H fun x => K x) := Dy (ldT e _) h
def Oo (s : ByteArray) (b : Int) : ByteArray := s.push (UInt8.ofNat b.toNat)
theorem Af (s : ByteArray) (b : Int) : (Oo s b).size = s.size + 1 := by
 unfold Oo
 exact ByteArray.size_push
theorem X7 (s : ByteArray) (b : Int) (h0 : 0 ≤ b) (h1 : b < 256) : Bt (Oo s b) = .ro (s.size + 1) (Bk s ++ [.sc (.int .u8 b)]) := by
 show AV.ro (Oo s b).size (Bk (Oo s b)) = _
 rw [Af]
 congr 1
 have e : ((UInt8.ofNat b.toNat).toNat : Int) = b := by
  rw [UInt8.toNat_ofNat']
  omega
 unfold Bk Oo
 rw [ByteArray.data_push, Array.toList_push, za8, za0, zbv, e]
theorem Af7 {ty : Nat} {cty : List Nat} {x : AV} {s : ByteArray} {i : Nat} {z : Int} {a : Bool} (hs : Sep H L) (hx : Pk L (.own x ty (Bt s)) L1) (hp : Pk L1 (.blk i [.sc (.int .u8 z)] a) L2) (hty : ∃ i j, Aq ty = some i ∧ Aq i.elem = some j ∧ j.size = 1 ∧ j.cty = cty) (hc : cty.length = 1) (hb : 0 ≤ z ∧ z < 256 ∧ s.size + 1 ≤ 140737488355328)
  (h : ∀ x' H', Ap x' = true → Sep H' (.own x' ty (Bt (Oo s z)) :: L2) → Gd G (KH x' H')) : Gd G (G4 1 1 x (.sl i 0 1 1) H fun x H => KH x H) := by
 obtain ⟨c, rfl⟩ := zb5.1 hc
 have e1 : (zad 1 [c]).flatten = [c] := by simp
 rw [X7 s z hb.1 hb.2.1] at h
 exact Wf (m := 1) (cb := [.sc (.int .u8 z)]) hs hty hx (Ox hp rfl rfl (by rw [e1]; exact .sc .nil) (by rw [e1]; exact ⟨trivial, trivial⟩)) (by rw [e1]; exact ⟨trivial, trivial⟩) (by omega) fun x' H' lx hs' => h x' H' lx hs'
theorem Ajy {k k' : IntKind} {a z : Int} {K : AV → Option β} (hz : k.wrap a = z) (h : Gd G (K (.sc (.int k z)))) : Gd G (W7 k (.sc (.int k' a)) fun t => K t) := by
 subst hz
 exact h
theorem Ae9 {a : Int} (h0 : 0 ≤ a) (h1 : a < 256) : IntKind.u8.wrap a = a := by
 simp only [IntKind.wrap, IntKind.bits, IntKind.signed]
 simp
 omega
end
end
section
open Go
section
variable {β : Type} {n : Nat} {H : Ab} {L L' L1 L2 : List Ck} {G : Option β → Prop} {K : AV → Option β} {KH : KO β}
theorem Vi {cty : List Nat} {m a b : Nat} (ha : a ≤ b) (hb : b ≤ m) : (zad m cty).flatten = (zad a cty).flatten ++ ((zad (b - a) cty).flatten ++ (zad (m - b) cty).flatten) := by
 rw [show m = a + ((b - a) + (m - b)) by omega, ← zaA, ← zaA, za1, za1]
 congr 4
 omega
def Acg (w : Nat) (x : AV) (a b : Nat) (y : AV) : Prop := (x = .nl ∧ y = .nl) ∨ ∃ id off m, x = .sl id off m w ∧ y = .sl id (off + a * w) (b - a) w
theorem AdO {sz m ty a b : Nat} {cty : List Nat} {x : AV} {cells : List AV} {ys : List (AV × Nat × AV)} {lo hi : Option AV} (hs : Sep H L) (hty : ∃ i j, Aq ty = some i ∧ Aq i.elem = some j ∧ j.size = sz ∧ j.cty = cty) (hp : Pk L (.shs x ty (.ro m cells) ys) L1)
  (hlo : Jm lo 0 = some ((a : Nat) : Int)) (hhi : Jm hi m = some ((b : Nat) : Int)) (hab : a ≤ b) (hb : b ≤ m) (hc : cty.length = sz)
  (h : ∀ y, Ap y = true → Acg sz x a b y → Sep H (.shs x ty (.ro m cells) ((y, ty, .ro (b - a) ((cells.drop (a * sz)).take ((b - a) * sz))) :: ys) :: L1) → Gd G (K y)) : Gd G (Iv sz x lo hi fun t => K t) := by
 obtain ⟨ti, tj, e1, e2, rfl, rfl⟩ := hty
 obtain ⟨I, ⟨J, R, rfl, ⟨⟨hlf, hok, e⟩, hys⟩, h2⟩, h3⟩ := hs.pick hp
 have hcl : cells.length = m * tj.size ∧ Eh (Gj Aq E0.tp 5) (zad m tj.cty).flatten cells := by
  obtain ⟨i', j', q1, q2, q3, q4⟩ := hok
  rw [e1] at q1
  cases q1
  rw [e2] at q2
  cases q2
  exact ⟨q3, q4⟩
 have hrl : ∀ k, ((zad k tj.cty).flatten).length = k * tj.size := fun k => by simp [hc]
 have hm1 : a * tj.size ≤ b * tj.size := zbd _ hab
 have hm2 : b * tj.size ≤ m * tj.size := zbd _ hb
 have hm3 : (b - a) * tj.size = b * tj.size - a * tj.size := Nat.sub_mul ..
 have hokP : Gj Aq E0.tp 6 ty (.ro (b - a) ((cells.drop (a * tj.size)).take ((b - a) * tj.size))) := by
  refine ⟨ti, tj, e1, e2, ?_, ?_⟩
  rw [zaK, zaH, hcl.1]
  omega
  have q := hcl.2
  rw [Vi hab hb] at q
  have q2 := (F9 (F9 q).2).1
  rw [hrl, hrl] at q2
  exact q2
 have fin : ∀ y JP, Ap y = true → Acg tj.size x a b y → B0 Aq E0.tp H 6 ty y = some (.ro (b - a) ((cells.drop (a * tj.size)).take ((b - a) * tj.size)), JP) → (∀ i ∈ JP, i ∈ J) → Gd G (K y) := by
  intro y JP hy1 hq hy hJ
  refine h y hy1 hq ⟨J ++ R, ⟨J, R, rfl, ⟨⟨hlf, hok, e⟩, fun q hq => ?_⟩, h2⟩, h3⟩
  rcases zay.1 hq with rfl | hq
  exact ⟨hokP, JP, hy, hJ⟩
  exact hys q hq
 rcases Lj e1 e2 e with ⟨rfl, rfl, rfl, rfl⟩ | ⟨id, off, raw, J', bb, rfl, rfl, hbb, hlv, ha, h4, h5⟩
 have hb0 : b = 0 := by omega
 have ha0 : a = 0 := by omega
 subst hb0
 subst ha0
 refine Dy (b := K .nl) ?_ (fin .nl [] rfl (.inl ⟨rfl, rfl⟩) (by simp [B0]) (by simp))
 have hl0 : Gi .nl = some 0 := rfl
 simp only [Iv, hl0, hlo, hhi, zab]
 rfl
 obtain ⟨hl, b', hb', _, hle, hcs⟩ := G9 h4
 rw [hbb] at hb'
 cases hb'
 rw [Vi hab hb] at h5
 obtain ⟨I1, I2, g1, g2, g3, g4⟩ := Jr h5 (by rw [hrl, hl]; omega)
 obtain ⟨I3, I4, k1, k2, k3, k4⟩ := Jr g2 (by rw [hrl, zaH, hrl, hl]; omega)
 rw [hrl, hrl] at k1
 refine Dy (b := K (.sl id (off + a * tj.size) (b - a) tj.size)) ?_ (fin _ (id :: I3) rfl (.inr ⟨id, off, m, rfl, rfl⟩) ?_ ?_)
 have hl0 : Gi (.sl id off m tj.size) = some m := rfl
 simp only [Iv, hl0, hlo, hhi, zab, if_true]
 rw [if_pos (by omega)]
 congr 2
 omega
 rw [Fj]
 have hap : E7 H id = true := by simp only [E7, hbb]; exact ha
 have hrd : A3 H id (off + a * tj.size) ((b - a) * tj.size) = some ((raw.drop (a * tj.size)).take ((b - a) * tj.size)) := by
  simp only [A3, hbb, hlv, if_true]
  rw [if_pos (by omega), hcs, List.drop_take, List.take_take, zbb, zaQ (by omega)]
 simp only [e1, e2, zab, if_true, hap, hrd, k1]
 intro i hi
 rcases zay.1 hi with rfl | hi
 exact za6
 exact zaw _ (g4 i (k3 i hi))
theorem Sf {α : Type} {enc : α → List AV} {w : Nat} (hw : ∀ x, (enc x).length = w) (l : List α) (a b : Nat) (hab : a ≤ b) (hb : b ≤ l.length) : (AV.ro (b - a) ((((l.map enc).flatten).drop (a * w)).take ((b - a) * w))) = Am enc ((l.drop a).take (b - a)) := by
 have h1 : (((l.map enc).flatten).drop (a * w)) = ((l.drop a).map enc).flatten := by
  have e : l = l.take a ++ l.drop a := (zaR a l).symm
  have hp : ((l.take a).map enc).flatten.length = a * w := by rw [Fa hw, zaK, zaQ (by omega)]
  rw [e, za8, za1]
  have e0 : (l.take a ++ l.drop a).drop a = l.drop a := by rw [← e]
  rw [e0, zbn (by omega), ← hp, List.drop_length, zah]
 have h2 : (((l.drop a).map enc).flatten).take ((b - a) * w) = (((l.drop a).take (b - a)).map enc).flatten := by
  have e : l.drop a = (l.drop a).take (b - a) ++ (l.drop a).drop (b - a) := (zaR _ _).symm
  have hp : (((l.drop a).take (b - a)).map enc).flatten.length = (b - a) * w := by rw [Fa hw, zaK, zaH, zaQ (by omega)]
  have e0 : ((l.drop a).take (b - a) ++ (l.drop a).drop (b - a)).take (b - a) = (l.drop a).take (b - a) := by rw [← e]
  rw [e, za8, za1, e0, zb2 (by omega), ← hp, za3]
 rw [h1, h2]
 show _ = AV.ro _ _
 rw [zaK, zaH, zaQ (by omega)]
theorem Kt {α : Type} {enc : α → List AV} {w ty : Nat} {a b : Int} {cty : List Nat} {x : AV} {l : List α} {ys : List (AV × Nat × AV)} {lo hi : Option AV} (hs : Sep H L) (hty : ∃ i j, Aq ty = some i ∧ Aq i.elem = some j ∧ j.size = w ∧ j.cty = cty) (hp : Pk L (.shs x ty (Am enc l) ys) L1)
  (hlo : Jm lo 0 = some a) (hhi : Jm hi l.length = some b) (h0 : 0 ≤ a) (hab : a ≤ b) (hb : b ≤ (l.length : Nat)) (hw : ∀ x, (enc x).length = w) (hc : cty.length = w)
  (h : ∀ y, Ap y = true → Acg w x a.toNat b.toNat y → Sep H (.shs x ty (Am enc l) ((y, ty, Am enc ((l.drop a.toNat).take (b.toNat - a.toNat))) :: ys) :: L1) → Gd G (K y)) : Gd G (Iv w x lo hi fun t => K t) := by
 obtain ⟨a', rfl⟩ : ∃ a' : Nat, a = a' := ⟨a.toNat, by omega⟩
 obtain ⟨b', rfl⟩ : ∃ b' : Nat, b = b' := ⟨b.toNat, by omega⟩
 refine AdO (cells := (l.map enc).flatten) hs hty hp hlo hhi (by omega) (by omega) hc fun y hy hq hs' => h y hy (by simpa using hq) ?_
 rw [Sf hw l a' b' (by omega) (by omega)] at hs'
 exact hs'
end
end
section
open Go
section
variable {β : Type} {n : Nat} {H : Ab} {L L' L1 L2 : List Ck} {G : Option β → Prop} {K : AV → Option β} {KH : KO β} {c : Nat} {code : ByteArray} {i : Nat} {h : Int}
abbrev Cr (c : Nat) (code : ByteArray) (i : Nat) (h : Int) : Ck := .blk c (cur code i h) true
theorem Ag2 (s : Sep H L) (p : Pk L (Cr c code i h) L1) : H[c]? = some (Nf code i h) := s.blk p
theorem Z4 {ty : Nat} (hs : code.size ≤ 1048576) (s : Sep H L) (p : Pk L (Cr c code i h) L1)
  (hk : ∀ (x : Int) (i' : Nat) (h' : Int) (H' : Ab), 0 ≤ x ∧ x < 256 → Sep H' (Cr c code i' h' :: L1) → Gd G (KH (si x) H')) :
  Gd G ((PR (n + 1) β).call ty (.fn 97 [] []) [.ptr c 0] H fun x H => KH x H) := by
 obtain ⟨x, i', h', hx, hr⟩ := V3 (β := β) (n := n) c code hs i h (Ag2 s p) ty
 rw [hr]
 exact hk x i' h' _ (by omega) (s.put p (cur code i' h') true)
theorem Fp {ty : Nat} {m : Int} (hs : code.size ≤ 1048576) (hm : m ≤ 4294967296) (s : Sep H L) (p : Pk L (Cr c code i h) L1)
  (hk : ∀ (x : Int) (i' : Nat) (h' : Int) (H' : Ab), 0 ≤ x ∧ (0 < m → x < m) ∧ (m ≤ 0 → x = 0) → Sep H' (Cr c code i' h' :: L1) → Gd G (KH (si x) H')) :
  Gd G ((PR (n + 2) β).call ty (.fn 59 [] []) [.ptr c 0, si m] H fun x H => KH x H) := by
 by_cases h0 : m ≤ 0
 rw [K4 rfl rfl, Ys, f59]
 simp only [Ba, A0]
 exact Aaq (Dk (by simp; omega) (hk 0 i h H ⟨by omega, by omega, fun _ => rfl⟩ (s.pick p)))
 by_cases h1 : m ≤ 256
 obtain ⟨x, i', h', hx, hr⟩ := AaG (β := β) (n := n) c code hs i h (Ag2 s p) ty m.toNat (by omega) (by omega)
 rw [show ((m.toNat : Nat) : Int) = m by omega] at hr
 rw [hr]
 exact hk x i' h' _ ⟨by omega, by omega, by omega⟩ (s.put p (cur code i' h') true)
 rw [K4 rfl rfl, Ys, f59]
 simp only [Ba, A0]
 refine Aaq (Ci (by simp; omega) (Aaq (Ci (by simp; omega) (Z4 hs s p fun x i1 k1 H1 hx s1 => Z4 hs s1 .here fun y i2 k2 H2 hy s2 => Z4 hs s2 .here fun z i3 k3 H3 hz s3 => AgI (by omega) (by omega) (AgI (by omega) (by omega) (Hm (by omega) (by omega) (Hm (by omega) (by omega) (Ajx (v := .sc (.int .i64 ((x * 65536 + y * 256 + z).tmod m))) (fun k => ?_) ?_))))))))
 show (X3 .rem .i64 (x * 65536 + y * 256 + z) m).bind (fun v => k (.sc v)) = _
 have e : X3 .rem .i64 (x * 65536 + y * 256 + z) m = some (.int .i64 ((x * 65536 + y * 256 + z).tmod m)) := by
  show (if m = 0 then none else some (Value.int .i64 ((x * 65536 + y * 256 + z).tmod m))) = _
  rw [if_neg (by omega)]
 rw [e]
 rfl
 have hnn : 0 ≤ x * 65536 + y * 256 + z := by omega
 have e := Int.tmod_eq_emod_of_nonneg (b := m) hnn
 have e1 := Int.emod_nonneg (x * 65536 + y * 256 + z) (show m ≠ 0 by omega)
 have e2 := Int.emod_lt_of_pos (x * 65536 + y * 256 + z) (show 0 < m by omega)
 exact hk _ i3 k3 H3 ⟨by rw [e]; exact e1, fun _ => by rw [e]; exact e2, by omega⟩ s3
theorem Bo {ty d m : Nat} {cs : List AV} {a : Bool} (hs : code.size ≤ 1048576) (hm : m ≤ 256) (h1 : 1 ≤ m) (hc : cs.length = m) (s : Sep H L) (p : Pk L (Cr c code i h) L1) (q : Pk L1 (.blk d cs a) L2)
  (hk : ∀ (x : AV) (i' : Nat) (h' : Int) (H' : Ab), x ∈ cs → Sep H' (Cr c code i' h' :: L1) → Gd G (KH x H')) :
  Gd G ((PR (n + 3) β).call ty (.fn 61 [] []) [.ptr c 0, .sl d 0 m 1] H fun x H => KH x H) := by
 rw [K4 rfl rfl, AhH, f61]
 simp only [Bw, Bx, A5]
 refine AdM (Fp hs (by omega) s p fun z i' h' H' hz s' => N6 (by omega) (by omega) ?_)
 have hlt : 0 + z.toNat * 1 < cs.length := by omega
 refine Bg (c := cs[0 + z.toNat * 1]) s' (.there q) (zas hlt) ?_
 exact hk _ i' h' H' (List.getElem_mem hlt) s'
theorem AjJ {ty : Nat} (hs : code.size ≤ 1048576) (hn : 4000 < n) (s : Sep H L) (hk : ∀ (c : Nat) (h : Int) (H' : Ab), Sep H' (Cr c code 0 h :: L) → Gd G (KH (.ptr c 0) H')) :
  Gd G ((PR (n + 1) β).call ty (.fn 40 [] []) [Bt code] H fun x H => KH x H) := by
 obtain ⟨h, hr⟩ := AfX (β := β) (n := n) (H := H) code hs hn ty
 show Gd G ((PR (n + 1) β).call ty (.fn 40 [] []) [.ro code.size (Bk code)] H fun x H => KH x H)
 rw [hr]
 exact hk _ h _ (s.new (J := [H.length]) ⟨rfl, by rw [zaf (zai _), zaL]; rfl⟩ (by simp) (by simp))
theorem Ae {x : AV} {l : List Int} {lo hi : Int} (h : x ∈ l.map fun z => AV.sc (.int .i64 z)) (hl : ∀ z ∈ l, lo ≤ z ∧ z ≤ hi) : ∃ z : Int, x = .sc (.int .i64 z) ∧ lo ≤ z ∧ z ≤ hi := by
 obtain ⟨z, h1, rfl⟩ := zbE.1 h
 exact ⟨z, rfl, hl z h1⟩
theorem Kw {x : AV} {l : List ByteArray} {m : Nat} (h : x ∈ l.map fun z => AV.sc (.string z)) (hl : ∀ z ∈ l, z.size ≤ m) : ∃ z : ByteArray, x = .sc (.string z) ∧ z.size ≤ m := by
 obtain ⟨z, h1, rfl⟩ := zbE.1 h
 exact ⟨z, rfl, hl z h1⟩
theorem Lo {α : Type} {w : α → Nat} : Ft w [] = 0 := rfl
theorem G6 {α : Type} {w : α → Nat} : ∀ (l : List α) (x : α), Ft w (l ++ [x]) = Ft w l + (1 + w x)
 | [], x => by show 1 + w x + 0 = 0 + (1 + w x); omega
 | y :: l, x => by
  show 1 + w y + Ft w (l ++ [x]) = 1 + w y + Ft w l + (1 + w x)
  rw [G6 l x]
  omega
theorem Jl {α : Type} {p : α → Prop} {l : List α} {x : α} (h : ∀ y ∈ l, p y) (hx : p x) : ∀ y ∈ l ++ [x], p y := by
 intro y hy
 rcases zaB.1 hy with hy | hy
 exact h y hy
 rw [zbu.1 hy]
 exact hx
theorem Km {α : Type} (w : α → Nat) : ∀ (l : List α), l.length ≤ Ft w l
 | [] => zai _
 | x :: l => by
  have := Km w l
  show l.length + 1 ≤ 1 + w x + Ft w l
  omega
theorem Ad : (⟨#[]⟩ : ByteArray).size = 0 := rfl
end
end
section
open Go
section
variable {β : Type} {n : Nat} {H : Ab} {L L' L1 L2 : List Ck} {G : Option β → Prop} {K : AV → Option β} {KH : KO β} {c : Nat} {code : ByteArray} {i : Nat} {h : Int}
theorem F4 {ty : Nat} {m : Int} (hs : code.size ≤ 1048576) (hm : m ≤ 4294967296) (s : Sep H L) (p : Pk L (Cr c code i h) L1)
  (hk : ∀ (b : Bool) (i' : Nat) (h' : Int) (H' : Ab), Sep H' (Cr c code i' h' :: L1) → Gd G (KH (sb b) H')) :
  Gd G ((PR (n + 3) β).call ty (.fn 60 [] []) [.ptr c 0, si m] H fun x H => KH x H) := by
 rw [K4 rfl rfl, AhG, f60]
 simp only [Ba]
 exact Fp hs hm s p fun x i' h' H' hx s' => Cd (hk _ i' h' H' s')
theorem AbX {ty d m : Nat} {cs : List AV} {a : Bool} (hs : code.size ≤ 1048576) (hm : m ≤ 256) (h1 : 1 ≤ m) (hc : cs.length = m) (s : Sep H L) (p : Pk L (Cr c code i h) L1) (q : Pk L1 (.blk d cs a) L2)
  (hk : ∀ (x : AV) (i' : Nat) (h' : Int) (H' : Ab), x ∈ cs → Sep H' (Cr c code i' h' :: L1) → Gd G (KH x H')) :
  Gd G ((PR (n + 3) β).call ty (.fn 107 [] []) [.ptr c 0, .sl d 0 m 1] H fun x H => KH x H) := by
 rw [K4 rfl rfl, AeW, f107]
 simp only [Bw, Bx, A5]
 refine AdM (Fp hs (by omega) s p fun z i' h' H' hz s' => N6 (by omega) (by omega) ?_)
 have hlt : 0 + z.toNat * 1 < cs.length := by omega
 refine Bg (c := cs[0 + z.toNat * 1]) s' (.there q) (zas hlt) ?_
 exact hk _ i' h' H' (List.getElem_mem hlt) s'
end
end
end Go.Proofs.YtdofipeaomgbbaaGreatDoor.Abs
set_option maxHeartbeats 1600000
namespace Go.Proofs.YtdofipeaomgbbaaGreatDoor.Abs
open _root_.Option renaming bind_eq_some_iff → zaa, bind_some → zab, getD_some → za5, map_eq_some_iff → zaN, bind_eq_bind → zaS, pure_def → zbe
open _root_.List renaming getElem?_eq_some_iff → zac, replicate → zad, length_append → zae, getElem?_append_right → zaf, getElem?_append_left → zag, nil_append → zah, append_assoc → zaj, length_singleton → zal, append_nil → zam, length_cons → zao, mem_append_right → zaq, getElem?_eq_getElem → zas, length_nil → zat, mem_append_left → zau, mem_cons_of_mem → zaw, cons_append → zax, mem_cons → zay, map_cons → za0, flatten_append → za1, not_mem_nil → za2, take_length → za3, getElem?_set_ne → za4, mem_cons_self → za6, drop_zero → za7, map_append → za8, replicate_append_replicate → zaA, mem_append → zaB, flatten_cons → zaD, all_eq_true → zaF, nodup_cons → zaG, length_drop → zaH, nodup_append → zaI, mem_range'_1 → zaJ, length_take → zaK, nodup_range' → zaP, take_append_drop → zaR, mapM_cons → zaT, range' → zaV, drop_of_length_le → zaW, getElem?_set_self → zaX, all_cons → zaY, drop_drop → zbb, getElem?_map → zbc, length_set → zbf, take_of_length_le → zbh, drop_eq_getElem_cons → zbj, getElem?_drop → zbk, drop_append_of_le_length → zbn, getElem?_cons_zero → zbo, any_cons → zbt, mem_singleton → zbu, map_nil → zbv, length_map → zb0, Perm → zb1, take_append_of_le_length → zb2, nodup_nil → zb3, length_eq_one_iff → zb5, headD_cons → zb9, drop_left' → zbA, getD_eq_getElem?_getD → zbB, tail_cons → zbC, mem_map → zbE, take_zero → zbF, map_map → zbH
open _root_.Nat renaming le_refl → zai, zero_add → zav, sub_self → zaL, add_assoc → zaO, min_eq_left → zaQ, add_mul → zaU, add_zero → zaZ, eq_of_beq_eq_true → zba, mul_le_mul_right → zbd, add_sub_cancel_left → zbq, one_mul → zbw, beq → zb4, add_comm → zbD, succ_mul → zbG
open _root_.Bool renaming and_eq_true → zak, false_eq_true → zan, eq_iff_iff → zaM
open _root_.Array renaming ext' → zbl, replicate → zby
open _root_.Int renaming natCast_zero → zbg, toNat_natCast → zbi
section
open Go
theorem Ru (n : Nat) (hn : 1048576 < n) (code : ByteArray) (hcode : code.size ≤ 1048576) (c i : Nat) (h : Int)   {β : Type} {G : Option β → Prop} {KH : KO β} {H : Ab} {L : List Ck} (s0 : Sep H (Cr c code i h :: L)) (hk : ∀ (r0 : ByteArray) (i' : Nat) (h' : Int) (H' : Ab), (r0.size ≤ 7) → Sep H' (Cr c code i' h' :: L) → Gd G (KH (.sc (.string r0)) H')) : Gd G (Dd E0 (n + 5) β 123 [.ptr c 0] H fun x H => KH x H) := by
 rw [Afi, f123]
 try simp only [Bh, Bj]
 refine Az (cs := [ss (⟨#[97]⟩), ss (⟨#[98]⟩), ss (⟨#[97, 47, 98]⟩), ss (⟨#[97, 47, 99]⟩), ss (⟨#[97, 47, 98, 47, 99]⟩), ss (⟨#[97, 47, 98, 47, 99, 47, 100]⟩), ss (⟨#[36, 115]⟩), ss (⟨#[36, 115, 47, 97]⟩), ss (⟨#[47]⟩), ss (⟨#[97, 47]⟩), ss (⟨#[47, 97]⟩), ss (⟨#[98, 47, 98]⟩), ss (⟨#[195, 169, 47, 97]⟩)]) rfl (Au s0 fun i1 H s2 => AbX hcode (by omega) (by omega) rfl s2 Aw (.here) fun z3a iq4 hq4 H mz3 sq4 => ?_)
 have s5 := (sq4.pick Aw).tail
 obtain ⟨z3, rfl, hz3⟩ := Kw (l := [⟨#[97]⟩, ⟨#[98]⟩, ⟨#[97, 47, 98]⟩, ⟨#[97, 47, 99]⟩, ⟨#[97, 47, 98, 47, 99]⟩, ⟨#[97, 47, 98, 47, 99, 47, 100]⟩, ⟨#[36, 115]⟩, ⟨#[36, 115, 47, 97]⟩, ⟨#[47]⟩, ⟨#[97, 47]⟩, ⟨#[47, 97]⟩, ⟨#[98, 47, 98]⟩, ⟨#[195, 169, 47, 97]⟩]) (m := 7) mz3 (by decide)
 have e6 : z3.size ≤ 7 := by
  first | omega | (simp only [Af, Ad]; omega) | (simp; omega)
 exact hk z3 iq4 hq4 _ e6 (s5.sel (.cons (.here) .rest))
theorem Wn (n : Nat) (hn : 1048576 < n) (code : ByteArray) (hcode : code.size ≤ 1048576) (c i : Nat) (h : Int) (k : Int) (hk0 : k ≤ 1048576) {β : Type} {G : Option β → Prop} {KH : KO β} {H : Ab} {L : List Ck} (s0 : Sep H (Cr c code i h :: L)) (hk : ∀ (r0 : ByteArray) (r0x : AV) (i' : Nat) (h' : Int) (H' : Ab), (Ap r0x = true) → (r0.size ≤ k.toNat) → Sep H' (.own r0x 22 (Bt r0) :: Cr c code i' h' :: L) → Gd G (KH (r0x) H')) : Gd G (Dd E0 (n + 3) β 105 [.ptr c 0, .sc (.int .i64 k)] H fun x H => KH x H) := by
 rw [AeU, f105]
 try simp only [Cj]
 have lp1 : ∀ (j m : Nat) (z : Int) (a2 : ByteArray) (a2x : AV) (i : Nat) (h : Int) (H : Ab), j < m → 0 ≤ z ∧ z + ((j : Nat) : Int) = max (k) 0 → Ap a2x = true → (a2.size = (z : Int).toNat) → Sep H (.own a2x 22 (Bt a2) :: Cr c code i h :: L) → Gd G (La (PR ((n + 2)) β) ((n + 2)) (fun x H => KH x H) m (.ptr c 0) (si k) (a2x) (si z) H) := by
  clear s0
  intro j
  induction j with
  | zero =>
   intro m0 z a2 a2x i h H hm hz la2x hinv s0
   obtain ⟨m, rfl⟩ : ∃ m, m0 = m + 1 := ⟨m0 - 1, by omega⟩
   rw [La]
   try simp only [Bh, Ba, A0, Bj, Cp, Di]
   refine L8 (Ci (decide_eq_false (by omega)) ?_)
   have e2 : a2.size ≤ k.toNat := by
    first | omega | (simp only [Af, Ad]; omega) | (simp; omega)
   exact hk a2 a2x i h _ la2x e2 (s0.sel (.cons (.here) (.cons (.here) .rest)))
  | succ j ih =>
   intro m0 z a2 a2x i h H hm hz la2x hinv s0
   obtain ⟨m, rfl⟩ : ∃ m, m0 = m + 1 := ⟨m0 - 1, by omega⟩
   rw [La]
   try simp only [Bh, Ba, A0, Bj, Cp, Di]
   refine L8 (Dk (decide_eq_true (by omega)) (Z4 hcode s0 Aw fun z3 iq4 hq4 H hz3 sq4 => Ajy (Ae9 (by omega) (by omega)) (Az (cs := [.sc (.int .u8 z3)]) rfl (Au sq4 fun i5 H s6 => Af7 s6 Ca (.here) ⟨_, _, rfl, rfl, rfl, rfl⟩ rfl (by first | omega | (simp only [zb0]; omega)) fun x7 H lx7 s8 => Hm (by omega) (by omega) ?_))))
   have e9 : (Oo a2 z3).size = ((z + 1) : Int).toNat := by
    simp only [Af, Ad]; omega
   exact ih m _ (Oo a2 z3) x7 iq4 hq4 _ (by omega) (by omega) lx7 e9 (s8.sel (.cons (.here) (.cons (.here) .rest)))
 have s10 := s0.nl (ty := 22) ⟨_, _, rfl, rfl⟩
 have e11 : (⟨#[]⟩ : ByteArray).size = (0 : Int).toNat := by
  simp only [Af, Ad]; omega
 exact lp1 (max (k) 0 - 0).toNat _ _ (⟨#[]⟩ : ByteArray) .nl i h _ (by omega) (by omega) rfl e11 (s10.sel (.cons (.here) (.cons (.here) .rest)))
theorem Oc (n : Nat) (hn : 1048576 < n) (code : ByteArray) (hcode : code.size ≤ 1048576) (c i : Nat) (h : Int)   {β : Type} {G : Option β → Prop} {KH : KO β} {H : Ab} {L : List Ck} (s0 : Sep H (Cr c code i h :: L)) (hk : ∀ (r0 : Cz) (r0x1 : AV) (i' : Nat) (h' : Int) (H' : Ab), (Ap r0x1 = true) → (Dj r0 ∧ B4 r0 ≤ 9) → Sep H' (.own r0x1 22 (Bt r0.fBody) :: Cr c code i' h' :: L) → Gd G (KH (.agg [.sc (.string r0.fTopic), r0x1, .sc (.int .i64 r0.fQos), .sc (.bool r0.fRetain)]) H')) : Gd G (Dd E0 (n + 7) β 103 [.ptr c 0] H fun x H => KH x H) := by
 rw [AeS, f103]
 try simp only [Cj, A5, Bf, Bj]
 refine D1 s0 fun i1 H s2 => Gx rfl rfl (Ru _ (by omega) code hcode c i h   (s2.pick Aw) fun r3 iq4 hq4 H hr3 sq4 => Fp (m := 3) hcode (by omega) sq4 (.here) fun z5 iq6 hq6 H hz5 sq6 => ?_)
 replace hz5 : 0 ≤ z5 ∧ z5 < 3 := by omega
 refine Gx rfl rfl (Wn _ (by omega) code hcode c iq6 hq6 z5 (by omega) (sq6.pick (.here)) fun r7 r7x iq8 hq8 H lr7x hr7 sq8 => Fp (m := 3) hcode (by omega) sq8 Aw fun z9 iq10 hq10 H hz9 sq10 => ?_)
 replace hz9 : 0 ≤ z9 ∧ z9 < 3 := by omega
 refine F4 hcode (by omega) sq10 (.here) fun b11 iq12 hq12 H sq12 => Az (cs := [ss r3, r7x, si z9, sb b11]) (Gl (z' := [ss r3, .nl, i0, bF]) (D0 rfl) rfl (Bb rfl) rfl (Gl (z' := [ss r3, r7x, i0, bF]) (D0 lr7x) rfl (Bb rfl) rfl (Gl (z' := [ss r3, r7x, si z9, bF]) (D0 rfl) rfl (Bb rfl) rfl (Gl (z' := [ss r3, r7x, si z9, sb b11]) (D0 rfl) rfl (Bb rfl) rfl (rfl))))) (Bi (cs' := [ss r3, r7x, si z9, sb b11]) sq12 Ca (Ac (Aa rfl (Aa lr7x rfl))) rfl (Bb rfl) rfl fun H s13 => Ag s13 (.here) rfl ?_)
 have e14 : Dj (⟨r3, r7, z9, b11⟩ : Cz) ∧ B4 (⟨r3, r7, z9, b11⟩ : Cz) ≤ 9 := by
  simp only [Dj, B4, Iq, Ct, and_true, true_and, Ad]; first | omega | ((repeat' apply And.intro) <;> first | trivial | omega | assumption | (intro y hy; cases hy; done))
 exact hk (⟨r3, r7, z9, b11⟩ : Cz) r7x iq12 hq12 _ lr7x e14 (s13.sel (.cons Ca (.cons Aw (.skip .rest))))
theorem Tv (n : Nat) (hn : 1048576 < n) (code : ByteArray) (hcode : code.size ≤ 1048576) (c i : Nat) (h : Int) (most : Int) (hm0 : 0 ≤ most ∧ most ≤ 8) {β : Type} {G : Option β → Prop} {KH : KO β} {H : Ab} {L : List Ck} (s0 : Sep H (Cr c code i h :: L)) (hk : ∀ (r0 : List Cz) (r0x : AV) (i' : Nat) (h' : Int) (H' : Ab), (Ap r0x = true) → ((∀ y ∈ r0, Dj y) ∧ Ft B4 r0 ≤ 80) → Sep H' (.own r0x 25 (Am Ao r0) :: Cr c code i' h' :: L) → Gd G (KH (r0x) H')) : Gd G (Dd E0 (n + 9) β 112 [.ptr c 0, .sc (.int .i64 most)] H fun x H => KH x H) := by
 rw [Afb, f112]
 try simp only [Ba]
 refine Hm (by omega) (by omega) (Fp (m := (most + 1)) hcode (by omega) s0 (.here) fun z1 iq2 hq2 H hz1 sq2 => ?_)
 have lp3 : ∀ (j m : Nat) (z : Int) (a1 : List Cz) (a1x : AV) (i : Nat) (h : Int) (H : Ab), j < m → z = ((j : Nat) : Int) → Ap a1x = true → ((∀ y ∈ a1, Dj y) ∧ Ft B4 a1 + 10 * j ≤ 80) → Sep H (.own a1x 25 (Am Ao a1) :: Cr c code i h :: L) → Gd G (Lb (PR ((n + 8)) β) ((n + 8)) (fun x H => KH x H) m (.ptr c 0) (a1x) (si z) H) := by
  clear s0 sq2
  intro j
  induction j with
  | zero =>
   intro m0 z a1 a1x i h H hm hz la1x hinv s0
   obtain ⟨m, rfl⟩ : ∃ m, m0 = m + 1 := ⟨m0 - 1, by omega⟩
   obtain ⟨hv1, hv2⟩ := hinv
   have hinv := And.intro hv1 hv2
   have ga1 := Km B4 a1
   rw [Lb]
   try simp only [Bh, Ba, A0, Bj, Cp]
   refine L7 (Ci (decide_eq_false (by omega)) ?_)
   have e4 : (∀ y ∈ a1, Dj y) ∧ Ft B4 a1 ≤ 80 := by
    first | exact ⟨by assumption, by omega⟩ | exact ⟨by simp, by simp [Lo]⟩ | exact ⟨Jl (by assumption) (by assumption), by rw [G6]; omega⟩
   exact hk a1 a1x i h _ la1x e4 (s0.sel (.cons (.here) (.cons (.here) .rest)))
  | succ j ih =>
   intro m0 z a1 a1x i h H hm hz la1x hinv s0
   obtain ⟨m, rfl⟩ : ∃ m, m0 = m + 1 := ⟨m0 - 1, by omega⟩
   obtain ⟨hv1, hv2⟩ := hinv
   have hinv := And.intro hv1 hv2
   have ga1 := Km B4 a1
   rw [Lb]
   try simp only [Bh, Ba, A0, Bj, Cp]
   refine L7 (Dk (decide_eq_true (by omega)) (Gx rfl rfl (Oc _ (by omega) code hcode c i h   (s0.pick Aw) fun r5 r5x1 iq6 hq6 H lr5x1 hr5 sq6 => ?_)))
   obtain ⟨or5, wr5⟩ := hr5
   have ur5 := or5
   have vr5 := wr5
   simp only [Dj, B4, Iq, Ct, and_true, true_and] at ur5 vr5
   refine Az (cs := [.sc (.string r5.fTopic), r5x1, .sc (.int .i64 r5.fQos), .sc (.bool r5.fRetain)]) (Gl (z' := [.sc (.string r5.fTopic), r5x1, .sc (.int .i64 r5.fQos), .sc (.bool r5.fRetain)]) (Ac (Aa rfl (Aa lr5x1 rfl))) rfl (Bb rfl) rfl (rfl)) (Au sq6 fun i7 H s8 => Yy (cty := [9, 22, 3, 4]) (e := (r5 : Cz)) s8 ⟨_, _, rfl, rfl, rfl, rfl⟩ Bn (.here) rfl (Aa rfl (Aa lr5x1 rfl)) (.sc (.own (.here) (.sc (.sc .nil)))) ⟨trivial, ⟨(Aej r5.fBody), (S6 trivial)⟩⟩ rfl (by first | omega | (simp only [zae, zal]; omega)) fun x9 H lx9 s10 => Tq (by omega) (by omega) ?_)
   have e11 : (∀ y ∈ (a1 ++ [r5]), Dj y) ∧ Ft B4 (a1 ++ [r5]) + 10 * j ≤ 80 := by
    first | omega | exact ⟨fun y hy => (by cases hy), by simp only [Lo]; omega⟩ | exact ⟨Jl hinv.1 (by assumption), by have h0 := hinv.2; rw [G6]; omega⟩ | (simp only [Af, Ad] at *; omega) | (simp only [Iq, Ct, Lo, G6, zat, zae, zal, za2, false_implies, implies_true, and_true, true_and] at *; first | omega | (refine ⟨?_, ?_⟩ <;> first | omega | assumption))
   exact ih m _ (a1 ++ [r5]) x9 iq6 hq6 _ (by omega) (by omega) lx9 e11 (s10.sel (.cons (.here) (.cons (.here) .rest)))
 have s12 := sq2.nl (ty := 25) ⟨_, _, rfl, rfl⟩
 have e13 : (∀ y ∈ ([] : List Cz), Dj y) ∧ Ft B4 ([] : List Cz) + 10 * (z1).toNat ≤ 80 := by
  first | omega | exact ⟨fun y hy => (by cases hy), by simp only [Lo]; omega⟩ | exact ⟨Jl hinv.1 (by assumption), by have h0 := hinv.2; rw [G6]; omega⟩ | (simp only [Af, Ad] at *; omega) | (simp only [Iq, Ct, Lo, G6, zat, zae, zal, za2, false_implies, implies_true, and_true, true_and] at *; first | omega | (refine ⟨?_, ?_⟩ <;> first | omega | assumption))
 exact lp3 (z1).toNat _ _ ([] : List Cz) .nl iq2 hq2 _ (by omega) (by omega) rfl e13 (s12.sel (.cons (.here) (.cons (.here) .rest)))
theorem AbL (n : Nat) (hn : 1048576 < n) (code : ByteArray) (hcode : code.size ≤ 1048576) (c i : Nat) (h : Int)   {β : Type} {G : Option β → Prop} {KH : KO β} {H : Ab} {L : List Ck} (s0 : Sep H (Cr c code i h :: L)) (hk : ∀ (r0 : ByteArray) (i' : Nat) (h' : Int) (H' : Ab), (r0.size ≤ 7) → Sep H' (Cr c code i' h' :: L) → Gd G (KH (.sc (.string r0)) H')) : Gd G (Dd E0 (n + 6) β 124 [.ptr c 0] H fun x H => KH x H) := by
 rw [Afj, f124]
 try simp only [Bh, A0, Bj]
 refine F4 hcode (by omega) s0 (.here) fun b1 iq2 hq2 H sq2 => Ah (b1) (fun h3 => ?_) fun h3 => ?_
 refine Dk h3 (Gx rfl rfl (Ru _ (by omega) code hcode c iq2 hq2   (sq2.pick (.here)) fun r4 iq5 hq5 H hr4 sq5 => ?_))
 have e6 : r4.size ≤ 7 := by
  first | omega | (simp only [Af, Ad]; omega) | (simp; omega)
 exact hk r4 iq5 hq5 _ e6 (sq5.sel (.cons (.here) .rest))
 refine Ci h3 (Az (cs := [ss (⟨#[35]⟩), ss (⟨#[43]⟩), ss (⟨#[97, 47, 35]⟩), ss (⟨#[97, 47, 43]⟩), ss (⟨#[43, 47, 98]⟩), ss (⟨#[43, 47, 43]⟩), ss (⟨#[97, 47, 43, 47, 99]⟩), ss (⟨#[97, 47, 98, 47, 35]⟩), ss (⟨#[36, 115, 47, 35]⟩), ss (⟨#[36, 115, 47, 43]⟩), ss (⟨#[43, 47, 35]⟩), ss (⟨#[47, 43]⟩), ss (⟨#[47, 35]⟩), ss (⟨#[97, 47, 43, 47, 35]⟩), ss (⟨#[98, 47, 35]⟩), ss (⟨#[43, 47, 98, 47, 43]⟩)]) rfl (Au sq2 fun i7 H s8 => AbX hcode (by omega) (by omega) rfl s8 Aw (.here) fun z9a iq10 hq10 H mz9 sq10 => ?_))
 have s11 := (sq10.pick Aw).tail
 obtain ⟨z9, rfl, hz9⟩ := Kw (l := [⟨#[35]⟩, ⟨#[43]⟩, ⟨#[97, 47, 35]⟩, ⟨#[97, 47, 43]⟩, ⟨#[43, 47, 98]⟩, ⟨#[43, 47, 43]⟩, ⟨#[97, 47, 43, 47, 99]⟩, ⟨#[97, 47, 98, 47, 35]⟩, ⟨#[36, 115, 47, 35]⟩, ⟨#[36, 115, 47, 43]⟩, ⟨#[43, 47, 35]⟩, ⟨#[47, 43]⟩, ⟨#[47, 35]⟩, ⟨#[97, 47, 43, 47, 35]⟩, ⟨#[98, 47, 35]⟩, ⟨#[43, 47, 98, 47, 43]⟩]) (m := 5) mz9 (by decide)
 have e12 : z9.size ≤ 7 := by
  first | omega | (simp only [Af, Ad]; omega) | (simp; omega)
 exact hk z9 iq10 hq10 _ e12 (s11.sel (.cons (.here) .rest))
theorem Aiq (n : Nat) (hn : 1048576 < n) (code : ByteArray) (hcode : code.size ≤ 1048576) (c i : Nat) (h : Int)   {β : Type} {G : Option β → Prop} {KH : KO β} {H : Ab} {L : List Ck} (s0 : Sep H (Cr c code i h :: L)) (hk : ∀ (r0 : ByteArray) (i' : Nat) (h' : Int) (H' : Ab), (r0.size ≤ 61) → Sep H' (Cr c code i' h' :: L) → Gd G (KH (.sc (.string r0)) H')) : Gd G (Dd E0 (n + 7) β 104 [.ptr c 0] H fun x H => KH x H) := by
 rw [AeT, f104]
 try simp only [Bh, Ba, A0, Bj]
 refine Fp (m := 3) hcode (by omega) s0 (.here) fun z1 iq2 hq2 H hz1 sq2 => ?_
 replace hz1 : 0 ≤ z1 ∧ z1 < 3 := by omega
 refine Cd (Ah ((decide (z1 = 0))) (fun h3 => ?_) fun h3 => ?_)
 refine Dk h3 (Gx rfl rfl (Ru _ (by omega) code hcode c iq2 hq2   (sq2.pick (.here)) fun r4 iq5 hq5 H hr4 sq5 => ?_))
 have e6 : r4.size ≤ 61 := by
  first | omega | (simp only [Af, Ad]; omega) | (simp; omega)
 exact hk r4 iq5 hq5 _ e6 (sq5.sel (.cons (.here) .rest))
 refine Ci h3 (Cd (Ah ((decide (z1 = 1))) (fun h7 => ?_) fun h7 => ?_))
 refine Dk h7 (Gx rfl rfl (AbL _ (by omega) code hcode c iq2 hq2   (sq2.pick (.here)) fun r8 iq9 hq9 H hr8 sq9 => ?_))
 have e10 : r8.size ≤ 61 := by
  first | omega | (simp only [Af, Ad]; omega) | (simp; omega)
 exact hk r8 iq9 hq9 _ e10 (sq9.sel (.cons (.here) .rest))
 refine Ci h7 (Az (cs := [sE, ss (⟨#[97, 43]⟩), ss (⟨#[97, 47, 98, 43]⟩), ss (⟨#[43, 97]⟩), ss (⟨#[35, 47, 97]⟩), ss (⟨#[97, 35]⟩), ss (⟨#[97, 47, 35, 47, 98]⟩), ss (⟨#[35, 35]⟩), ss (⟨#[43, 43]⟩), ss (⟨#[97, 47, 98, 47, 99, 47, 100, 47, 101, 47, 102]⟩), ss (⟨#[97, 47, 98, 47, 99, 47, 100, 47, 101, 47, 102, 47, 103]⟩), ss (⟨#[47, 47, 47, 47, 47]⟩), ss (⟨#[47, 47, 47, 47, 47, 47]⟩), ss (⟨#[0]⟩), ss (⟨#[255]⟩), ss (⟨#[49, 50, 51, 52, 53, 54, 55, 56, 57, 48, 49, 50, 51, 52, 53, 54, 55, 56, 57, 48, 49, 50, 51, 52, 53, 54, 55, 56, 57, 48, 49, 50, 51, 52, 53, 54, 55, 56, 57, 48, 49, 50, 51, 52, 53, 54, 55, 56, 57, 48, 49, 50, 51, 52, 53, 54, 55, 56, 57, 48, 49]⟩)]) rfl (Au sq2 fun i11 H s12 => AbX hcode (by omega) (by omega) rfl s12 Aw (.here) fun z13a iq14 hq14 H mz13 sq14 => ?_))
 have s15 := (sq14.pick Aw).tail
 obtain ⟨z13, rfl, hz13⟩ := Kw (l := [⟨#[]⟩, ⟨#[97, 43]⟩, ⟨#[97, 47, 98, 43]⟩, ⟨#[43, 97]⟩, ⟨#[35, 47, 97]⟩, ⟨#[97, 35]⟩, ⟨#[97, 47, 35, 47, 98]⟩, ⟨#[35, 35]⟩, ⟨#[43, 43]⟩, ⟨#[97, 47, 98, 47, 99, 47, 100, 47, 101, 47, 102]⟩, ⟨#[97, 47, 98, 47, 99, 47, 100, 47, 101, 47, 102, 47, 103]⟩, ⟨#[47, 47, 47, 47, 47]⟩, ⟨#[47, 47, 47, 47, 47, 47]⟩, ⟨#[0]⟩, ⟨#[255]⟩, ⟨#[49, 50, 51, 52, 53, 54, 55, 56, 57, 48, 49, 50, 51, 52, 53, 54, 55, 56, 57, 48, 49, 50, 51, 52, 53, 54, 55, 56, 57, 48, 49, 50, 51, 52, 53, 54, 55, 56, 57, 48, 49, 50, 51, 52, 53, 54, 55, 56, 57, 48, 49, 50, 51, 52, 53, 54, 55, 56, 57, 48, 49]⟩]) (m := 61) mz13 (by decide)
 have e16 : z13.size ≤ 61 := by
  first | omega | (simp only [Af, Ad]; omega) | (simp; omega)
 exact hk z13 iq14 hq14 _ e16 (s15.sel (.cons (.here) .rest))
theorem Va (n : Nat) (hn : 1048576 < n) (code : ByteArray) (hcode : code.size ≤ 1048576) (c i : Nat) (h : Int)   {β : Type} {G : Option β → Prop} {KH : KO β} {H : Ab} {L : List Ck} (s0 : Sep H (Cr c code i h :: L)) (hk : ∀ (r0 : Cz) (r0x1 : AV) (i' : Nat) (h' : Int) (H' : Ab), (Ap r0x1 = true) → (Dj r0 ∧ B4 r0 ≤ 102) → Sep H' (.own r0x1 22 (Bt r0.fBody) :: Cr c code i' h' :: L) → Gd G (KH (.agg [.sc (.string r0.fTopic), r0x1, .sc (.int .i64 r0.fQos), .sc (.bool r0.fRetain)]) H')) : Gd G (Dd E0 (n + 9) β 66 [.ptr c 0] H fun x H => KH x H) := by
 rw [AhL, f66]
 try simp only [Cj, Bh, Br, A5, Bf, Ba, A0, Bj]
 refine D1 s0 fun i1 H s2 => Gx rfl rfl (Oc _ (by omega) code hcode c i h   (s2.pick Aw) fun r3 r3x1 iq4 hq4 H lr3x1 hr3 sq4 => ?_)
 obtain ⟨or3, wr3⟩ := hr3
 have ur3 := or3
 have vr3 := wr3
 simp only [Dj, B4, Iq, Ct, and_true, true_and] at ur3 vr3
 refine D1 sq4 fun i5 H s6 => Bi (cs' := [ss r3.fTopic, r3x1, si r3.fQos, sb r3.fRetain]) s6 (.here) (Ac (Aa rfl (Aa lr3x1 rfl))) rfl (Bb rfl) rfl fun H s7 => Fp (m := 12) hcode (by omega) s7 Ca fun z8 iq9 hq9 H hz8 sq9 => ?_
 replace hz8 : 0 ≤ z8 ∧ z8 < 12 := by omega
 refine Cd (Ah ((decide (z8 = 0))) (fun h10 => ?_) fun h10 => ?_)
 refine Dk h10 (Gx rfl rfl (Aiq _ (by omega) code hcode c iq9 hq9   (sq9.pick (.here)) fun r11 iq12 hq12 H hr11 sq12 => An (o' := 0) rfl (Cv sq12 Aw rfl rfl fun H s13 => Ag s13 (.here) rfl (Bi (cs' := [ss r11, r3x1, si r3.fQos, sb r3.fRetain]) s13 Bn (Ac (Aa rfl (Aa lr3x1 rfl))) rfl (Bb rfl) rfl fun H s14 => Ag s14 (.here) rfl ?_))))
 have e15 : Dj (⟨r11, r3.fBody, r3.fQos, r3.fRetain⟩ : Cz) ∧ B4 (⟨r11, r3.fBody, r3.fQos, r3.fRetain⟩ : Cz) ≤ 102 := by
  simp only [Dj, B4, Iq, Ct, and_true, true_and, Ad]; first | omega | ((repeat' apply And.intro) <;> first | trivial | omega | assumption | (intro y hy; cases hy; done))
 exact hk (⟨r11, r3.fBody, r3.fQos, r3.fRetain⟩ : Cz) r3x1 iq12 hq12 _ lr3x1 e15 (s14.sel (.cons Bn (.cons Ca Qw)))
 refine Ci h10 (Cd (Ah ((decide (z8 = 1))) (fun h16 => ?_) fun h16 => ?_))
 refine Dk h16 (Az (cs := [si 40, si 41]) rfl (Au sq9 fun i17 H s18 => Bo hcode (by omega) (by omega) rfl s18 Aw (.here) fun z19a iq20 hq20 H mz19 sq20 => ?_))
 have s21 := (sq20.pick Aw).tail
 obtain ⟨z19, rfl, hz19⟩ := Ae (l := [40, 41]) (lo := 40) (hi := 41) mz19 (by decide)
 refine Gx rfl rfl (Wn _ (by omega) code hcode c iq20 hq20 z19 (by omega) (s21.pick (.here)) fun r22 r22x iq23 hq23 H lr22x hr22 sq23 => An (o' := 1) rfl (Cv sq23 Ca lr22x rfl fun H s24 => Ag s24 (.here) rfl (Bi (cs' := [ss r3.fTopic, r22x, si r3.fQos, sb r3.fRetain]) s24 F2 (Ac (Aa rfl (Aa lr22x rfl))) rfl (Bb rfl) rfl fun H s25 => Ag s25 (.here) rfl ?_)))
 have e26 : Dj (⟨r3.fTopic, r22, r3.fQos, r3.fRetain⟩ : Cz) ∧ B4 (⟨r3.fTopic, r22, r3.fQos, r3.fRetain⟩ : Cz) ≤ 102 := by
  simp only [Dj, B4, Iq, Ct, and_true, true_and, Ad]; first | omega | ((repeat' apply And.intro) <;> first | trivial | omega | assumption | (intro y hy; cases hy; done))
 exact hk (⟨r3.fTopic, r22, r3.fQos, r3.fRetain⟩ : Cz) r22x iq23 hq23 _ lr22x e26 (s25.sel (.cons Ca (.cons Ca It)))
 refine Ci h16 (Cd (Ah ((decide (z8 = 2))) (fun h27 => ?_) fun h27 => ?_))
 refine Dk h27 (Az (cs := [si (-1), si 3]) rfl (Au sq9 fun i28 H s29 => Bo hcode (by omega) (by omega) rfl s29 Aw (.here) fun z30a iq31 hq31 H mz30 sq31 => ?_))
 have s32 := (sq31.pick Aw).tail
 obtain ⟨z30, rfl, hz30⟩ := Ae (l := [(-1), 3]) (lo := -1) (hi := 3) mz30 (by decide)
 refine An (o' := 2) rfl (Cv s32 Aw rfl rfl fun H s33 => Ag s33 (.here) rfl (Bi (cs' := [ss r3.fTopic, r3x1, si z30, sb r3.fRetain]) s33 Bn (Ac (Aa rfl (Aa lr3x1 rfl))) rfl (Bb rfl) rfl fun H s34 => Ag s34 (.here) rfl ?_))
 have e35 : Dj (⟨r3.fTopic, r3.fBody, z30, r3.fRetain⟩ : Cz) ∧ B4 (⟨r3.fTopic, r3.fBody, z30, r3.fRetain⟩ : Cz) ≤ 102 := by
  simp only [Dj, B4, Iq, Ct, and_true, true_and, Ad]; first | omega | ((repeat' apply And.intro) <;> first | trivial | omega | assumption | (intro y hy; cases hy; done))
 exact hk (⟨r3.fTopic, r3.fBody, z30, r3.fRetain⟩ : Cz) r3x1 iq31 hq31 _ lr3x1 e35 (s34.sel (.cons Bn (.cons Ca Qw)))
 refine Ci h27 (Ag sq9 Aw rfl (Bi (cs' := [ss r3.fTopic, r3x1, si r3.fQos, sb r3.fRetain]) sq9 Bn (Ac (Aa rfl (Aa lr3x1 rfl))) rfl (Bb rfl) rfl fun H s36 => Ag s36 (.here) rfl ?_))
 have e37 : Dj (r3 : Cz) ∧ B4 (r3 : Cz) ≤ 102 := by
  simp only [Dj, B4, Iq, Ct, and_true, true_and, Ad]; first | omega | ((repeat' apply And.intro) <;> first | trivial | omega | assumption | (intro y hy; cases hy; done))
 exact hk (r3 : Cz) r3x1 iq9 hq9 _ lr3x1 e37 (s36.sel (.cons Bn (.cons Aw Qw)))
theorem AbK (n : Nat) (hn : 1048576 < n) (code : ByteArray) (hcode : code.size ≤ 1048576) (c i : Nat) (h : Int)   {β : Type} {G : Option β → Prop} {KH : KO β} {H : Ab} {L : List Ck} (s0 : Sep H (Cr c code i h :: L)) (hk : ∀ (r0 : List Cz) (r0x : AV) (i' : Nat) (h' : Int) (H' : Ab), (Ap r0x = true) → ((∀ y ∈ r0, Dj y) ∧ Ft B4 r0 ≤ 183) → Sep H' (.own r0x 25 (Am Ao r0) :: Cr c code i' h' :: L) → Gd G (KH (r0x) H')) : Gd G (Dd E0 (n + 10) β 87 [.ptr c 0] H fun x H => KH x H) := by
 rw [AhY, f87]
 try simp only [Bh, A0, Bj, Cp]
 refine Gx rfl rfl (Tv _ (by omega) code hcode c i h 8 (by omega) (s0.pick (.here)) fun r1 r1x iq2 hq2 H lr1x hr1 sq2 => ?_)
 obtain ⟨or1, wr1⟩ := hr1
 have gr1 := Km B4 r1
 refine F4 hcode (by omega) sq2 Aw fun b3 iq4 hq4 H sq4 => Ia (Ah (b3) (fun h5 => ?_) fun h5 => ?_)
 refine Dk h5 (Gx rfl rfl (Va _ (by omega) code hcode c iq4 hq4   (sq4.pick (.here)) fun r6 r6x1 iq7 hq7 H lr6x1 hr6 sq7 => ?_))
 obtain ⟨or6, wr6⟩ := hr6
 have ur6 := or6
 have vr6 := wr6
 simp only [Dj, B4, Iq, Ct, and_true, true_and] at ur6 vr6
 refine Az (cs := [.sc (.string r6.fTopic), r6x1, .sc (.int .i64 r6.fQos), .sc (.bool r6.fRetain)]) (Gl (z' := [.sc (.string r6.fTopic), r6x1, .sc (.int .i64 r6.fQos), .sc (.bool r6.fRetain)]) (Ac (Aa rfl (Aa lr6x1 rfl))) rfl (Bb rfl) rfl (rfl)) (Au sq7 fun i8 H s9 => Yy (cty := [9, 22, 3, 4]) (e := (r6 : Cz)) s9 ⟨_, _, rfl, rfl, rfl, rfl⟩ Bn (.here) rfl (Aa rfl (Aa lr6x1 rfl)) (.sc (.own (.here) (.sc (.sc .nil)))) ⟨trivial, ⟨(Aej r6.fBody), (S6 trivial)⟩⟩ rfl (by first | omega | (simp only [zae, zal]; omega)) fun x10 H lx10 s11 => ?_)
 have e12 : (∀ y ∈ (r1 ++ [r6]), Dj y) ∧ Ft B4 (r1 ++ [r6]) ≤ 183 := by
  first | exact ⟨by assumption, by omega⟩ | exact ⟨by simp, by simp [Lo]⟩ | exact ⟨Jl (by assumption) (by assumption), by rw [G6]; omega⟩
 exact hk (r1 ++ [r6]) x10 iq7 hq7 _ lx10 e12 (s11.sel (.cons (.here) (.cons (.here) .rest)))
 refine Ci h5 ?_
 have e13 : (∀ y ∈ r1, Dj y) ∧ Ft B4 r1 ≤ 183 := by
  first | exact ⟨by assumption, by omega⟩ | exact ⟨by simp, by simp [Lo]⟩ | exact ⟨Jl (by assumption) (by assumption), by rw [G6]; omega⟩
 exact hk r1 r1x iq4 hq4 _ lr1x e13 (sq4.sel (.cons Aw (.cons (.here) .rest)))
end
section
open Go
def Ga (x lo hi : Int) : Bool := decide (lo ≤ x) && decide (x ≤ hi)
theorem Ma (n : Nat) (ty : Nat) (x : Int) (lo : Int) (hi : Int) : C1 E0 (n + 1) ty 50 [.sc (.int .i64 x), .sc (.int .i64 lo), .sc (.int .i64 hi)] = some (.sc (.bool (Ga x lo hi))) := by
 rw [A6, AhA, f50]
 try simp only [C4, Cj, Br, A5, Bf, Ba, Db, Da, Ea, A0, Bs, Pr.gT, Pr.gF, Pr.hT, Pr.hF, Pr.kT, Pr.kF, B7, Bw, C2, Bx, Du, Cw, Cc, Bh, Bj, Dn, Cp, Di, Dh]
 refine A2 (v := sb (decide (x ≥ lo))) (fun k => rfl) ?_
 apply A8 ((decide (x ≥ lo)) && (decide (x ≤ hi)))
 intro b1 q1
 refine Ah ((decide (x ≥ lo))) (fun h1 => ?_) fun h1 => ?_
 exact As h1 (As h1 (As h1 (A2 (v := sb (decide (x ≤ hi))) (fun k => rfl) (Ch h1 (Hs q1 h1) rfl))))
 exact Av h1 (Av h1 (Av h1 (Cg h1 (Hr q1 h1) rfl)))
 intro b1 q1
 exact Dv (by first | (simp_all [Ga]; done) | (rw [zaM]; simp [Ga] at *; omega))
theorem O4 (n : Nat) (ty : Nat) (x : Int) (lo : Int) (hi : Int) : C1 E0 (n + 1) ty 47 [.sc (.int .i64 x), .sc (.int .i64 lo), .sc (.int .i64 hi)] = some (.sc (.bool (Ga x lo hi))) := by
 rw [A6, Ah7, f47]
 try simp only [C4, Cj, Br, A5, Bf, Ba, Db, Da, Ea, A0, Bs, Pr.gT, Pr.gF, Pr.hT, Pr.hF, Pr.kT, Pr.kF, B7, Bw, C2, Bx, Du, Cw, Cc, Bh, Bj, Dn, Cp, Di, Dh]
 refine A2 (v := sb (decide (x ≥ lo))) (fun k => rfl) ?_
 apply A8 ((decide (x ≥ lo)) && (decide (x ≤ hi)))
 intro b1 q1
 refine Ah ((decide (x ≥ lo))) (fun h1 => ?_) fun h1 => ?_
 exact As h1 (As h1 (As h1 (A2 (v := sb (decide (x ≤ hi))) (fun k => rfl) (Ch h1 (Hs q1 h1) rfl))))
 exact Av h1 (Av h1 (Av h1 (Cg h1 (Hr q1 h1) rfl)))
 intro b1 q1
 exact Dv (by first | (simp_all [Ga]; done) | (rw [zaM]; simp [Ga] at *; omega))
theorem Vb (n : Nat) (ty : Nat) (s t : ByteArray) : C1 E0 (n + 1) ty 138 [Bt s, Bt t] = some (.sc (.bool (s.toList == t.toList))) := by
 rw [A6, Afq, f138]
 have e : ∀ u : ByteArray, C3 [] 1 (.ro u.size (Bk u)) = some (Bk u) := by
  intro u
  simp [C3, E4]
 have eb : ∀ u : ByteArray, (Bk u).mapM Nc = some u.data.toList := fun u => Ns _
 simp only [Dh, Ba, Ua, e, eb, zab, E8, Ack]
 simp
end
section
open Go
theorem Ai8 : ∀ X : Fin 256, bits .and .i64 ((X.val : Nat) : Int) 31 = ((X.val % 32 : Nat) : Int) := by decide +kernel
theorem Ai7 : ∀ X : Fin 256, bits .and .i64 ((X.val : Nat) : Int) 15 = ((X.val % 16 : Nat) : Int) := by decide +kernel
theorem Ai9 : ∀ X : Fin 256, bits .and .i64 ((X.val : Nat) : Int) 7 = ((X.val % 8 : Nat) : Int) := by decide +kernel
def Pu (d : Nat × Nat) (i : Nat) : AV := if d.1 = 65533 ∧ d.2 = 1 then .tup [.sc (.int .i64 0), .sc (.int .i64 0), .sc (.bool false)] else .tup [.sc (.int .i64 d.1), .sc (.int .i64 ((i + d.2 : Nat) : Int)), .sc (.bool true)]
def Yw : AV := .tup [.sc (.int .i64 0), .sc (.int .i64 0), .sc (.bool false)]
theorem Ag1 (s : ByteArray) (i : Nat) (h : i < s.size) (H : Ab) (k : AV → Option AV) : (Es 1 (Bt s) (.sc (.int .i64 i)) fun t => C6 false 1 t H k) = k (.sc (.int .u8 (s.data.toList.getD i 0).toNat)) := by
 rw [Qs 1 _ _ i _ h (by rw [E4]; omega)]
 have hl : i < s.data.toList.length := by simpa using h
 have hd : (Bk s).drop (i * 1) = .sc (.int .u8 (s.data.toList.getD i 0).toNat) :: (Bk s).drop (i + 1) := by
  rw [Nat.mul_one, zbj (by rw [E4]; omega)]
  congr 1
  simp [Bk, zbB, h]
 rw [hd, Nm]
section loop
variable (n : Nat) (k : AV → Ab → Option AV) (H : Ab) (s : ByteArray)
theorem Jj (m at' N v i : Nat) (least : Int) (hi : i ≤ N) (hb : at' + i < s.size) (hN : N ≤ 3) (hv : v < 100000000) (hs : s.size ≤ 1048576) :
  Hv (PR n AV) n k (m + 1) (Bt s) (si at') (si N) (si least) (si v) (si i) H =
   if (s.data.toList.getD (at' + i) 0).toNat / 64 = 2 then Hv (PR n AV) n k m (Bt s) (si at') (si N) (si least) (si ((v * 64 + (s.data.toList.getD (at' + i) 0).toNat % 64 : Nat) : Int)) (si ((i + 1 : Nat) : Int)) H else k Yw H := by
 obtain ⟨y, hy⟩ : ∃ y, (s.data.toList.getD (at' + i) 0).toNat = y := ⟨_, rfl⟩
 have hylt : y < 256 := by rw [← hy]; exact (s.data.toList.getD (at' + i) 0).toNat_lt
 have hba := Ag1 s (at' + i) hb H
 rw [hy] at hba ⊢
 rw [Hv]
 simp only [Ba, A0, Bx, A5, Di, Bs, Pr.gT, Pr.gF, Pr.hT, Pr.hF, Pr.kT, Pr.kF, B7]
 rw [Wo, Ef, if_pos (by simp; omega), Qz, ← Int.natCast_add, Fd _ (by omega) (by omega), hba]
 simp only [W7, Xz, zab]
 rw [Fd _ (by omega) (by omega), Aau]
 by_cases h1 : y < 128
 refine C8 (by simp; omega) (C8 (by simp; omega) (S2 (by simp; omega) ?_))
 rw [if_neg (by omega)]
 rfl
 refine Cy (by simp; omega) (Cy (by simp; omega) ?_)
 rw [AjA]
 refine Tc (by simp; omega) ?_
 by_cases h2 : y ≤ 191
 rw [Ef, if_neg (by simp; omega), if_pos (by omega), AjI, show (v : Int) * 64 = ((v * 64 : Nat) : Int) by omega, Fd _ (by omega) (by omega), Qz, ← Int.natCast_add, Fd _ (by omega) (by omega), Sw _ _ _ (by omega) (by omega), Ff _ _ (by omega)]
 congr 3
 omega
 rw [Ef, if_pos (by simp; omega), if_neg (by omega)]
 rfl
theorem Si (n' : Nat) (hnn : n = n' + 1) (m at' N v least : Nat) (hN : N ≤ 3) (hv : v < 100000000) (ha : at' ≤ 1048576) :
  Hv (PR n AV) n k (m + 1) (Bt s) (si at') (si N) (si least) (si v) (si ((N + 1 : Nat) : Int)) H =
   if v ≥ least ∧ (v < 55296 ∨ (57344 ≤ v ∧ v ≤ 1114111)) then k (.tup [si v, si ((at' + (N + 1) : Nat) : Int), bT]) H else k Yw H := by
 subst hnn
 rw [Hv]
 simp only [Ba, A0, Bx, A5, Di, Bs, Pr.gT, Pr.gF, Pr.hT, Pr.hF, Pr.kT, Pr.kF, B7]
 rw [Wo, Ef, if_neg (by simp; omega), Aau]
 by_cases h1 : v < least
 have e : decide ((v : Int) < (least : Int)) = true := by simp; omega
 refine C8 e (C8 e (S2 e (C8 rfl (C8 rfl (S2 rfl (E2 rfl ?_))))))
 rw [if_neg (by omega)]
 rfl
 have e : decide ((v : Int) < (least : Int)) = false := by simp; omega
 refine Cy e (Cy e (A2 (v := sb (decide ((v : Int) > 1114111))) (fun k => rfl) (Tc e ?_)))
 by_cases h2 : v > 1114111
 have e2 : decide ((v : Int) > 1114111) = true := by simp; omega
 refine C8 e2 (C8 e2 (S2 e2 (E2 rfl ?_)))
 rw [if_neg (by omega)]
 rfl
 have e2 : decide ((v : Int) > 1114111) = false := by simp; omega
 refine Cy e2 (Cy e2 (Dr rfl (Bl (Cu _ _) (Bl (Cu _ _) (Bl (Cu _ _) Ds))) (Ma n' _ v 55296 57343) (Tc e2 ?_)))
 by_cases h3 : 55296 ≤ v ∧ v ≤ 57343
 refine E2 (by simp [Ga]; omega) ?_
 rw [if_neg (by omega)]
 rfl
 refine Fc (by simp [Ga]; omega) ?_
 have e5 : ((at' : Int) + 1 + (N : Int)) = ((at' + (N + 1) : Nat) : Int) := by omega
 rw [if_pos (by omega), Qz, Fd _ (by omega) (by omega), Qz, Fd _ (by omega) (by omega), e5]
 rfl
end loop
theorem El (H : Ab) (a b c : Value) : A4 Aq E0.tp 129 H (.tup [.sc a, .sc b, .sc c]) = some (.tup [.sc a, .sc b, .sc c]) := rfl
set_option maxHeartbeats 1600000 in
theorem Agk (n : Nat) (hn : 1048576 < n) (s : ByteArray) (i : Nat) (hs : s.size ≤ 1048576) (hi : i < s.size) : C1 E0 (n + 2) 129 128 [Bt s, .sc (.int .i64 i)] = some (Pu (Lib.decodeL (s.data.toList.drop i)) i) := by
 have hg : ∀ j, (s.data.toList.drop i).getD j 0 = s.data.toList.getD (i + j) 0 := fun j => by simp [zbB, zbk]
 have hL : (s.data.toList.drop i).length = s.size - i := by simp
 have hg0 : (s.data.toList.drop i).getD 0 0 = s.data.toList.getD i 0 := hg 0
 rw [Lib.decodeL_N, hL, hg0, hg 1, hg 2, hg 3]
 obtain ⟨x, hx⟩ : ∃ x, (s.data.toList.getD i 0).toNat = x := ⟨_, rfl⟩
 have hxl : x < 256 := by rw [← hx]; exact (s.data.toList.getD i 0).toNat_lt
 obtain ⟨y1, hy1⟩ : ∃ x, (s.data.toList.getD (i + 1) 0).toNat = x := ⟨_, rfl⟩
 obtain ⟨y2, hy2⟩ : ∃ x, (s.data.toList.getD (i + 2) 0).toNat = x := ⟨_, rfl⟩
 obtain ⟨y3, hy3⟩ : ∃ x, (s.data.toList.getD (i + 3) 0).toNat = x := ⟨_, rfl⟩
 have b1 : y1 < 256 := by rw [← hy1]; exact (s.data.toList.getD (i + 1) 0).toNat_lt
 have b2 : y2 < 256 := by rw [← hy2]; exact (s.data.toList.getD (i + 2) 0).toNat_lt
 have b3 : y3 < 256 := by rw [← hy3]; exact (s.data.toList.getD (i + 3) 0).toNat_lt
 have hba := Ag1 s i hi []
 rw [hx] at hba
 rw [hx, hy1, hy2, hy3]
 have fails : Lib.decodeN (s.size - i) x y1 y2 y3 = (65533, 1) → some Yw = some (Pu (Lib.decodeN (s.size - i) x y1 y2 y3) i) := fun h => by rw [h]; rfl
 have goes : ∀ v w, Lib.decodeN (s.size - i) x y1 y2 y3 = (v, w) → (w = 1 → v < 128) → some (.tup [si v, si ((i + w : Nat) : Int), bT]) = some (Pu (Lib.decodeN (s.size - i) x y1 y2 y3) i) := fun v w h hw => by
  rw [h, Pu, if_neg (by intro h; simp only at h; omega)]
 rw [A6, Afm, f128]
 simp only [Ba, A0, Bx, A5, Di, Bs, Pr.gT, Pr.gF, Pr.hT, Pr.hF, Pr.kT, Pr.kF, B7, Bw]
 have e0 : decide ((i : Int) < 0) = false := by simp
 rw [Aau]
 refine Cy e0 (Cy e0 (Cy e0 (Do (Cy e0 (A2 (v := .sc (.bool (decide ((i : Int) ≥ (s.size : Int))))) (fun k => rfl) (Tc e0 (Fc (by simp; omega) ?_)))))))
 rw [hba]
 simp only [W7, Xz, zab]
 rw [Fd _ (by omega) (by omega), Aau]
 by_cases c1 : x < 128
 refine E2 (by simp; omega) ?_
 rw [Ff _ _ (by omega)]
 exact (El _ _ _ _).trans (goes x 1 (by rw [Lib.decodeN, if_pos c1]) (fun _ => c1))
 refine Fc (by simp; omega) ?_
 obtain ⟨q, rfl⟩ : ∃ q, n = q + 4 := ⟨n - 4, by omega⟩
 apply A8 (decide ((x : Int) ≥ 192) && decide ((x : Int) < 224))
 intro b hb
 refine A2 (v := sb (decide ((x : Int) ≥ 192))) (fun k => rfl) (Ah (decide ((x : Int) ≥ 192)) (fun h => ?_) fun h => ?_)
 exact As h (As h (A2 (v := sb (decide ((x : Int) < 224))) (fun k => rfl) (Ch h (Hs hb h) rfl)))
 exact Av h (Av h (Cg h (Hr hb h) rfl))
 intro b0 hb0
 by_cases d0 : 192 ≤ x ∧ x < 224
 refine E2 (by rw [hb0]; simp; omega) (A2 (v := .sc (.int .i64 ((x % 32 : Nat) : Int))) (fun k => by show k (.sc (.int .i64 (bits .and .i64 (x : Int) 31))) = _; rw [Ai8 ⟨x, hxl⟩]) (Do (A2 (v := .sc (.int .i64 ((s.size : Int) - 1))) (fun k => Sw _ _ _ (by omega) (by omega)) (A2 (v := .sc (.int .i64 ((s.size : Int) - 1 - 1))) (fun k => Sw _ _ _ (by omega) (by omega)) (A2 (v := .sc (.bool (decide ((i : Int) > (s.size : Int) - 1 - 1)))) (fun k => rfl) ?_)))))
 by_cases c3 : i + 1 < s.size
 ·refine Fc (by simp; omega) ?_
  have r1 := Jj (q + 4 + 1) (fun x H => A4 Aq E0.tp 129 H x) [] s (q + 4) i 1 (x % 32) 1 128 (by omega) (by omega) (by omega) (by omega) hs
  rw [hy1] at r1
  refine r1.trans ?_
  by_cases k1 : y1 / 64 = 2
  rotate_left
  rw [if_neg k1]
  exact (El _ _ _ _).trans (fails (by unfold Lib.decodeN; rw [if_neg c1, if_neg (by omega), if_neg (by omega), if_neg (by omega)]))
  rw [if_pos k1]
  refine (Si (q + 4 + 1) (fun x H => A4 Aq E0.tp 129 H x) [] s (q + 4) rfl (q + 3) i 1 ((x % 32) * 64 + y1 % 64) 128 (by omega) (by omega) (by omega)).trans ?_
  have hv : (x % 32) * 64 + y1 % 64 = x % 32 * 64 + y1 % 64 := by omega
  rw [hv]
  split
  exact (El _ _ _ _).trans (goes _ 2 (by unfold Lib.decodeN; rw [if_neg c1, if_pos (by omega), if_pos (by omega)]) (by omega))
  exact (El _ _ _ _).trans (fails (by unfold Lib.decodeN; rw [if_neg c1, if_pos (by omega), if_neg (by omega)]))
 exact E2 (by simp; omega) ((El _ _ _ _).trans (fails (by unfold Lib.decodeN; rw [if_neg c1, if_neg (by omega), if_neg (by omega), if_neg (by omega)])))
 refine Fc (by rw [hb0]; simp; omega) ?_
 apply A8 (decide ((x : Int) ≥ 224) && decide ((x : Int) < 240))
 intro b hb
 refine A2 (v := sb (decide ((x : Int) ≥ 224))) (fun k => rfl) (Ah (decide ((x : Int) ≥ 224)) (fun h => ?_) fun h => ?_)
 exact As h (As h (A2 (v := sb (decide ((x : Int) < 240))) (fun k => rfl) (Ch h (Hs hb h) rfl)))
 exact Av h (Av h (Cg h (Hr hb h) rfl))
 intro b1 hb1
 by_cases d1 : 224 ≤ x ∧ x < 240
 refine E2 (by rw [hb1]; simp; omega) (A2 (v := .sc (.int .i64 ((x % 16 : Nat) : Int))) (fun k => by show k (.sc (.int .i64 (bits .and .i64 (x : Int) 15))) = _; rw [Ai7 ⟨x, hxl⟩]) (Do (A2 (v := .sc (.int .i64 ((s.size : Int) - 1))) (fun k => Sw _ _ _ (by omega) (by omega)) (A2 (v := .sc (.int .i64 ((s.size : Int) - 1 - 2))) (fun k => Sw _ _ _ (by omega) (by omega)) (A2 (v := .sc (.bool (decide ((i : Int) > (s.size : Int) - 1 - 2)))) (fun k => rfl) ?_)))))
 by_cases c3 : i + 2 < s.size
 ·refine Fc (by simp; omega) ?_
  have r1 := Jj (q + 4 + 1) (fun x H => A4 Aq E0.tp 129 H x) [] s (q + 4) i 2 (x % 16) 1 2048 (by omega) (by omega) (by omega) (by omega) hs
  rw [hy1] at r1
  refine r1.trans ?_
  by_cases k1 : y1 / 64 = 2
  rotate_left
  rw [if_neg k1]
  exact (El _ _ _ _).trans (fails (by unfold Lib.decodeN; rw [if_neg c1, if_neg (by omega), if_neg (by omega), if_neg (by omega)]))
  rw [if_pos k1]
  have r2 := Jj (q + 4 + 1) (fun x H => A4 Aq E0.tp 129 H x) [] s (q + 3) i 2 ((x % 16) * 64 + y1 % 64) 2 2048 (by omega) (by omega) (by omega) (by omega) hs
  rw [hy2] at r2
  refine r2.trans ?_
  by_cases k2 : y2 / 64 = 2
  rotate_left
  rw [if_neg k2]
  exact (El _ _ _ _).trans (fails (by unfold Lib.decodeN; rw [if_neg c1, if_neg (by omega), if_neg (by omega), if_neg (by omega)]))
  rw [if_pos k2]
  refine (Si (q + 4 + 1) (fun x H => A4 Aq E0.tp 129 H x) [] s (q + 4) rfl (q + 2) i 2 (((x % 16) * 64 + y1 % 64) * 64 + y2 % 64) 2048 (by omega) (by omega) (by omega)).trans ?_
  have hv : ((x % 16) * 64 + y1 % 64) * 64 + y2 % 64 = x % 16 * 4096 + y1 % 64 * 64 + y2 % 64 := by omega
  rw [hv]
  split
  exact (El _ _ _ _).trans (goes _ 3 (by unfold Lib.decodeN; rw [if_neg c1, if_neg (by omega), if_pos (by omega), if_pos (by omega)]) (by omega))
  exact (El _ _ _ _).trans (fails (by unfold Lib.decodeN; rw [if_neg c1, if_neg (by omega), if_pos (by omega), if_neg (by omega)]))
 exact E2 (by simp; omega) ((El _ _ _ _).trans (fails (by unfold Lib.decodeN; rw [if_neg c1, if_neg (by omega), if_neg (by omega), if_neg (by omega)])))
 refine Fc (by rw [hb1]; simp; omega) ?_
 apply A8 (decide ((x : Int) ≥ 240) && decide ((x : Int) < 248))
 intro b hb
 refine A2 (v := sb (decide ((x : Int) ≥ 240))) (fun k => rfl) (Ah (decide ((x : Int) ≥ 240)) (fun h => ?_) fun h => ?_)
 exact As h (As h (A2 (v := sb (decide ((x : Int) < 248))) (fun k => rfl) (Ch h (Hs hb h) rfl)))
 exact Av h (Av h (Cg h (Hr hb h) rfl))
 intro b2 hb2
 by_cases d2 : 240 ≤ x ∧ x < 248
 refine E2 (by rw [hb2]; simp; omega) (A2 (v := .sc (.int .i64 ((x % 8 : Nat) : Int))) (fun k => by show k (.sc (.int .i64 (bits .and .i64 (x : Int) 7))) = _; rw [Ai9 ⟨x, hxl⟩]) (Do (A2 (v := .sc (.int .i64 ((s.size : Int) - 1))) (fun k => Sw _ _ _ (by omega) (by omega)) (A2 (v := .sc (.int .i64 ((s.size : Int) - 1 - 3))) (fun k => Sw _ _ _ (by omega) (by omega)) (A2 (v := .sc (.bool (decide ((i : Int) > (s.size : Int) - 1 - 3)))) (fun k => rfl) ?_)))))
 by_cases c3 : i + 3 < s.size
 ·refine Fc (by simp; omega) ?_
  have r1 := Jj (q + 4 + 1) (fun x H => A4 Aq E0.tp 129 H x) [] s (q + 4) i 3 (x % 8) 1 65536 (by omega) (by omega) (by omega) (by omega) hs
  rw [hy1] at r1
  refine r1.trans ?_
  by_cases k1 : y1 / 64 = 2
  rotate_left
  rw [if_neg k1]
  exact (El _ _ _ _).trans (fails (by unfold Lib.decodeN; rw [if_neg c1, if_neg (by omega), if_neg (by omega), if_neg (by omega)]))
  rw [if_pos k1]
  have r2 := Jj (q + 4 + 1) (fun x H => A4 Aq E0.tp 129 H x) [] s (q + 3) i 3 ((x % 8) * 64 + y1 % 64) 2 65536 (by omega) (by omega) (by omega) (by omega) hs
  rw [hy2] at r2
  refine r2.trans ?_
  by_cases k2 : y2 / 64 = 2
  rotate_left
  rw [if_neg k2]
  exact (El _ _ _ _).trans (fails (by unfold Lib.decodeN; rw [if_neg c1, if_neg (by omega), if_neg (by omega), if_neg (by omega)]))
  rw [if_pos k2]
  have r3 := Jj (q + 4 + 1) (fun x H => A4 Aq E0.tp 129 H x) [] s (q + 2) i 3 (((x % 8) * 64 + y1 % 64) * 64 + y2 % 64) 3 65536 (by omega) (by omega) (by omega) (by omega) hs
  rw [hy3] at r3
  refine r3.trans ?_
  by_cases k3 : y3 / 64 = 2
  rotate_left
  rw [if_neg k3]
  exact (El _ _ _ _).trans (fails (by unfold Lib.decodeN; rw [if_neg c1, if_neg (by omega), if_neg (by omega), if_neg (by omega)]))
  rw [if_pos k3]
  refine (Si (q + 4 + 1) (fun x H => A4 Aq E0.tp 129 H x) [] s (q + 4) rfl (q + 1) i 3 ((((x % 8) * 64 + y1 % 64) * 64 + y2 % 64) * 64 + y3 % 64) 65536 (by omega) (by omega) (by omega)).trans ?_
  have hv : (((x % 8) * 64 + y1 % 64) * 64 + y2 % 64) * 64 + y3 % 64 = x % 8 * 262144 + y1 % 64 * 4096 + y2 % 64 * 64 + y3 % 64 := by omega
  rw [hv]
  split
  exact (El _ _ _ _).trans (goes _ 4 (by unfold Lib.decodeN; rw [if_neg c1, if_neg (by omega), if_neg (by omega), if_pos (by omega), if_pos (by omega)]) (by omega))
  exact (El _ _ _ _).trans (fails (by unfold Lib.decodeN; rw [if_neg c1, if_neg (by omega), if_neg (by omega), if_pos (by omega), if_neg (by omega)]))
 exact E2 (by simp; omega) ((El _ _ _ _).trans (fails (by unfold Lib.decodeN; rw [if_neg c1, if_neg (by omega), if_neg (by omega), if_neg (by omega)])))
 exact Fc (by rw [hb2]; simp; omega) ((El _ _ _ _).trans (fails (by unfold Lib.decodeN; rw [if_neg c1, if_neg (by omega), if_neg (by omega), if_neg (by omega)])))
theorem Tt (N ty : Nat) (a b c : Value) : Bp Aq E0.tp N ty (.tup [.sc a, .sc b, .sc c]) = (.tup [.sc a, .sc b, .sc c], []) := rfl
theorem Ach (s : ByteArray) : Vw [⟨Bk s, true, false⟩] (.sl 0 0 s.size 1) (Bt s) := fun X => by
 have e2 : A3 ([⟨Bk s, true, false⟩] ++ X) 0 0 (s.size * 1) = some (Bk s) := by
  have hl := E4 s
  show (if (0 + s.size * 1 ≤ (Bk s).length) then some (((Bk s).drop 0).take (s.size * 1)) else none) = _
  rw [if_pos (by omega), za7, Nat.mul_one, ← hl, za3]
 rw [O3, e2, zab]
 have e3 : (Bk s).mapM (Dm ([⟨Bk s, true, false⟩] ++ X) 7) = some (Bk s) := by
  rw [Jn]
  exact Aaw _
 rw [e3]
 rfl
theorem Ju {vs : List AV} {i : Nat} {x : AV} {K : AV → Option AV} {r : Option AV} (hx : vs[i]? = some x) (h : K x = r) : Om (.tup vs) i (fun t => K t) = r := by
 show (vs[i]?).bind _ = r
 rw [hx]
 exact h
theorem Q4 (n : Nat) (hn : 1048576 < n) (k : AV → Ab → Option AV) (s : ByteArray) (hs : s.size ≤ 60) : ∀ (b m pos c : Nat), s.size ≤ pos + b → pos ≤ s.size → c ≤ pos → b < m →
  ∃ r : Int, Mo (PR (n + 2) AV) (n + 2) k m (.sl 0 0 s.size 1) (si c) (si pos) [⟨Bk s, true, false⟩] = k (si r) [⟨Bk s, true, false⟩] ∧ (Mk b (s.data.toList.drop pos) = true → 0 ≤ r) ∧ (Mk b (s.data.toList.drop pos) = false → r = -1)
 | b, m + 1, pos, c, hb, hp, hc, hm => by
  rw [Mo]
  simp only [Bw, Ba, A0, K3, Ea, Bs, Pr.gT, Pr.gF, Pr.hT, Pr.hF, Pr.kT, Pr.kF, B7]
  have hlen : ∀ k : AV → Option AV, On (.sl 0 0 s.size 1) k = k (si s.size) := fun _ => rfl
  rw [hlen, Ej, Ef]
  by_cases hlt : pos < s.size
  rw [if_pos (by simpa using hlt)]
  obtain ⟨b, rfl⟩ : ∃ b', b = b' + 1 := ⟨b - 1, by omega⟩
  have hne : s.data.toList.drop pos ≠ [] := by
   intro h
   have := congrArg List.length h
   simp at this
   omega
  have hw := Lib.decodeL_width (s.data.toList.drop pos)
  have hle := Lib.decodeL_le (s.data.toList.drop pos) hne
  have hll : (s.data.toList.drop pos).length = s.size - pos := by simp
  rw [hll] at hle
  rw [Mk, if_neg hne]
  generalize hd : Lib.decodeL (s.data.toList.drop pos) = d at hw hle ⊢
  have ht := Agk n hn s pos (by omega) hlt
  rw [hd] at ht
  rw [Fe (vs := [Bt s, .sc (.int .i64 pos)]) rfl (Bl (Ach s) (Bl (Cu _ _) Ds)) ht]
  by_cases hf : d.1 = 65533 ∧ d.2 = 1
  rw [Pu, if_pos hf, Tt, zam, if_pos hf]
  refine ⟨-1, ?_, (fun h => by cases h), (fun _ => rfl)⟩
  refine Ju rfl (Ju rfl (Ju rfl (Gw (C8 rfl (C8 rfl (S2 rfl (E2 rfl ?_)))))))
  rfl
  rw [Pu, if_neg hf, Tt, zam, if_neg hf]
  by_cases hz : d.1 = 0
  rw [if_pos hz]
  refine ⟨-1, ?_, (fun h => by cases h), (fun _ => rfl)⟩
  refine Ju rfl (Ju rfl (Ju rfl (Gw (Cy rfl (Cy rfl (A2 (v := .sc (.bool ((d.1 : Int) == 0))) (fun k => rfl) (Tc rfl (E2 (by simp [hz]) ?_))))))))
  rfl
  rw [if_neg hz, zbb]
  obtain ⟨r, h1, h2, h3⟩ := Q4 n hn k s hs b m (pos + d.2) (c + 1) (by omega) (by omega) (by omega) (by omega)
  refine ⟨r, ?_, h2, h3⟩
  refine Ju rfl (Ju rfl (Ju rfl (Gw (Cy rfl (Cy rfl (A2 (v := .sc (.bool ((d.1 : Int) == 0))) (fun k => rfl) (Tc rfl (Fc (by simp; omega) ?_))))))))
  rw [Ff _ _ (by omega)]
  exact h1
  rw [if_neg (by simpa using hlt)]
  have hnil : s.data.toList.drop pos = [] := by
   apply zaW
   simp
   omega
  refine ⟨c, rfl, fun _ => by omega, fun h => ?_⟩
  rw [hnil] at h
  cases b <;> simp [Mk] at h
theorem Ahk (n : Nat) (hn : 1048576 < n) (ty : Nat) (s : ByteArray) : ∃ r : Int, C1 E0 (n + 3) ty 111 [.sc (.string s)] = some (.sc (.int .i64 r)) ∧ (D9 s = true → 0 ≤ r) ∧ (D9 s = false → r = -1) := by
 rw [A6, Afa, f111]
 simp only [C2, Ba, A0, Zz]
 unfold D9
 by_cases h : s.size ≤ 60
 obtain ⟨r, h1, h2, h3⟩ := Q4 n hn (fun x H => A4 Aq E0.tp ty H x) s h s.size (n + 2) 0 0 (by omega) (by omega) (by omega) (by omega)
 refine ⟨r, ?_, ?_, ?_⟩
 refine AeD (A2 (v := .sc (.bool (decide ((s.size : Int) > 60)))) (fun k => rfl) (Fc (by simp; omega) ?_))
 simp only [Ub, asS, zab]
 rw [if_pos (by omega)]
 exact h1
 intro hv
 refine h2 ?_
 simpa [h] using hv
 intro hv
 refine h3 ?_
 simpa [h] using hv
 refine ⟨-1, ?_, (fun hv => by simp [h] at hv), (fun _ => rfl)⟩
 refine AeD (A2 (v := .sc (.bool (decide ((s.size : Int) > 60)))) (fun k => rfl) (E2 (by simp; omega) ?_))
 rfl
theorem Uj (n : Nat) (hn : 1048576 < n) (ty : Nat) (s : ByteArray) : C1 E0 (n + 4) ty 82 [.sc (.string s)] = some (.sc (.bool (D9 s))) := by
 rw [A6, AhV, f82]
 simp only [Ba]
 obtain ⟨r, h1, h2, h3⟩ := Ahk n hn 3 s
 refine Dr rfl (Bl (Cu _ _) Ds) h1 (A2 (v := sb (decide (r ≥ 0))) (fun k => rfl) (Dv ?_))
 cases hv : D9 s
 rw [h3 hv]
 rfl
 simpa using h2 hv
theorem Zc {β : Type} {n : Nat} {H : Ab} {r : Option β} {ty f : Nat} {g : Nat → List AV → Option AV} {args vs : List AV} {v : Value} {K : KO β} (hg : E0.ext f = some g) (hv : args.mapM (Dm H 8) = some vs) (ht : g ty vs = some (.sc v)) (h : K (.sc v) H = r) : (PR n β).call ty (.fn f [] []) args H (fun x H => K x H) = r := by
 rw [Acf hg hv ht, G3, zam]
 exact h
theorem Ts (ty : Nat) (s : ByteArray) (hs : Iq s) : Z8 ty [.sc (.string s)] = some (.sc (.bool (D9 s))) := by
 have hm : maxLen = 9223372036854775807 := by decide
 show (if s.size ≤ maxLen then _ else _) = _
 rw [hm, if_pos (show s.size ≤ 9223372036854775807 from hs)]
end
section
open Go
def Fb (s : ByteArray) : Bool := D9 s && !(s.toList == (⟨#[]⟩ : ByteArray).toList) && !(O0 s 43) && !(O0 s 35) && decide (((Ed s).length : Int) ≤ 6)
section
variable {β : Type} {n : Nat} {H : Ab} {r : Option β}
theorem Aav {ty f len : Nat} {args vs cells : List AV} {K : KO β} (hh : Fz f = false) (hv : args.mapM (Dm H 8) = some vs) (ht : C1 E0 n ty f vs = some (.ro len cells)) (h : ∀ N X sz, K (.sl N 0 len sz) (H ++ X) = r) : (PR n β).call ty (.fn f [] []) args H (fun x H => K x H) = r := by
 rw [Fe hh hv ht]
 exact h _ _ _
theorem AeB {b b' : Bool} (h : b = b') : some (AV.sc (.bool b)) = some (AV.sc (.bool b')) := by rw [h]
theorem Hd {α : Type} {w : Nat} {enc : α → List AV} {l pre t : List α} {x : α} {K : AV → Option β} (hw : ∀ x, (enc x).length = w) (h0 : 0 < w) (hl : l = pre ++ x :: t) (h : K (.rp (enc x ++ (t.map enc).flatten)) = r) : Es w (Am enc l) (.sc (.int .i64 (pre.length : Int))) (fun t => K t) = r := by
 subst hl
 exact (M4 (β := β) hw h0 pre x t (fun t => K t)).trans h
theorem Agx {α : Type} {w : Nat} {enc : α → List AV} {l pre t : List α} {K : AV → Option β} (hw : ∀ x, (enc x).length = w) (h0 : 0 < w) (hp : decide ((pre.length : Int) > 0) = true) (hl : l = pre ++ t) (hlen : l.length ≤ 1048576) (h : ∀ y, pre.getLast? = some y → K (.rp (enc y ++ (t.map enc).flatten)) = r) : Es w (Am enc l) (.sc (.int .i64 (IntKind.i64.wrap ((pre.length : Int) - 1)))) (fun t => K t) = r := by
 cases hg : pre.getLast? with
 | none =>
  rw [List.getLast?_eq_none_iff] at hg
  subst hg
  simp at hp
 | some y =>
  obtain ⟨p, rfl⟩ := List.getLast?_eq_some_iff.1 hg
  have hlp : p.length < 1048576 := by
   rw [hl] at hlen
   simp at hlen
   omega
  have e : IntKind.i64.wrap (((p ++ [y]).length : Int) - 1) = (p.length : Int) := by
   rw [zae, zal, Fd _ (by omega) (by omega)]
   omega
  rw [e]
  exact Hd hw h0 (hl.trans (by simp)) (h y hg)
theorem AeC {id off m w : Nat} {K : AV → Option β} (h : K (.sc (.int .i64 m)) = r) : On (.sl id off m w) (fun t => K t) = r := h
end
section has
variable (n : Nat) (k : AV → Ab → Option AV) (H : Ab)
theorem Wh (s : ByteArray) (b : UInt8) (hs : s.size ≤ 1048576) : ∀ (r pre : List UInt8) (m : Nat), s.data.toList = pre ++ r → r.length < m →
  Ld (PR n AV) n k m (ss s) (su b.toNat) (si pre.length) H = k (sb (r.any fun c => c == b)) H
 | [], pre, m + 1, hl, hm => by
  have h1 : s.size = pre.length := by
   have := congrArg List.length hl
   simpa using this
  rw [Ld]
  simp only [C2, Ba, A0]
  rw [Rw, Ej, h1, Ef, if_neg (by simp)]
  rfl
 | c :: r, pre, m + 1, hl, hm => by
  have h1 : s.size = pre.length + r.length + 1 := by
   have := congrArg List.length hl
   simpa [zaO] using this
  rw [Ld]
  simp only [C2, Ba, A0, Du]
  rw [Rw, Ej, Ef, if_pos (by simp; omega), AgJ s pre.length c _ (by rw [hl]; simp)]
  have he : ∀ K : AV → Option AV, E8 .eql (su (c.toNat : Int)) (su (b.toNat : Int)) K = K (sb (c == b)) := by
   intro K
   show K (.sc (.bool ((c.toNat : Int) == (b.toNat : Int)))) = _
   congr 3
   rw [zaM, beq_iff_eq, beq_iff_eq, Int.ofNat_inj, UInt8.toNat_inj]
  rw [he, Ef, zbt]
  cases hcb : (c == b)
  rw [if_neg (by simp), Ff _ _ (by omega)]
  have ih := Wh s b hs r (pre ++ [c]) m (by rw [hl]; simp) (by simpa using hm)
  rw [zae, zal] at ih
  rw [ih]
  rfl
  rw [if_pos rfl]
  rfl
end has
theorem AjD (n : Nat) (hn : 1048576 < n) (ty : Nat) (s : ByteArray) (b : UInt8) (hs : s.size ≤ 1048576) : C1 E0 (n + 1) ty 114 [.sc (.string s), .sc (.int .u8 b.toNat)] = some (.sc (.bool (O0 s b))) := by
 rw [A6, Afd, f114]
 have key := Wh n (fun x H => A4 Aq E0.tp ty H x) [] s b hs s.data.toList [] n rfl (by simp; omega)
 simp only [zat, zbg] at key
 rw [key]
 rfl
theorem AjC (n : Nat) (hn : 1048576 < n) (ty : Nat) (s : ByteArray) (hs : s.size ≤ 1048576) : C1 E0 (n + 1) ty 114 [.sc (.string s), .sc (.int .u8 43)] = some (.sc (.bool (O0 s 43))) := AjD n hn ty s 43 hs
theorem AjB (n : Nat) (hn : 1048576 < n) (ty : Nat) (s : ByteArray) (hs : s.size ≤ 1048576) : C1 E0 (n + 1) ty 114 [.sc (.string s), .sc (.int .u8 35)] = some (.sc (.bool (O0 s 35))) := AjD n hn ty s 35 hs
theorem Agt : ∃ i j, Aq 38 = some i ∧ Aq i.elem = some j ∧ j.size = 1 ∧ j.cty = [i.elem] := ⟨_, _, rfl, rfl, rfl, rfl⟩
def Ags (l : List UInt8) : AV := .sc (.string (ofL l))
theorem Wu (s : ByteArray) (P cur r : List UInt8) (h : s.data.toList = P ++ (cur ++ r)) : s.extract P.length (P.length + cur.length) = ofL cur := by
 have : (s.extract P.length (P.length + cur.length)).data.toList = cur := by
  rw [ByteArray.data_extract, Array.toList_extract, List.extract, h]
  rw [zbn (zai _), List.drop_length, zah, zbq, zb2 (zai _), za3]
 rw [← Wt (s.extract _ _), this]
theorem Tx {H : Ab} {x : AV} {cnt : Nat} {cells : List AV} {K : AV → Ab → Option AV} {r : Option AV} (s : ByteArray) (P cur rest : List UInt8) (hl : s.data.toList = P ++ (cur ++ rest)) (hs : s.size ≤ 1048576) (hx : OwnS 7 H 1 [9] x cnt cells) (hc : cnt ≤ 1048577)
  (h : ∀ x' H', OwnS 7 H' 1 [9] x' (cnt + 1) (cells ++ [Ags cur]) → K x' H' = r) :
  (Mw (ss s) (some (si P.length)) (some (si ((P.length + cur.length : Nat) : Int))) fun t27 => (Ek [sE] [(0, 1, t27)]).bind fun ct28 => E9 1 1 ct28 true H fun t28 H => G4 1 16 x t28 H K) = r := by
 have hsz : P.length + cur.length ≤ s.size := by
  have := congrArg List.length hl
  simp at this
  omega
 simp only [Mw, asS, Jm, Xz, zab]
 rw [if_pos (by omega)]
 simp only [zbi]
 rw [Wu s P cur rest hl]
 have hf : Ek [sE] [(0, 1, ss (ofL cur))] = some [ss (ofL cur)] := rfl
 rw [hf, zab]
 have key := Z3 (H := H) (X := []) (bytes := 16) (er := [ss (ofL cur)]) (ec := [Ags cur]) (eids := []) (K := K) (r := r) hx rfl rfl rfl zb3 (fun i hi => by cases hi) (by omega) h
 rw [zam] at key
 exact key
theorem Rx (n : Nat) (s : ByteArray) (hs : s.size ≤ 1048576) : ∀ (r P cur : List UInt8) (m : Nat) (x : AV) (H : Ab) (cnt : Nat) (cells : List AV), s.data.toList = P ++ (cur ++ r) → r.length + 1 < m → OwnS 7 H 1 [9] x cnt cells → cnt ≤ P.length →
  Ja (PR n AV) n (fun x H => A4 Aq E0.tp 38 H x) m (ss s) x (si P.length) (si ((P.length + cur.length : Nat) : Int)) H = some (.ro (cnt + (lvL cur r).length) (cells ++ (lvL cur r).map Ags))
 | [], P, cur, m + 2, x, H, cnt, cells, hl, hm, hx, hc => by
  have h1 : s.size = P.length + cur.length := by
   have := congrArg List.length hl
   simpa using this
  rw [Ja]
  simp only [C2, Ba, A0, Bs, Pr.gT, Pr.gF, Pr.hT, Pr.hF, Pr.kT, Pr.kF, B7, Cc, Bj, Bh, Cp, Du]
  rw [Rw, Wo, Ef, if_pos (by simp; omega), Rw, Acq]
  have he : (((P.length + cur.length : Nat) : Int) == (s.size : Int)) = true := by simp; omega
  refine C8 he (C8 he (C8 he (C8 he (S2 he (E2 rfl (Tx s P cur [] hl hs hx (by omega) fun x' H' hx' => ?_))))))
  rw [Ff _ _ (by omega), Ff _ _ (by omega)]
  rw [Ja]
  simp only [C2, Ba, A0]
  rw [Rw, Wo, Ef, if_neg (by simp; omega)]
  obtain ⟨i, j, e1, e2, e3, e4⟩ := Agt
  obtain ⟨ids, ho, hno⟩ := Qu (d := 7) (tyS := 38) (w := 1) (cty := [9]) ⟨_, _, rfl, rfl, rfl, rfl⟩ hx'
  rw [A4, ho, zab, if_pos hno]
  rfl
 | c :: r, P, cur, m + 1, x, H, cnt, cells, hl, hm, hx, hc => by
  have h1 : s.size = P.length + cur.length + r.length + 1 := by
   have := congrArg List.length hl
   simp at this
   omega
  have hidx : s.data.toList[P.length + cur.length]? = some c := by
   rw [hl, ← zaj, ← zae, zaf (zai _), zaL]
   rfl
  rw [Ja]
  simp only [C2, Ba, A0, Bs, Pr.gT, Pr.gF, Pr.hT, Pr.hF, Pr.kT, Pr.kF, B7, Cc, Bj, Bh, Cp, Du]
  rw [Rw, Wo, Ef, if_pos (by simp; omega), Rw, Acq]
  have he : (((P.length + cur.length : Nat) : Int) == (s.size : Int)) = false := by simp; omega
  refine Cy he (Cy he (Cy he ?_))
  rw [AgJ s (P.length + cur.length) c _ hidx]
  refine Cy he (A2 (v := sb (c == 47)) (fun K => ?_) ?_)
  show K (.sc (.bool ((c.toNat : Int) == (47 : Int)))) = _
  congr 3
  rw [zaM, beq_iff_eq, beq_iff_eq, show (47 : Int) = (((47 : UInt8).toNat : Nat) : Int) from rfl, Int.ofNat_inj, UInt8.toNat_inj]
  refine Tc he ?_
  rw [lvL]
  by_cases h47 : c = 47
  refine E2 (by simp [h47]) (Tx s P cur (c :: r) hl hs hx (by omega) fun x' H' hx' => ?_)
  rw [Ff _ _ (by omega), Ff _ _ (by omega), if_pos h47]
  have ih := Rx n s hs r (P ++ cur ++ [c]) [] m x' H' (cnt + 1) (cells ++ [Ags cur]) (by rw [hl]; simp) (by simpa using hm) hx' (by simp; omega)
  simp only [zae, zat, zal, zaZ] at ih
  rw [ih]
  simp [zaO, zbD]
  refine Fc (by simpa using h47) ?_
  rw [Ff _ _ (by omega), if_neg h47]
  have ih := Rx n s hs r P (cur ++ [c]) m x H cnt cells (by rw [hl]; simp) (by simpa using hm) hx hc
  rw [zae, zal, ← zaO] at ih
  exact ih
theorem Xi (n : Nat) (hn : 1048577 < n) (s : ByteArray) (hs : s.size ≤ 1048576) : C1 E0 (n + 1) 38 115 [.sc (.string s)] = some (.ro (Ed s).length ((Ed s).map fun x => .sc (.string x))) := by
 rw [A6, Afe, f115]
 have key := Rx n s hs s.data.toList [] [] n .nl [] 0 [] rfl (by simp; omega) (OwnS.nil _ _ _ _) (by simp)
 simp only [zat, zbg, zav, zah] at key
 rw [key, Ed, zb0, zbH]
 rfl
theorem Wj (n : Nat) (s : ByteArray) (hs : s.size ≤ 1048576) : C1 E0 (n + 1) 38 95 [.sc (.string s)] = some (.ro (Ed s).length ((Ed s).map fun x => .sc (.string x))) := by
 rw [A6, Aie, f95]
 have hg : Pb 38 [ss s, .sc (.string ⟨#[47]⟩)] = some (.ro (Ed s).length ((Ed s).map fun x => ss x)) := by
  unfold Pb
  exact if_pos ⟨rfl, rfl, by omega⟩
 rw [Acf (g := Pb) rfl (Bl (Cu _ _) (Bl (Cu _ _) Ds)) hg]
 refine Age [] _ _ ?_
 refine ⟨_, _, rfl, rfl, by simp, ?_⟩
 have := Mt (f := Gj Aq E0.tp 7) (cty := [9]) (enc := fun x : ByteArray => [ss x]) (Ed s) (fun x _ => ⟨trivial, trivial⟩)
 rw [N0] at this
 exact this
theorem AaL (ty : Nat) (s : ByteArray) (hs : s.size ≤ 1048576) : Wc ty [.sc (.string s), .sc (.string ⟨#[43, 35]⟩)] = some (.sc (.bool (vPH s))) := by
 unfold Wc
 exact if_pos ⟨rfl, by omega⟩
end
end Go.Proofs.YtdofipeaomgbbaaGreatDoor.Abs
