/- What the proof needs, part 3: a sound evaluator over trees, the program's functions on it, and what they come to. -/
import Derived.Test.YtdofipeaomgbbaaGreatDoorMgb
import Derived.Test.YtdofipeaomgbbaaGreatDoorChecked
import Derived.WalkKit
import Derived.WalkMore
import Derived.Below
import Derived.Shelf.Unicode.ValidAny
import Derived.Shelf.Strings.Split
import Derived.Shelf.Vars
import Derived.Lib.TrimUEq
import Derived.Lib.ValidLaws
import Derived.Laws.RangeAny
import Derived.LoopTactic
import Derived.Test.YtdofipeaomgbbaaGreatDoorProg
import Derived.Deep.RegionLaw
import Derived.Laws.BitsLemmas
import Derived.Lib.MapLaws
set_option linter.unusedVariables false
set_option linter.unusedSimpArgs false
namespace Go.Proofs
open _root_.Option renaming bind_eq_some_iff → zaa, bind_some → zab, getD_some → zaC, map_eq_some_iff → zaT, bind_eq_bind → zaX, pure_def → zbl
open _root_.List renaming getElem?_eq_some_iff → zac, replicate → zad, getElem?_append_right → zae, getElem?_append_left → zaf, length_append → zag, nil_append → zah, append_assoc → zaj, getElem?_eq_getElem → zam, append_nil → zan, length_singleton → zao, mem_append_right → zap, cons_append → zar, mem_append_left → zas, mem_cons_of_mem → zat, map_cons → zau, length_cons → zav, flatten_append → zax, length_nil → zay, take_length → za0, getElem?_set_ne → za1, mem_cons → za2, all_eq_true → za3, map_append → za5, length_take → za6, mem_cons_self → za8, drop_zero → zaA, replicate_append_replicate → zaB, flatten_cons → zaE, length_drop → zaF, nodup_cons → zaH, not_mem_nil → zaI, mem_append → zaJ, take_append_drop → zaL, nodup_append → zaP, mem_range'_1 → zaQ, getElem?_drop → zaR, getElem?_take_of_lt → zaU, drop_drop → zaV, getElem?_map → zaZ, mapM_cons → zba, nodup_range' → zbb, drop_eq_getElem_cons → zbc, drop_of_length_le → zbe, getElem?_set_self → zbf, any_cons → zbg, length_set → zbh, all_cons → zbj, range' → zbk, drop_append_of_le_length → zbo, getElem?_cons_zero → zbp, map_nil → zbs, take_of_length_le → zbv, Perm → zb1, take_append_of_le_length → zb2, nodup_nil → zb3, length_eq_one_iff → zb4, mem_singleton → zb6, mem_iff_getElem? → zb7, mem_map → zb8, headD_cons → zbB, length_map → zbC, getD_eq_getElem?_getD → zbD, mem_of_getElem? → zbF, tail_cons → zbG, drop_take → zbH, take_take → zbI, getElem_mem → zbJ, take_zero → zbM
open _root_.Bool renaming and_eq_true → zai, false_eq_true → zal, eq_iff_iff → zbi, or_eq_false_iff → zbE
open _root_.Nat renaming le_refl → zak, zero_add → zaw, mul_le_mul_right → za7, min_eq_left → zaK, add_mul → zaM, zero_le → zaN, sub_self → zaO, add_assoc → zaS, eq_of_beq_eq_true → zaW, add_zero → zbd, add_sub_cancel_left → zbr, one_mul → zbt, beq → zby, add_comm → zbK, succ_mul → zbN
open _root_.Array renaming ext' → zbn, replicate → zbz
open _root_.Int renaming natCast_zero → zaY, toNat_natCast → zbm
open Go.RowKit Go.Shelf Go.Lib
def Tryz.laysValid_ren : Go.Shelf.Ren := ⟨fun | 196 => 116 | 259 => 132 | n => n, fun | 9 => 9 | 4 => 4 | 3 => 3 | 5 => 5 | 12 => 12 | 119 => 132 | 0 => 0 | 46 => 127 | 139 => 135 | 138 => 134 | 53 => 144 | n => n, fun | 3 => 0 | 4 => 1 | n => n⟩
theorem Tryz.laysValid : Go.Proofs.Lays.n196 Tryz.prog Tryz.laysValid_ren := {
 mixed := by kernel_rfl
 f196 := Tryz.func116.trans (congrArg some (by kernel_rfl))
 f259 := Tryz.func132.trans (congrArg some (by kernel_rfl))
 t0 := Tryz.underlying0
 a0 := Tryz.isAgg0
 z0 := Tryz.sizeOf0
 v0 := Tryz.zeroValue0
 t3 := Tryz.underlying3
 a3 := Tryz.isAgg3
 z3 := Tryz.sizeOf3
 v3 := Tryz.zeroValue3
 t4 := Tryz.underlying4
 a4 := Tryz.isAgg4
 z4 := Tryz.sizeOf4
 v4 := Tryz.zeroValue4
 t5 := Tryz.underlying5
 a5 := Tryz.isAgg5
 z5 := Tryz.sizeOf5
 v5 := Tryz.zeroValue5
 t9 := Tryz.underlying9
 a9 := Tryz.isAgg9
 z9 := Tryz.sizeOf9
 v9 := Tryz.zeroValue9
 t12 := Tryz.underlying12
 a12 := Tryz.isAgg12
 z12 := Tryz.sizeOf12
 v12 := Tryz.zeroValue12
 t46 := Tryz.underlying127
 a46 := Tryz.isAgg127
 z46 := Tryz.sizeOf127
 v46 := Tryz.zeroValue127
 t53 := Tryz.underlying144
 a53 := Tryz.isAgg144
 z53 := Tryz.sizeOf144
 v53 := Tryz.zeroValue144
 t119 := Tryz.underlying132
 a119 := Tryz.isAgg132
 z119 := Tryz.sizeOf132
 t138 := Tryz.underlying134
 a138 := Tryz.isAgg134
 z138 := Tryz.sizeOf134
 v138 := Tryz.zeroValue134
 t139 := Tryz.underlying135
 a139 := Tryz.isAgg135
 z139 := Tryz.sizeOf135
 v139 := Tryz.zeroValue135
 g3 := by kernel_rfl
 g4 := by kernel_rfl }
def Tryz.laysAny_ren : Go.Shelf.Ren := ⟨fun | 150 => 94 | 153 => 117 | 152 => 133 | 226 => 134 | 227 => 135 | 228 => 136 | 137 => 140 | 119 => 141 | 224 => 142 | 225 => 143 | 217 => 147 | 266 => 152 | n => n, fun | 9 => 9 | 4 => 4 | 3 => 3 | 5 => 5 | 21 => 21 | 117 => 139 | 116 => 138 | 0 => 0 | 46 => 127 | 124 => 148 | n => n, fun | n => n⟩
theorem Tryz.laysAny : Go.Proofs.Lays.n150 Tryz.prog Tryz.laysAny_ren := {
 mixed := by kernel_rfl
 f119 := Tryz.func141.trans (congrArg some (by kernel_rfl))
 f137 := Tryz.func140.trans (congrArg some (by kernel_rfl))
 f150 := Tryz.func94.trans (congrArg some (by kernel_rfl))
 f152 := Tryz.func133.trans (congrArg some (by kernel_rfl))
 f153 := Tryz.func117.trans (congrArg some (by kernel_rfl))
 f217 := Tryz.func147.trans (congrArg some (by kernel_rfl))
 f224 := Tryz.func142.trans (congrArg some (by kernel_rfl))
 f225 := Tryz.func143.trans (congrArg some (by kernel_rfl))
 f226 := Tryz.func134.trans (congrArg some (by kernel_rfl))
 f227 := Tryz.func135.trans (congrArg some (by kernel_rfl))
 f228 := Tryz.func136.trans (congrArg some (by kernel_rfl))
 f266 := Tryz.func152.trans (congrArg some (by kernel_rfl))
 t0 := Tryz.underlying0
 a0 := Tryz.isAgg0
 z0 := Tryz.sizeOf0
 v0 := Tryz.zeroValue0
 t3 := Tryz.underlying3
 a3 := Tryz.isAgg3
 z3 := Tryz.sizeOf3
 v3 := Tryz.zeroValue3
 t4 := Tryz.underlying4
 a4 := Tryz.isAgg4
 z4 := Tryz.sizeOf4
 v4 := Tryz.zeroValue4
 t5 := Tryz.underlying5
 a5 := Tryz.isAgg5
 z5 := Tryz.sizeOf5
 v5 := Tryz.zeroValue5
 t9 := Tryz.underlying9
 a9 := Tryz.isAgg9
 z9 := Tryz.sizeOf9
 v9 := Tryz.zeroValue9
 t21 := Tryz.underlying21
 a21 := Tryz.isAgg21
 z21 := Tryz.sizeOf21
 v21 := Tryz.zeroValue21
 t46 := Tryz.underlying127
 a46 := Tryz.isAgg127
 z46 := Tryz.sizeOf127
 v46 := Tryz.zeroValue127
 t116 := Tryz.underlying138
 a116 := Tryz.isAgg138
 z116 := Tryz.sizeOf138
 t117 := Tryz.underlying139
 a117 := Tryz.isAgg139
 z117 := Tryz.sizeOf139
 v117 := Tryz.zeroValue139
 t124 := Tryz.underlying148
 a124 := Tryz.isAgg148
 z124 := Tryz.sizeOf148
 v124 := Tryz.zeroValue148 }
def Tryz.laysSplit_ren : Go.Shelf.Ren := ⟨fun | 146 => 118 | 221 => 137 | 268 => 144 | 138 => 145 | 143 => 146 | 195 => 148 | 197 => 149 | 218 => 150 | 219 => 151 | 260 => 153 | 217 => 147 | 225 => 143 | 224 => 142 | 267 => 154 | 266 => 152 | 314 => 155 | n => n, fun | 9 => 9 | 31 => 38 | 3 => 3 | 4 => 4 | 0 => 0 | 105 => 150 | 21 => 21 | 5 => 5 | 46 => 127 | 119 => 132 | 139 => 135 | 138 => 134 | 146 => 153 | 51 => 152 | n => n, fun | 1 => 2 | 3 => 0 | 4 => 1 | n => n⟩
theorem Tryz.laysSplit : Go.Proofs.Lays.n146 Tryz.prog Tryz.laysSplit_ren := {
 mixed := by kernel_rfl
 f138 := Tryz.func145.trans (congrArg some (by kernel_rfl))
 f143 := Tryz.func146.trans (congrArg some (by kernel_rfl))
 f146 := Tryz.func118.trans (congrArg some (by kernel_rfl))
 f195 := Tryz.func148.trans (congrArg some (by kernel_rfl))
 f197 := Tryz.func149.trans (congrArg some (by kernel_rfl))
 f217 := Tryz.func147.trans (congrArg some (by kernel_rfl))
 f218 := Tryz.func150.trans (congrArg some (by kernel_rfl))
 f219 := Tryz.func151.trans (congrArg some (by kernel_rfl))
 f221 := Tryz.func137.trans (congrArg some (by kernel_rfl))
 f224 := Tryz.func142.trans (congrArg some (by kernel_rfl))
 f225 := Tryz.func143.trans (congrArg some (by kernel_rfl))
 f260 := Tryz.func153.trans (congrArg some (by kernel_rfl))
 f266 := Tryz.func152.trans (congrArg some (by kernel_rfl))
 f267 := Tryz.func154.trans (congrArg some (by kernel_rfl))
 f268 := Tryz.func144.trans (congrArg some (by kernel_rfl))
 f314 := Tryz.func155.trans (congrArg some (by kernel_rfl))
 t0 := Tryz.underlying0
 a0 := Tryz.isAgg0
 z0 := Tryz.sizeOf0
 v0 := Tryz.zeroValue0
 t3 := Tryz.underlying3
 a3 := Tryz.isAgg3
 z3 := Tryz.sizeOf3
 v3 := Tryz.zeroValue3
 t4 := Tryz.underlying4
 a4 := Tryz.isAgg4
 z4 := Tryz.sizeOf4
 v4 := Tryz.zeroValue4
 t5 := Tryz.underlying5
 a5 := Tryz.isAgg5
 z5 := Tryz.sizeOf5
 v5 := Tryz.zeroValue5
 t9 := Tryz.underlying9
 a9 := Tryz.isAgg9
 z9 := Tryz.sizeOf9
 v9 := Tryz.zeroValue9
 t21 := Tryz.underlying21
 a21 := Tryz.isAgg21
 z21 := Tryz.sizeOf21
 v21 := Tryz.zeroValue21
 t31 := Tryz.underlying38
 a31 := Tryz.isAgg38
 z31 := Tryz.sizeOf38
 v31 := Tryz.zeroValue38
 t46 := Tryz.underlying127
 a46 := Tryz.isAgg127
 z46 := Tryz.sizeOf127
 v46 := Tryz.zeroValue127
 t51 := Tryz.underlying152
 a51 := Tryz.isAgg152
 z51 := Tryz.sizeOf152
 v51 := Tryz.zeroValue152
 t105 := Tryz.underlying150
 a105 := Tryz.isAgg150
 z105 := Tryz.sizeOf150
 v105 := Tryz.zeroValue150
 t119 := Tryz.underlying132
 a119 := Tryz.isAgg132
 z119 := Tryz.sizeOf132
 t138 := Tryz.underlying134
 a138 := Tryz.isAgg134
 z138 := Tryz.sizeOf134
 v138 := Tryz.zeroValue134
 t139 := Tryz.underlying135
 a139 := Tryz.isAgg135
 z139 := Tryz.sizeOf135
 v139 := Tryz.zeroValue135
 t146 := Tryz.underlying153
 a146 := Tryz.isAgg153
 z146 := Tryz.sizeOf153
 v146 := Tryz.zeroValue153
 g1 := by kernel_rfl
 g3 := by kernel_rfl
 g4 := by kernel_rfl }
namespace YtdofipeaomgbbaaGreatDoor.Abs
def noZ : Nat → List UInt8 → Bool
 | 0, _ => true
 | n + 1, l => if l = [] then true else if (Lib.decodeL l).1 = 0 then false else noZ n (l.drop (Lib.decodeL l).2)
def U9 (s : ByteArray) : Bool := noZ s.size s.data.toList && (Lib.validD s.data.toList && decide (s.size ≤ 60))
def JT (w : World) : Prop := Lib.Utf8Tabs (Tryz.laysValid_ren.g 3) (Tryz.laysValid_ren.g 4) w
def J0 (w : World) : Prop := JT w ∧ ∃ m, w.cell? ⟨Tryz.laysSplit_ren.g 1, 0, none⟩ = some (.int .i64 m)
theorem Aey : ∀ w w' : World, JT w → Below w.heap.size w w' → JT w' := fun _ _ h hb => Utf8Tabs_below h hb
theorem Aex : ∀ w w' : World, J0 w → Below w.heap.size w w' → J0 w' := fun w w' h hb => ⟨Aey w w' h.1 hb, by
 obtain ⟨m, hm⟩ := h.2
 have hlt := World.block_lt_of_cell? _ _ hm
 refine ⟨m, ?_⟩
 rw [← hm]
 simp only [World.cell?]
 rw [hb.block _ hlt]⟩
set_option maxHeartbeats 1000000 in
set_option maxRecDepth 1000000 in
theorem Acl (s : ByteArray) (w : World) (hs : s.size ≤ 9223372036854775807) (hT : JT w) :
  Calls Tryz.prog 93 #[.string s] w fun e w' => e = .returned (.bool (U9 s)) ∧ Below w.heap.size w w' := by
 have cV : ∀ w, JT w → Calls Tryz.prog 116 #[.string s] w _ := fun w hT => Any.utf8_ValidString Tryz.laysValid s w hs hT
 unfold U9
 generalize hV : Lib.validD s.data.toList = V at cV ⊢
 have bel : ∀ pos, Below w.heap.size w (w.iter s pos) := fun pos => (Below.refl _ w).alloc (zak _) _
 go_enter Tryz.func93, Tryz.ntmps93
 go_wp2
 go_loopw [] (fun w' => ∃ (pos b : Nat), w' = w.iter s pos ∧ noZ b (s.data.toList.drop pos) = noZ s.size s.data.toList ∧ s.size ≤ pos + b) (fun w' => s.size - w'.iterPos w.heap.size)
 case atStart => exact ⟨0, s.size, rfl, by simp, by omega⟩
 case round =>
  obtain ⟨pos, b, rfl, hc, hb⟩ := hrel
  by_cases hp : pos < s.size
  ·have hnx : ∀ ty, (Instr.next (.pointer (some ⟨w.heap.size, 0, none⟩)) true ty).run Tryz.prog (w.iter s pos) = _ := fun ty => run_next_any w s pos ty hp
   have hdd := Lib.decodeL_drop s pos
   have hwd : 1 ≤ (Utf8.decode s pos).2 := by rw [← hdd]; exact Lib.decodeL_width _
   obtain ⟨b, rfl⟩ : ∃ b', b = b' + 1 := ⟨b - 1, by omega⟩
   have hne : s.data.toList.drop pos ≠ [] := by
    intro h
    have := congrArg List.length h
    simp at this
    omega
   rw [noZ, if_neg hne, hdd] at hc
   by_cases hz : (Utf8.decode s pos).1 = 0
   ·rw [if_pos hz] at hc
    have hz' : (((Utf8.decode s pos).1 : Int) == 0) = true := by simp [hz]
    go_wp2
    go_ret
    rw [← hc]
    exact ⟨by simp, bel _⟩
   ·rw [if_neg hz, zaV] at hc
    have hz' : (((Utf8.decode s pos).1 : Int) == 0) = false := by simp; omega
    go_wp2
    go_roundw
    case rel => exact ⟨pos + (Utf8.decode s pos).2, b, rfl, hc, by omega⟩
    case measure =>
     simp
     omega
  ·have hnx : ∀ ty, (Instr.next (.pointer (some ⟨w.heap.size, 0, none⟩)) true ty).run Tryz.prog (w.iter s pos) = _ := fun ty => run_next_end w s pos ty hp
   have hnil : s.data.toList.drop pos = [] := by
    apply zbe
    simp
    omega
   have hc2 : noZ s.size s.data.toList = true := by
    rw [← hc, hnil]
    cases b <;> simp [noZ]
   rw [hc2]
   have cV2 := cV (w.iter s pos) (Utf8Tabs_below hT (bel pos))
   go_wp2_with (go_at_call 116; refine cV2.mono ?_; rintro e w' ⟨rfl, hb2⟩)
   all_goals
    go_ret
    refine ⟨?_, (bel pos).trans (hb2.mono (bel pos).size)⟩
   ·simp_all
    omega
   ·simp_all
theorem U3 : ∀ (n : Nat) (l : List UInt8), M1 n l = (noZ n l && Lib.validGoD n l)
 | 0, _ => rfl
 | n + 1, l => by
  rw [M1, noZ, Lib.validGoD, U3 n]
  by_cases h : l = []
  ·simp [h]
  ·by_cases h1 : (Lib.decodeL l).1 = 65533 ∧ (Lib.decodeL l).2 = 1
   ·simp [h, h1]
   ·by_cases h2 : (Lib.decodeL l).1 = 0
    ·simp [h, h2]
    ·simp [h, h1, h2]
theorem Ac1 (s : ByteArray) : U9 s = F7 s := by
 have e : s.data.toList.length = s.size := by simp
 unfold U9 F7 Lib.validD
 rw [U3, e]
 cases noZ s.size s.data.toList <;> cases Lib.validGoD s.size s.data.toList <;> simp
theorem AjI {c : ByteArray} (h : c.data.toList = [43, 35]) : c = phB := by
 cases c with
 | mk d =>
  have : d = #[43, 35] := by apply zbn; simpa using h
  subst this
  rfl
theorem Ai0 {c : ByteArray} (h : c.data.toList = [47]) : c = Td := by
 cases c with
 | mk d =>
  have : d = #[47] := by apply zbn; simpa using h
  subst this
  rfl
theorem AeF : (Tryz.prog.info? (Tryz.laysAny_ren.t 116)).map (fun i => (i.zero, i.size)) = some (some (.agg (zbz 256 (.bool false))), 256) := by kernel_rfl
theorem hi9 : (Tryz.prog.info? (Tryz.laysSplit_ren.t 9)).map (fun i => (i.zero, i.size, i.bytes)) = some (some (.string ByteArray.empty), 1, 16) := by kernel_rfl
theorem AfV {w w' : World} (hb : Below w.heap.size w w') : HR w F1 w' [] := by
 refine ⟨hb, ?_, ?_, ?_, ?_⟩
 ·intro i k b o sz hi
  cases hi
 ·intro i k hi
  cases hi
 ·intro i i' k k' b o sz o' sz' hi
  cases hi
 ·intro i p hp
  cases hp
theorem Aam {w w' : World} (hb : Below w.heap.size w w') (ty : Nat) (v : Value) : ∃ φ' Hc x ids, HR w φ' w' Hc ∧ VR w φ' x v ∧ B4 E0.ti E0.tp Hc 8 ty x = some (.sc v, ids) ∧ ids.Nodup :=
 ⟨F1, [], .sc v, [], AfV hb, Ft _ _ _, rfl, zb3⟩
theorem Xj {ti : Nat → Option TI} {tp : Nat → Option (List Nat)} {H : Ab} {d : Nat} : ∀ (ts : List Nat) (l : List Value), ts.length = l.length → Cg (B4 ti tp H (d + 1)) ts (l.map AV.sc) = some (l.map AV.sc, [])
 | [], [], _ => rfl
 | t :: ts, v :: l, h => by
  have ih := Xj (ti := ti) (tp := tp) (H := H) (d := d) ts l (by simpa using h)
  simp only [zau, Cg, ih, zab]
  rfl
theorem Agn {ti : Nat → Option TI} {tp : Nat → Option (List Nat)} {H : Ab} {d ty id off n z : Nat} : B4 ti tp H (d + 1) ty (.sl id off n z) = (ti ty).bind fun i => (ti i.elem).bind fun j => if z = j.size then (if Ga H id then (Ax H id off (n * z)).bind fun cs => (Cg (B4 ti tp H d) (zad n j.cty).flatten cs).bind fun q => some (.ro n q.1, id :: q.2) else none) else none := rfl
theorem Ac9 (w : World) (l : List ByteArray) (e : TypeId) : ∃ φ' Hc x ids, HR w φ' (w.alloc (.cells (l.map Value.string).toArray e)) Hc ∧ VR w φ' x (.slice (some ⟨w.heap.size, 0, none⟩) l.length l.length) ∧
  B4 E0.ti E0.tp Hc 8 38 x = some (.ro l.length (l.map fun s => .sc (.string s)), ids) ∧ ids.Nodup := by
 have hcs : VRs w F1 ((l.map Value.string).map AV.sc) (fun j => (l.map Value.string).toArray[0 + j]?) := by
  rw [Cy]
  intro j x hj
  rw [zaZ] at hj
  obtain ⟨v, hv, rfl⟩ := zaT.1 hj
  exact ⟨v, by simpa using hv, Ft _ _ _⟩
 obtain ⟨h1, h2⟩ := (HR.start w).alloc (E7 w (.cells (l.map Value.string).toArray e)) (b := w.heap.size) (o := 0) (k := ⟨(l.map Value.string).map AV.sc, true, true⟩) (zak _) (K6 w _) (by simp) (fun _ => rfl) (.inl rfl) hcs
 refine ⟨_, _, .sl 0 0 l.length 1, [0], h1, ?_, ?_, by simp⟩
 ·rw [VR]
  refine .inr ⟨w.heap.size, 0, _, Eo _ _ _, .inr ⟨l.length, zak _, rfl, ?_⟩⟩
  simp
 ·rw [Agn]
  have hr : Ax ([] ++ [⟨(l.map Value.string).map AV.sc, true, true⟩]) 0 0 (l.length * 1) = some ((l.map Value.string).map AV.sc) := by
   simp [Ax, zbv]
  have e1 : E0.ti 38 = Ar 38 := rfl
  obtain ⟨i, j, hi, hj, hz, hc⟩ : ∃ i j, Ar 38 = some i ∧ Ar i.elem = some j ∧ j.size = 1 ∧ j.cty = [i.elem] := ⟨_, _, rfl, rfl, rfl, rfl⟩
  simp only [e1, hi, zab, show E0.ti i.elem = some j from hj, hz, if_true, hr, hc]
  have ho := Xj (ti := E0.ti) (tp := E0.tp) (H := [] ++ [⟨(l.map Value.string).map AV.sc, true, true⟩]) (d := 6) (zad l.length [i.elem]).flatten (l.map Value.string) (by simp)
  rw [ho]
  have ha : Ga ([] ++ [(⟨(l.map Value.string).map AV.sc, true, true⟩ : Hf)]) 0 = true := rfl
  rw [if_pos ha]
  simp [List.map_map]
theorem Acw (s : ByteArray) (w : World) (hs : s.size < 4294967281) : Calls Tryz.prog 94 #[.string s, .string phB] w fun e w' => e = .returned (.bool (vPH s)) ∧ Below w.heap.size w w' :=
 Wj Tryz.laysAny (zero_of_info AeF).1 (zero_of_info AeF).2 s w hs
theorem Z2 (s : ByteArray) (w : World) (hs : s.size < 4294967281) (hm : ∃ m, w.cell? ⟨Tryz.laysSplit_ren.g 1, 0, none⟩ = some (.int .i64 m)) : Calls Tryz.prog 118 #[.string s, .string Td] w fun e w' =>
  e = .returned (.slice (some ⟨w.heap.size, 0, none⟩) (Ek s).length (Ek s).length) ∧ w' = w.alloc (.cells ((Ek s).map Value.string).toArray (Tryz.laysSplit_ren.t 9)) := by
 obtain ⟨m, hm⟩ := hm
 have h := Any.strings_Split Tryz.laysSplit hi9 s Td m w hs hm (zak _)
 rw [Pf, ← Zo] at h
 exact h
theorem Agj {w : World} {x : Value} {us : List Value} (hl : us.length = 1) (hv : VRs w F1 [.sc x] (fun j => us[j]?)) : us = [x] := by
 match us, hl with
 | [y], _ =>
  rw [VRs] at hv
  obtain ⟨⟨u, hu, hv⟩, _⟩ := hv
  rw [VR] at hv
  simp at hu
  rw [hu, hv]
theorem X3 {w : World} {x y : Value} {us : List Value} (hl : us.length = 2) (hv : VRs w F1 [.sc x, .sc y] (fun j => us[j]?)) : us = [x, y] := by
 match us, hl with
 | [a, b], _ =>
  rw [VRs, VRs] at hv
  obtain ⟨⟨u, hu, hv⟩, ⟨u2, hu2, hv2⟩, _⟩ := hv
  rw [VR] at hv hv2
  simp at hu hu2
  rw [hu, hv, hu2, hv2]
theorem Akj : Ag6 Tryz.prog E0 J0 := by
 intro f g hg w hj ty vs us t hl hv ht
 have hf : E0.ext f = if zby f 93 then some Aal else if zby f 94 then some Wo else if zby f 118 then some Ps else none := rfl
 rw [hf] at hg
 split at hg
 ·rename_i hfe
  obtain rfl := zaW hfe
  cases hg
  unfold Aal at ht
  split at ht
  case h_2 => cases ht
  rename_i s
  split at ht
  case isFalse => cases ht
  rename_i hs
  cases ht
  have hm : maxLen = 9223372036854775807 := by decide
  rw [hm] at hs
  obtain rfl := Agj hl hv
  refine .inr ⟨enters_of Tryz.func93 (by kernel_rfl) rfl _ _, (Acl s w hs hj.1).mono fun e w' ⟨he, hb⟩ => ⟨_, he, ?_⟩⟩
  rw [Ac1]
  exact Aam hb _ _
 split at hg
 ·rename_i hfe
  obtain rfl := zaW hfe
  cases hg
  unfold Wo at ht
  split at ht
  case h_2 => cases ht
  rename_i s c
  split at ht
  case isFalse => cases ht
  rename_i hs
  cases ht
  obtain rfl := X3 hl hv
  obtain ⟨hc, hs⟩ := hs
  obtain rfl := AjI hc
  exact .inr ⟨enters_of Tryz.func94 (by kernel_rfl) rfl _ _, (Acw s w hs).mono fun e w' ⟨he, hb⟩ => ⟨_, he, Aam hb _ _⟩⟩
 split at hg
 ·rename_i hfe
  obtain rfl := zaW hfe
  cases hg
  unfold Ps at ht
  split at ht
  case h_2 => cases ht
  rename_i s c
  split at ht
  case isFalse => cases ht
  rename_i hs
  cases ht
  obtain rfl := X3 hl hv
  obtain ⟨rfl, hc, hs⟩ := hs
  obtain rfl := Ai0 hc
  exact .inr ⟨enters_of Tryz.func118 (by kernel_rfl) rfl _ _, (Z2 s w hs hj.2).mono fun e w' ⟨he, hw⟩ => ⟨_, he, by subst hw; exact Ac9 w (Ek s) _⟩⟩
 ·cases hg
end YtdofipeaomgbbaaGreatDoor.Abs
end Go.Proofs
set_option linter.unusedVariables false
set_option linter.unusedSimpArgs false
namespace Go.Proofs.YtdofipeaomgbbaaGreatDoor.Abs
open _root_.Option renaming bind_eq_some_iff → zaa, bind_some → zab, getD_some → zaC, map_eq_some_iff → zaT, bind_eq_bind → zaX, pure_def → zbl
open _root_.List renaming getElem?_eq_some_iff → zac, replicate → zad, getElem?_append_right → zae, getElem?_append_left → zaf, length_append → zag, nil_append → zah, append_assoc → zaj, getElem?_eq_getElem → zam, append_nil → zan, length_singleton → zao, mem_append_right → zap, cons_append → zar, mem_append_left → zas, mem_cons_of_mem → zat, map_cons → zau, length_cons → zav, flatten_append → zax, length_nil → zay, take_length → za0, getElem?_set_ne → za1, mem_cons → za2, all_eq_true → za3, map_append → za5, length_take → za6, mem_cons_self → za8, drop_zero → zaA, replicate_append_replicate → zaB, flatten_cons → zaE, length_drop → zaF, nodup_cons → zaH, not_mem_nil → zaI, mem_append → zaJ, take_append_drop → zaL, nodup_append → zaP, mem_range'_1 → zaQ, getElem?_drop → zaR, getElem?_take_of_lt → zaU, drop_drop → zaV, getElem?_map → zaZ, mapM_cons → zba, nodup_range' → zbb, drop_eq_getElem_cons → zbc, drop_of_length_le → zbe, getElem?_set_self → zbf, any_cons → zbg, length_set → zbh, all_cons → zbj, range' → zbk, drop_append_of_le_length → zbo, getElem?_cons_zero → zbp, map_nil → zbs, take_of_length_le → zbv, Perm → zb1, take_append_of_le_length → zb2, nodup_nil → zb3, length_eq_one_iff → zb4, mem_singleton → zb6, mem_iff_getElem? → zb7, mem_map → zb8, headD_cons → zbB, length_map → zbC, getD_eq_getElem?_getD → zbD, mem_of_getElem? → zbF, tail_cons → zbG, drop_take → zbH, take_take → zbI, getElem_mem → zbJ, take_zero → zbM
open _root_.Bool renaming and_eq_true → zai, false_eq_true → zal, eq_iff_iff → zbi, or_eq_false_iff → zbE
open _root_.Nat renaming le_refl → zak, zero_add → zaw, mul_le_mul_right → za7, min_eq_left → zaK, add_mul → zaM, zero_le → zaN, sub_self → zaO, add_assoc → zaS, eq_of_beq_eq_true → zaW, add_zero → zbd, add_sub_cancel_left → zbr, one_mul → zbt, beq → zby, add_comm → zbK, succ_mul → zbN
open _root_.Array renaming ext' → zbn, replicate → zbz
open _root_.Int renaming natCast_zero → zaY, toNat_natCast → zbm
section
open Go Go.RowKit
variable {P : Program} {β : Type}
def Z9 (w w' : World) (b : Nat) : Prop := (w'.os = w.os ∧ w'.tape = w.tape ∧ w'.output = w.output ∧ w'.heap.size = w.heap.size) ∧ ∀ c, c ≠ b → w'.heap[c]? = w.heap[c]?
def Yd (P : Program) (f : FuncId) (sz : Nat) : Prop :=
 ∀ (w : World) (b o n c i j : Nat) (arr : Array Value) (e : TypeId), w.heap[b]? = some (.cells arr e (0, 0)) → n ≤ c → o + c * sz ≤ arr.size → i < j → j ≤ n → (∀ q z, o ≤ q → q < o + n * sz → arr[q]? = some z → z.oneCell' = true) →
  (callFunc f #[.slice (some ⟨b, o, none⟩) n c, .int .i64 i, .int .i64 j]).run P w = .ok (.enter f #[.slice (some ⟨b, o, none⟩) n c, .int .i64 i, .int .i64 j]) w ∧
  Calls P f #[.slice (some ⟨b, o, none⟩) n c, .int .i64 i, .int .i64 j] w fun ex w' => ex = .returned (.slice (some ⟨b, o, none⟩) (n - (j - i)) c) ∧ Z9 w w' b ∧
   ∃ arr', w'.heap[b]? = some (.cells arr' e (0, 0)) ∧ arr'.size = arr.size ∧ ∀ q, q < (n - (j - i)) * sz → arr'[o + q]? = if q < i * sz then arr[o + q]? else arr[o + (q + (j - i) * sz)]?
theorem Abe {f : FuncId} {sz : Nat} (hraw : Yd P f sz) {w0 : World} {φ : Dw} {w : World} {H : Ab} (hr : HR w0 φ w H) {x i j : AV} {us : List Value} (hl : us.length = 3) (ha : VRs w0 φ [x, i, j] (fun q => us[q]?)) {k : KO β} {r : β}
  (h : Ae8 sz x i j H k = some r) : (callFunc f us.toArray).run P w = .ok (.enter f us.toArray) w ∧ Calls P f us.toArray w fun ex w' => ∃ u, ex = .returned u ∧ Left w0 φ k r u w' := by
 unfold Ae8 at h
 split at h
 case h_2 => cases h
 rename_i id off n z a b
 split at h
 case isFalse => cases h
 rename_i hc
 obtain ⟨rfl, ha0, hab, hbn⟩ := hc
 simp only [zaa] at h
 obtain ⟨cx, hcx, h⟩ := h
 split at h
 case isFalse => cases h
 rename_i hlf
 simp only [L5, zaa] at h
 obtain ⟨H1, ⟨k0, hk0, hki⟩, h⟩ := h
 split at hki
 case isFalse => cases hki
 rename_i happ
 cases hki
 simp only [VRs] at ha
 obtain ⟨⟨u0, e0, v0⟩, ⟨u1, e1, v1⟩, ⟨u2, e2, v2⟩, _⟩ := ha
 obtain ⟨x0, x1, x2, rfl⟩ : ∃ x0 x1 x2, us = [x0, x1, x2] := by
  match us, hl with
  | [a, b, c], _ => exact ⟨_, _, _, rfl⟩
 cases e0
 cases e1
 cases e2
 rw [VR] at v0
 rw [show VR w0 φ (.sc (.int .i64 a)) u1 = (u1 = .int .i64 a) from by rw [VR]] at v1
 rw [show VR w0 φ (.sc (.int .i64 b)) u2 = (u2 = .int .i64 b) from by rw [VR]] at v2
 subst v1 v2
 unfold Ax at hcx
 rw [hk0] at hcx
 simp only at hcx
 split at hcx
 case isFalse => cases hcx
 rename_i hlv
 split at hcx
 case isFalse => cases hcx
 rename_i hle
 cases hcx
 rcases v0 with ⟨_, _, hn0, _⟩ | ⟨bk, o, s, hp, hx⟩
 omega
 rcases hx with ⟨hn0, _⟩ | ⟨c, hnc, rfl, hfit⟩
 omega
 obtain ⟨hbw, arr, e, fr, q1, q2, q3, q4, q5, q6⟩ := hr.blk id k0 bk o s hk0 hlv hp
 have hfr := q4 happ
 subst hfr
 have ea : a = ((a.toNat : Nat) : Int) := by omega
 have eb : b = ((b.toNat : Nat) : Int) := by omega
 rw [ea, eb]
 have hz0 : 0 ≤ z := zaN _
 rw [Cy] at q6
 obtain ⟨g1, g2⟩ := hraw w bk (o + off) n c a.toNat b.toNat arr e q1 hnc (by omega) (by omega) (by omega) (by
  intro q v hq1 hq2 hv
  have hlt : q - (o + off) < ((k0.cells.drop off).take (n * z)).length := by simp; omega
  have hm := za3.1 hlf _ (zbJ hlt)
  obtain ⟨uu, f1, f2⟩ := q6 (off + (q - (o + off))) _ (by
   have := zam hlt
   rw [zaU (by omega), zaR] at this
   exact this)
  rw [show o + (off + (q - (o + off))) = q by omega, hv] at f1
  cases f1
  exact Lc (Ra f2 hm))
 refine ⟨g1, g2.mono fun ex w' ⟨hex, hin, arr', r1, r2, r3⟩ => ⟨_, hex, ?_⟩⟩
 have hmul : (b.toNat - a.toNat) * z ≤ n * z := za7 _ (by omega)
 have hlen : ((k0.cells.drop off).take (n * z)).length = n * z := by simp; omega
 have haz : a.toNat * z ≤ n * z := za7 _ (by omega)
 have hbz : b.toNat * z ≤ n * z := za7 _ (by omega)
 have habz : a.toNat * z + (b.toNat - a.toNat) * z = b.toNat * z := by rw [← zaM]; congr 1; omega
 have hsz : (n - (b.toNat - a.toNat)) * z + (b.toNat - a.toNat) * z = n * z := by rw [← zaM]; congr 1; omega
 have hcz : n * z ≤ c * z := za7 _ hnc
 have hba : (b - a).toNat = b.toNat - a.toNat := by omega
 rw [hba] at h
 obtain ⟨a1, a2⟩ := hr.adopt hk0 hlv hp hin.1 hin.2 (k' := ⟨((k0.cells.drop off).take (n * z)).take (a.toNat * z) ++ ((k0.cells.drop off).take (n * z)).drop (b.toNat * z), true, true⟩) (o' := o + off) (w' := w')
  ⟨hbw, arr', e, _, r1, by omega, by simp only [zag, za6, zaF]; omega, fun _ => rfl, .inl rfl, by
   rw [Cy]
   intro q y hq
   have hlt := (zac.1 hq).1
   simp only [zag, za6, zaF] at hlt
   have hq' : q < (n - (b.toNat - a.toNat)) * z := by omega
   by_cases hqa : q < a.toNat * z
   rw [zaf (by rw [za6, hlen]; omega), zaU hqa, zaU (by omega), zaR] at hq
   obtain ⟨uu, f1, f2⟩ := q6 _ y hq
   refine ⟨uu, ?_, f2⟩
   rw [r3 q hq', if_pos hqa, ← f1]
   congr 1
   omega
   rw [zae (by rw [za6, hlen]; omega), za6, hlen, zaK haz, zaR, zaU (by omega), zaR] at hq
   obtain ⟨uu, f1, f2⟩ := q6 _ y hq
   refine ⟨uu, ?_, f2⟩
   rw [r3 q hq', if_neg hqa, ← f1]
   congr 1
   omega⟩
 unfold Fg at h
 rw [zbh] at h
 refine ⟨_, _, _, h, Hk hr.fresh, a1, ?_⟩
 rw [VR]
 exact .inr ⟨_, _, _, Eo _ _ _, .inr ⟨c, by omega, rfl, hfit⟩⟩
theorem Ai5 {f : FuncId} {sz bt : Nat} (hraw : Yd P f sz) {w0 : World} {φ : Dw} {w : World} {H : Ab} {args : List AV} {us : List Value} {k : KO β} {r : β} (h : pXk (false, sz, bt) args H k = some r) (hr : HR w0 φ w H) (hl : us.length = args.length) (ha : VRs w0 φ args (fun q => us[q]?)) :
  (callFunc f us.toArray).run P w = .ok (.enter f us.toArray) w ∧ Calls P f us.toArray w fun ex w' => ∃ u, ex = .returned u ∧ Left w0 φ k r u w' := by
 unfold pXk at h
 split at h
 exact Abe hraw hr hl ha h
 rename_i e
 cases e
 cases h
theorem Q2 {t ty : TypeId} {i j : TI} (ht : TOk P t i) (hs : i.sl = true) (hj : TOk P i.elem j) (w : World) (b o n c : Nat) (hn : 0 < n) (arr : Array Value) (e : TypeId) (hh : w.heap[b]? = some (.cells arr e (0, 0))) (hle : o + n * j.size ≤ arr.size) :
  ∃ zs : List Value, zs.length = n * j.size ∧ (Builtin.clear_ #[t] ty #[.slice (some ⟨b, o, none⟩) n c]).run P w = .ok (.tuple #[]) (w.setCells b o zs) := by
 have hun := run_underlying (Ee ht hs) w
 obtain ⟨inf, hi, e1, e2, z, hz1, hz2⟩ := hj.info
 obtain ⟨z', hz', hzc⟩ := Kz hj w
 have hzs : z'.cells.size = j.size := by rw [← hj.zsz, ← hzc]; simp
 have hzc' : Builtin.zeroCells z'.cells n = madeCells z'.cells (n * j.size) := by rw [← hzs]; rfl
 have hlen : (Builtin.zeroCells z'.cells n).toList.length = n * j.size := by rw [hzc']; simp [size_madeCells]
 have hst := run_storeCells_cells (P := P) b o (Builtin.zeroCells z'.cells n).toList 0 w
  (fun q hq => by
   have hlt : o + q < arr.size := by omega
   simp [World.cell?, hh, hlt])
  (fun q hq => by simp [World.frozen?, hh])
  (fun v hv => by
   refine Lc ?_
   rw [hzc'] at hv
   simp only [madeCells, Array.toList_map, zb8] at hv
   obtain ⟨q, _, rfl⟩ := hv
   have hm : q % z'.cells.size < z'.cells.size := Nat.mod_lt _ (by rw [hzs]; exact hj.spos)
   rw [getElem!_pos z'.cells _ hm]
   refine hj.zlf _ ?_
   rw [← hzc]
   simp)
 simp only [zbd] at hst
 obtain ⟨n, rfl⟩ : ∃ m, n = m + 1 := ⟨n - 1, by omega⟩
 exact ⟨_, hlen, by simp [Builtin.clear_, hun, hz', hst]⟩
end
section
open Go Go.RowKit
set_option maxHeartbeats 4000000 in
set_option maxRecDepth 1000000 in
theorem Akg {i j : TI} (ht : TOk Tryz.prog 24 i) (hs : i.sl = true) (hj : TOk Tryz.prog i.elem j) (he : i.elem = 35) (hw : j.size = 6) : Yd Tryz.prog 63 6 := by
 intro w b o n c x y arr e hh hnc hfit hxy hyn hone
 refine ⟨?_, ?_⟩
 have hrun : ∀ w, (program).run Tryz.prog w = .ok Tryz.prog w := fun _ => rfl
 have h1 : Tryz.prog.funcs[63]? = some _ := Tryz.func63
 have h2 : (Tryz.f63.name == "runtime.NumGoroutine") = false := by kernel_rfl
 have h3 : Tryz.f63.body.isNone = false := by kernel_rfl
 simp only [callFunc, Sem.run_bind, hrun, Result.andThen_ok, h1, h2, h3, zal, if_false, Sem.run_pure]
 obtain ⟨inf, hi, e1, e2, z, hz1, hz2⟩ := hj.info
 rw [hw] at e1
 have ht22 := Ee ht hs
 obtain ⟨news, hnews⟩ : ∃ news, news = (arr.toList.drop (o + y * 6)).take ((n - y) * 6) := ⟨_, rfl⟩
 have hcs : n * 6 ≤ c * 6 := za7 _ hnc
 have hys : y * 6 ≤ n * 6 := za7 _ hyn
 have hxs : x * 6 < y * 6 := Nat.mul_lt_mul_of_pos_right hxy (by decide)
 have hny : (n - y) * 6 + y * 6 = n * 6 := by rw [← zaM]; congr 1; omega
 have hlen : news.length = (n - y) * 6 := by rw [hnews]; simp; omega
 have hget : ∀ t, t < (n - y) * 6 → news[t]? = arr[o + (y * 6 + t)]? := by
  intro t ht
  rw [hnews, zaU ht, zaR, Array.getElem?_toList]
  congr 1
  omega
 obtain ⟨A, hA, hsrc⟩ : ∃ A : Addr, (if c = y then some (⟨b, o, none⟩ : Addr) else some ⟨b, o + y * 6, none⟩) = some A ∧ Hid (∀ t u, news[t]? = some u → w.drew.cell? (A.add t) = some u) := by
  by_cases h : c = y
  refine ⟨⟨b, o, none⟩, by simp [h], fun t u hu => ?_⟩
  have h0 : news.length = 0 := by rw [hlen, show n - y = 0 by omega, Nat.zero_mul]
  rw [List.length_eq_zero_iff.1 h0] at hu
  simp at hu
  refine ⟨⟨b, o + y * 6, none⟩, by simp [h], fun t u hu => ?_⟩
  have ht : t < (n - y) * 6 := by
   have := (zac.1 hu).1
   rwa [hlen] at this
  rw [hget t ht] at hu
  rw [Addr.add_lit]
  show w.cell? _ = _
  simp only [World.cell?, hh]
  rw [← hu, if_neg (by simp), zaS]
 have s1 : Hid (news.length = (n - y) * 6) := hlen
 have s2 : Hid (∀ u ∈ news, u.oneCell' = true) := by
  intro u hu
  obtain ⟨q, hq⟩ := zb7.1 hu
  have hlt : q < (n - y) * 6 := by rw [← hlen]; exact (zac.1 hq).1
  rw [hget q hlt] at hq
  exact hone _ u (by omega) (by omega) hq
 have s3 : Hid (∀ t, t < news.length → (w.drew.cell? ⟨b, o + x * 6 + t, none⟩).isSome = true ∧ w.drew.frozen? ⟨b, o + x * 6 + t, none⟩ = false) := by
  intro t ht
  rw [hlen] at ht
  have hlt : o + x * 6 + t < arr.size := by omega
  constructor
  show (w.cell? _).isSome = true
  simp [World.cell?, hh, hlt]
  show w.frozen? _ = false
  simp [World.frozen?, hh]
 obtain ⟨W1, hW1⟩ : ∃ W1, W1 = w.drew.setCells b (o + x * 6) news := ⟨_, rfl⟩
 obtain ⟨arr1, g1, g2, g3⟩ := Hp b e (0, 0) news (o + x * 6) w.drew arr hh (by omega)
 rw [← hW1] at g1
 have hcl : ∀ ty, ∃ zs : List Value, zs.length = (n - (x + (n - y))) * 6 ∧ (Builtin.clear_ #[24] ty #[.slice (some ⟨b, o + (x + (n - y)) * 6, none⟩) (n - (x + (n - y))) (c - (x + (n - y)))]).run Tryz.prog W1 = .ok (.tuple #[]) (W1.setCells b (o + (x + (n - y)) * 6) zs) :=
  fun ty => hw ▸ Q2 ht hs hj W1 b _ _ _ (by omega) arr1 e g1 (by
   rw [hw]
   have : (x + (n - y)) * 6 + (n - (x + (n - y))) * 6 = n * 6 := by rw [← zaM]; congr 1; omega
   omega)
 obtain ⟨zs, hzl, hcl⟩ := hcl 0
 have hW : Hid (W1 = w.drew.setCells b (o + x * 6) news) := hW1
 have hic : x ≤ c := by omega
 have hjc : y ≤ c := by omega
 have hne : ¬ x = y := by omega
 have hcol : (n - (y - x)) * 6 = (x + (n - y)) * 6 := by congr 1; omega
 have hsum : x * 6 + (n - y) * 6 = (x + (n - y)) * 6 := by omega
 have hK : Hid (Z9 w W1 b ∧ W1.heap[b]? = some (.cells arr1 e (0, 0)) ∧ arr1.size = arr.size ∧ zs.length = (n - (x + (n - y))) * 6 ∧ ∀ q, q < (n - (y - x)) * 6 → arr1[o + q]? = if q < x * 6 then arr[o + q]? else arr[o + (q + (y - x) * 6)]?) := by
  refine ⟨?_, g1, g2, hzl, fun q hq => ?_⟩
  obtain ⟨s1, s2, s3, s4⟩ := Gv b news (o + x * 6) w.drew
  rw [hW1]
  exact ⟨⟨s1, s2, s3, s4⟩, fun c hc => Fi b news _ w.drew c hc⟩
  rw [g3 (o + q), hlen]
  by_cases hqx : q < x * 6
  rw [if_neg (by omega), if_pos hqx]
  rw [if_pos (by omega), if_neg hqx, hget _ (by omega)]
  congr 1
  omega
 rw [he] at ht22 hi
 clear hW1 hget hnews hlen hone hh g1 g2 g3 hxs hny hys hcs hzl hcol hsum
 go_enter Tryz.func63, Tryz.ntmps63
 go_wp2_with fail
 go_region_law (refine step_append_room rfl (.tmp 22) (.tmp 25) 24 rfl 35 inf 6 ht22 hi e1 b o x c (by simp [Act.eval, Act.put]) A (n - y) (c - y) news (by simp [Act.eval, Act.put]) s1.out hsrc.out s2.out (by omega) s3.out ?_; rw [← hW.out])
 go_wp2
 go_ret
 obtain ⟨k1, k2, k3, k4, k5⟩ := hK.out
 have hcol : (x + (n - y)) * 6 + (n - (x + (n - y))) * 6 = n * 6 := by omega
 have hnc6 : n * 6 ≤ c * 6 := za7 _ hnc
 obtain ⟨s1, s2, s3, s4⟩ := Gv b zs (o + (x + (n - y)) * 6) W1
 obtain ⟨arr2, m1, m2, m3⟩ := Hp b e (0, 0) zs (o + (x + (n - y)) * 6) W1 arr1 k2 (by omega)
 refine ⟨by rw [show n - (y - x) = x + (n - y) by omega]; rfl, ⟨⟨s1.trans k1.1.1, s2.trans k1.1.2.1, s3.trans k1.1.2.2.1, s4.trans k1.1.2.2.2⟩, fun c hc => (Fi b zs _ W1 c hc).trans (k1.2 c hc)⟩, arr2, m1, m2.trans k3, fun q hq => ?_⟩
 rw [m3 (o + q), if_neg (by omega)]
 exact k5 q hq
theorem xkP (hT : Id Tryz.prog Ar) : Ai7 Tryz.prog E0 := by
 intro f q hq β w0 φ w H args us k r h hr hl ha
 have hq : (if zby f 63 then some (false, 6, 72) else none) = some q := hq
 split at hq
 rename_i hf
 obtain rfl := zaW hf
 cases hq
 exact Ai5 (Akg (hT _ _ rfl) rfl (hT _ _ rfl) rfl rfl) h hr hl ha
 cases hq
end
end Go.Proofs.YtdofipeaomgbbaaGreatDoor.Abs
set_option maxRecDepth 100000
namespace Go.Proofs.YtdofipeaomgbbaaGreatDoor.Abs
open _root_.Option renaming bind_eq_some_iff → zaa, bind_some → zab, getD_some → zaC, map_eq_some_iff → zaT, bind_eq_bind → zaX, pure_def → zbl
open _root_.List renaming getElem?_eq_some_iff → zac, replicate → zad, getElem?_append_right → zae, getElem?_append_left → zaf, length_append → zag, nil_append → zah, append_assoc → zaj, getElem?_eq_getElem → zam, append_nil → zan, length_singleton → zao, mem_append_right → zap, cons_append → zar, mem_append_left → zas, mem_cons_of_mem → zat, map_cons → zau, length_cons → zav, flatten_append → zax, length_nil → zay, take_length → za0, getElem?_set_ne → za1, mem_cons → za2, all_eq_true → za3, map_append → za5, length_take → za6, mem_cons_self → za8, drop_zero → zaA, replicate_append_replicate → zaB, flatten_cons → zaE, length_drop → zaF, nodup_cons → zaH, not_mem_nil → zaI, mem_append → zaJ, take_append_drop → zaL, nodup_append → zaP, mem_range'_1 → zaQ, getElem?_drop → zaR, getElem?_take_of_lt → zaU, drop_drop → zaV, getElem?_map → zaZ, mapM_cons → zba, nodup_range' → zbb, drop_eq_getElem_cons → zbc, drop_of_length_le → zbe, getElem?_set_self → zbf, any_cons → zbg, length_set → zbh, all_cons → zbj, range' → zbk, drop_append_of_le_length → zbo, getElem?_cons_zero → zbp, map_nil → zbs, take_of_length_le → zbv, Perm → zb1, take_append_of_le_length → zb2, nodup_nil → zb3, length_eq_one_iff → zb4, mem_singleton → zb6, mem_iff_getElem? → zb7, mem_map → zb8, headD_cons → zbB, length_map → zbC, getD_eq_getElem?_getD → zbD, mem_of_getElem? → zbF, tail_cons → zbG, drop_take → zbH, take_take → zbI, getElem_mem → zbJ, take_zero → zbM
open _root_.Bool renaming and_eq_true → zai, false_eq_true → zal, eq_iff_iff → zbi, or_eq_false_iff → zbE
open _root_.Nat renaming le_refl → zak, zero_add → zaw, mul_le_mul_right → za7, min_eq_left → zaK, add_mul → zaM, zero_le → zaN, sub_self → zaO, add_assoc → zaS, eq_of_beq_eq_true → zaW, add_zero → zbd, add_sub_cancel_left → zbr, one_mul → zbt, beq → zby, add_comm → zbK, succ_mul → zbN
open _root_.Array renaming ext' → zbn, replicate → zbz
open _root_.Int renaming natCast_zero → zaY, toNat_natCast → zbm
section
open Go
theorem AjO : AeI Tryz.prog 0 tis = true := by kernel_rfl
theorem Ij (E : Me) : ∀ (a b : List (Option E6)), Mh E a = true → Mh E b = true → Mh E (a ++ b) = true
 | [], b, _, h => h
 | x :: a, b, h1, h2 => by
  simp only [zar, Mh, zai] at h1 ⊢
  exact ⟨h1.1, Ij E a b h1.2 h2⟩
theorem Afb : Mh E0 ((fss.drop 0).take 16) = true := by kernel_rfl
theorem Ac2 : Mh E0 ((fss.drop 16).take 16) = true := by kernel_rfl
theorem Ac3 : Mh E0 ((fss.drop 32).take 16) = true := by kernel_rfl
theorem Ac4 : Mh E0 ((fss.drop 48).take 16) = true := by kernel_rfl
theorem Ac5 : Mh E0 ((fss.drop 64).take 16) = true := by kernel_rfl
theorem Ac6 : Mh E0 ((fss.drop 80).take 16) = true := by kernel_rfl
theorem Ac7 : Mh E0 ((fss.drop 96).take 16) = true := by kernel_rfl
theorem Aba : Mh E0 ((fss.drop 112).take 16) = true := by kernel_rfl
theorem Abb : Mh E0 ((fss.drop 128).take 16) = true := by kernel_rfl
theorem AiF : Mh E0 fss = true := by
 have e : fss = (fss.drop 0).take 16 ++ ((fss.drop 16).take 16 ++ ((fss.drop 32).take 16 ++ ((fss.drop 48).take 16 ++ ((fss.drop 64).take 16 ++ ((fss.drop 80).take 16 ++ ((fss.drop 96).take 16 ++ ((fss.drop 112).take 16 ++ ((fss.drop 128).take 16)))))))) := by kernel_rfl
 rw [e]
 exact Ij _ _ _ Afb (Ij _ _ _ Ac2 (Ij _ _ _ Ac3 (Ij _ _ _ Ac4 (Ij _ _ _ Ac5 (Ij _ _ _ Ac6 (Ij _ _ _ Ac7 (Ij _ _ _ Aba (Abb))))))))
theorem Z4 : Id Tryz.prog Ar := by
 intro t i h
 unfold Ar at h
 cases hl : tis[t]? with
 | none => rw [hl] at h; cases h
 | some o =>
  rw [hl] at h
  simp only [zaC] at h
  subst h
  simpa using (V0 tis 0 t i AjO hl).1
theorem AiE : ∀ t i, Ar t = some i → i.ik = some .u8 → i.size = 1 := by
 intro t i h
 unfold Ar at h
 cases hl : tis[t]? with
 | none => rw [hl] at h; cases h
 | some o =>
  rw [hl] at h
  simp only [zaC] at h
  subst h
  exact (V0 tis 0 t i AjO hl).2
def FnQ (n : Nat) (c : Code) (t : Nat) (f : Func) : Prop := ∃ fn, Tryz.prog.funcs[n]? = some fn ∧ (fn.name == "runtime.NumGoroutine") = false ∧ fn.body = some c ∧ fn.ntmps = t ∧ fn.results.toList = f.results.toList
theorem F2 {c : Code} {t : Nat} {f : Func} {o : List (Nat × PI)} {i : E6} {n : Nat} (e : some (some (⟨c, t, f.results.toList, o⟩ : E6)) = some (some i)) (h : FnQ n c t f) : ∃ fn, Tryz.prog.funcs[n]? = some fn ∧ (fn.name == "runtime.NumGoroutine") = false ∧ fn.body = some i.body ∧ fn.ntmps = i.ntmps ∧ fn.results.toList = i.results := by cases e; exact h
theorem Ajz : ∀ (f : Nat) (i : E6), f < 140 → fss[f]? = some (some i) → ∃ fn, Tryz.prog.funcs[f]? = some fn ∧ (fn.name == "runtime.NumGoroutine") = false ∧ fn.body = some i.body ∧ fn.ntmps = i.ntmps ∧ fn.results.toList = i.results
 | 0, i, _, h => nomatch Option.some.inj h
 | 1, i, _, h => nomatch Option.some.inj h
 | 2, i, _, h => nomatch Option.some.inj h
 | 3, i, _, h => F2 (f := Tryz.f3) h ⟨_, Tryz.func3, by kernel_rfl, by kernel_rfl, rfl, rfl⟩
 | 4, i, _, h => nomatch Option.some.inj h
 | 5, i, _, h => nomatch Option.some.inj h
 | 6, i, _, h => nomatch Option.some.inj h
 | 7, i, _, h => F2 (f := Tryz.f7) h ⟨_, Tryz.func7, by kernel_rfl, by kernel_rfl, rfl, rfl⟩
 | 8, i, _, h => F2 (f := Tryz.f8) h ⟨_, Tryz.func8, by kernel_rfl, by kernel_rfl, rfl, rfl⟩
 | 9, i, _, h => F2 (f := Tryz.f9) h ⟨_, Tryz.func9, by kernel_rfl, by kernel_rfl, rfl, rfl⟩
 | 10, i, _, h => F2 (f := Tryz.f10) h ⟨_, Tryz.func10, by kernel_rfl, by kernel_rfl, rfl, rfl⟩
 | 11, i, _, h => F2 (f := Tryz.f11) h ⟨_, Tryz.func11, by kernel_rfl, by kernel_rfl, rfl, rfl⟩
 | 12, i, _, h => F2 (f := Tryz.f12) h ⟨_, Tryz.func12, by kernel_rfl, by kernel_rfl, rfl, rfl⟩
 | 13, i, _, h => F2 (f := Tryz.f13) h ⟨_, Tryz.func13, by kernel_rfl, by kernel_rfl, rfl, rfl⟩
 | 14, i, _, h => F2 (f := Tryz.f14) h ⟨_, Tryz.func14, by kernel_rfl, by kernel_rfl, rfl, rfl⟩
 | 15, i, _, h => F2 (f := Tryz.f15) h ⟨_, Tryz.func15, by kernel_rfl, by kernel_rfl, rfl, rfl⟩
 | 16, i, _, h => F2 (f := Tryz.f16) h ⟨_, Tryz.func16, by kernel_rfl, by kernel_rfl, rfl, rfl⟩
 | 17, i, _, h => F2 (f := Tryz.f17) h ⟨_, Tryz.func17, by kernel_rfl, by kernel_rfl, rfl, rfl⟩
 | 18, i, _, h => F2 (f := Tryz.f18) h ⟨_, Tryz.func18, by kernel_rfl, by kernel_rfl, rfl, rfl⟩
 | 19, i, _, h => F2 (f := Tryz.f19) h ⟨_, Tryz.func19, by kernel_rfl, by kernel_rfl, rfl, rfl⟩
 | 20, i, _, h => F2 (f := Tryz.f20) h ⟨_, Tryz.func20, by kernel_rfl, by kernel_rfl, rfl, rfl⟩
 | 21, i, _, h => nomatch Option.some.inj h
 | 22, i, _, h => nomatch Option.some.inj h
 | 23, i, _, h => nomatch Option.some.inj h
 | 24, i, _, h => nomatch Option.some.inj h
 | 25, i, _, h => nomatch Option.some.inj h
 | 26, i, _, h => nomatch Option.some.inj h
 | 27, i, _, h => nomatch Option.some.inj h
 | 28, i, _, h => nomatch Option.some.inj h
 | 29, i, _, h => nomatch Option.some.inj h
 | 30, i, _, h => nomatch Option.some.inj h
 | 31, i, _, h => nomatch Option.some.inj h
 | 32, i, _, h => nomatch Option.some.inj h
 | 33, i, _, h => nomatch Option.some.inj h
 | 34, i, _, h => nomatch Option.some.inj h
 | 35, i, _, h => nomatch Option.some.inj h
 | 36, i, _, h => nomatch Option.some.inj h
 | 37, i, _, h => nomatch Option.some.inj h
 | 38, i, _, h => nomatch Option.some.inj h
 | 39, i, _, h => F2 (f := Tryz.f39) h ⟨_, Tryz.func39, by kernel_rfl, by kernel_rfl, rfl, rfl⟩
 | 40, i, _, h => F2 (f := Tryz.f40) h ⟨_, Tryz.func40, by kernel_rfl, by kernel_rfl, rfl, rfl⟩
 | 41, i, _, h => F2 (f := Tryz.f41) h ⟨_, Tryz.func41, by kernel_rfl, by kernel_rfl, rfl, rfl⟩
 | 42, i, _, h => F2 (f := Tryz.f42) h ⟨_, Tryz.func42, by kernel_rfl, by kernel_rfl, rfl, rfl⟩
 | 43, i, _, h => F2 (f := Tryz.f43) h ⟨_, Tryz.func43, by kernel_rfl, by kernel_rfl, rfl, rfl⟩
 | 44, i, _, h => F2 (f := Tryz.f44) h ⟨_, Tryz.func44, by kernel_rfl, by kernel_rfl, rfl, rfl⟩
 | 45, i, _, h => F2 (f := Tryz.f45) h ⟨_, Tryz.func45, by kernel_rfl, by kernel_rfl, rfl, rfl⟩
 | 46, i, _, h => F2 (f := Tryz.f46) h ⟨_, Tryz.func46, by kernel_rfl, by kernel_rfl, rfl, rfl⟩
 | 47, i, _, h => F2 (f := Tryz.f47) h ⟨_, Tryz.func47, by kernel_rfl, by kernel_rfl, rfl, rfl⟩
 | 48, i, _, h => F2 (f := Tryz.f48) h ⟨_, Tryz.func48, by kernel_rfl, by kernel_rfl, rfl, rfl⟩
 | 49, i, _, h => F2 (f := Tryz.f49) h ⟨_, Tryz.func49, by kernel_rfl, by kernel_rfl, rfl, rfl⟩
 | 50, i, _, h => F2 (f := Tryz.f50) h ⟨_, Tryz.func50, by kernel_rfl, by kernel_rfl, rfl, rfl⟩
 | 51, i, _, h => F2 (f := Tryz.f51) h ⟨_, Tryz.func51, by kernel_rfl, by kernel_rfl, rfl, rfl⟩
 | 52, i, _, h => F2 (f := Tryz.f52) h ⟨_, Tryz.func52, by kernel_rfl, by kernel_rfl, rfl, rfl⟩
 | 53, i, _, h => F2 (f := Tryz.f53) h ⟨_, Tryz.func53, by kernel_rfl, by kernel_rfl, rfl, rfl⟩
 | 54, i, _, h => F2 (f := Tryz.f54) h ⟨_, Tryz.func54, by kernel_rfl, by kernel_rfl, rfl, rfl⟩
 | 55, i, _, h => F2 (f := Tryz.f55) h ⟨_, Tryz.func55, by kernel_rfl, by kernel_rfl, rfl, rfl⟩
 | 56, i, _, h => F2 (f := Tryz.f56) h ⟨_, Tryz.func56, by kernel_rfl, by kernel_rfl, rfl, rfl⟩
 | 57, i, _, h => F2 (f := Tryz.f57) h ⟨_, Tryz.func57, by kernel_rfl, by kernel_rfl, rfl, rfl⟩
 | 58, i, _, h => F2 (f := Tryz.f58) h ⟨_, Tryz.func58, by kernel_rfl, by kernel_rfl, rfl, rfl⟩
 | 59, i, _, h => F2 (f := Tryz.f59) h ⟨_, Tryz.func59, by kernel_rfl, by kernel_rfl, rfl, rfl⟩
 | 60, i, _, h => F2 (f := Tryz.f60) h ⟨_, Tryz.func60, by kernel_rfl, by kernel_rfl, rfl, rfl⟩
 | 61, i, _, h => F2 (f := Tryz.f61) h ⟨_, Tryz.func61, by kernel_rfl, by kernel_rfl, rfl, rfl⟩
 | 62, i, _, h => F2 (f := Tryz.f62) h ⟨_, Tryz.func62, by kernel_rfl, by kernel_rfl, rfl, rfl⟩
 | 63, i, _, h => nomatch Option.some.inj h
 | 64, i, _, h => F2 (f := Tryz.f64) h ⟨_, Tryz.func64, by kernel_rfl, by kernel_rfl, rfl, rfl⟩
 | 65, i, _, h => F2 (f := Tryz.f65) h ⟨_, Tryz.func65, by kernel_rfl, by kernel_rfl, rfl, rfl⟩
 | 66, i, _, h => F2 (f := Tryz.f66) h ⟨_, Tryz.func66, by kernel_rfl, by kernel_rfl, rfl, rfl⟩
 | 67, i, _, h => F2 (f := Tryz.f67) h ⟨_, Tryz.func67, by kernel_rfl, by kernel_rfl, rfl, rfl⟩
 | 68, i, _, h => F2 (f := Tryz.f68) h ⟨_, Tryz.func68, by kernel_rfl, by kernel_rfl, rfl, rfl⟩
 | 69, i, _, h => F2 (f := Tryz.f69) h ⟨_, Tryz.func69, by kernel_rfl, by kernel_rfl, rfl, rfl⟩
 | 70, i, _, h => F2 (f := Tryz.f70) h ⟨_, Tryz.func70, by kernel_rfl, by kernel_rfl, rfl, rfl⟩
 | 71, i, _, h => F2 (f := Tryz.f71) h ⟨_, Tryz.func71, by kernel_rfl, by kernel_rfl, rfl, rfl⟩
 | 72, i, _, h => F2 (f := Tryz.f72) h ⟨_, Tryz.func72, by kernel_rfl, by kernel_rfl, rfl, rfl⟩
 | 73, i, _, h => nomatch Option.some.inj h
 | 74, i, _, h => nomatch Option.some.inj h
 | 75, i, _, h => nomatch Option.some.inj h
 | 76, i, _, h => nomatch Option.some.inj h
 | 77, i, _, h => nomatch Option.some.inj h
 | 78, i, _, h => nomatch Option.some.inj h
 | 79, i, _, h => nomatch Option.some.inj h
 | 80, i, _, h => nomatch Option.some.inj h
 | 81, i, _, h => nomatch Option.some.inj h
 | 82, i, _, h => F2 (f := Tryz.f82) h ⟨_, Tryz.func82, by kernel_rfl, by kernel_rfl, rfl, rfl⟩
 | 83, i, _, h => nomatch Option.some.inj h
 | 84, i, _, h => nomatch Option.some.inj h
 | 85, i, _, h => nomatch Option.some.inj h
 | 86, i, _, h => F2 (f := Tryz.f86) h ⟨_, Tryz.func86, by kernel_rfl, by kernel_rfl, rfl, rfl⟩
 | 87, i, _, h => F2 (f := Tryz.f87) h ⟨_, Tryz.func87, by kernel_rfl, by kernel_rfl, rfl, rfl⟩
 | 88, i, _, h => F2 (f := Tryz.f88) h ⟨_, Tryz.func88, by kernel_rfl, by kernel_rfl, rfl, rfl⟩
 | 89, i, _, h => F2 (f := Tryz.f89) h ⟨_, Tryz.func89, by kernel_rfl, by kernel_rfl, rfl, rfl⟩
 | 90, i, _, h => F2 (f := Tryz.f90) h ⟨_, Tryz.func90, by kernel_rfl, by kernel_rfl, rfl, rfl⟩
 | 91, i, _, h => F2 (f := Tryz.f91) h ⟨_, Tryz.func91, by kernel_rfl, by kernel_rfl, rfl, rfl⟩
 | 92, i, _, h => F2 (f := Tryz.f92) h ⟨_, Tryz.func92, by kernel_rfl, by kernel_rfl, rfl, rfl⟩
 | 93, i, _, h => nomatch Option.some.inj h
 | 94, i, _, h => nomatch Option.some.inj h
 | 95, i, _, h => F2 (f := Tryz.f95) h ⟨_, Tryz.func95, by kernel_rfl, by kernel_rfl, rfl, rfl⟩
 | 96, i, _, h => F2 (f := Tryz.f96) h ⟨_, Tryz.func96, by kernel_rfl, by kernel_rfl, rfl, rfl⟩
 | 97, i, _, h => F2 (f := Tryz.f97) h ⟨_, Tryz.func97, by kernel_rfl, by kernel_rfl, rfl, rfl⟩
 | 98, i, _, h => F2 (f := Tryz.f98) h ⟨_, Tryz.func98, by kernel_rfl, by kernel_rfl, rfl, rfl⟩
 | 99, i, _, h => F2 (f := Tryz.f99) h ⟨_, Tryz.func99, by kernel_rfl, by kernel_rfl, rfl, rfl⟩
 | 100, i, _, h => F2 (f := Tryz.f100) h ⟨_, Tryz.func100, by kernel_rfl, by kernel_rfl, rfl, rfl⟩
 | 101, i, _, h => F2 (f := Tryz.f101) h ⟨_, Tryz.func101, by kernel_rfl, by kernel_rfl, rfl, rfl⟩
 | 102, i, _, h => F2 (f := Tryz.f102) h ⟨_, Tryz.func102, by kernel_rfl, by kernel_rfl, rfl, rfl⟩
 | 103, i, _, h => F2 (f := Tryz.f103) h ⟨_, Tryz.func103, by kernel_rfl, by kernel_rfl, rfl, rfl⟩
 | 104, i, _, h => F2 (f := Tryz.f104) h ⟨_, Tryz.func104, by kernel_rfl, by kernel_rfl, rfl, rfl⟩
 | 105, i, _, h => F2 (f := Tryz.f105) h ⟨_, Tryz.func105, by kernel_rfl, by kernel_rfl, rfl, rfl⟩
 | 106, i, _, h => nomatch Option.some.inj h
 | 107, i, _, h => F2 (f := Tryz.f107) h ⟨_, Tryz.func107, by kernel_rfl, by kernel_rfl, rfl, rfl⟩
 | 108, i, _, h => nomatch Option.some.inj h
 | 109, i, _, h => nomatch Option.some.inj h
 | 110, i, _, h => nomatch Option.some.inj h
 | 111, i, _, h => F2 (f := Tryz.f111) h ⟨_, Tryz.func111, by kernel_rfl, by kernel_rfl, rfl, rfl⟩
 | 112, i, _, h => F2 (f := Tryz.f112) h ⟨_, Tryz.func112, by kernel_rfl, by kernel_rfl, rfl, rfl⟩
 | 113, i, _, h => F2 (f := Tryz.f113) h ⟨_, Tryz.func113, by kernel_rfl, by kernel_rfl, rfl, rfl⟩
 | 114, i, _, h => F2 (f := Tryz.f114) h ⟨_, Tryz.func114, by kernel_rfl, by kernel_rfl, rfl, rfl⟩
 | 115, i, _, h => F2 (f := Tryz.f115) h ⟨_, Tryz.func115, by kernel_rfl, by kernel_rfl, rfl, rfl⟩
 | 116, i, _, h => nomatch Option.some.inj h
 | 117, i, _, h => nomatch Option.some.inj h
 | 118, i, _, h => nomatch Option.some.inj h
 | 119, i, _, h => F2 (f := Tryz.f119) h ⟨_, Tryz.func119, by kernel_rfl, by kernel_rfl, rfl, rfl⟩
 | 120, i, _, h => F2 (f := Tryz.f120) h ⟨_, Tryz.func120, by kernel_rfl, by kernel_rfl, rfl, rfl⟩
 | 121, i, _, h => F2 (f := Tryz.f121) h ⟨_, Tryz.func121, by kernel_rfl, by kernel_rfl, rfl, rfl⟩
 | 122, i, _, h => F2 (f := Tryz.f122) h ⟨_, Tryz.func122, by kernel_rfl, by kernel_rfl, rfl, rfl⟩
 | 123, i, _, h => F2 (f := Tryz.f123) h ⟨_, Tryz.func123, by kernel_rfl, by kernel_rfl, rfl, rfl⟩
 | 124, i, _, h => F2 (f := Tryz.f124) h ⟨_, Tryz.func124, by kernel_rfl, by kernel_rfl, rfl, rfl⟩
 | 125, i, _, h => nomatch Option.some.inj h
 | 126, i, _, h => nomatch Option.some.inj h
 | 127, i, _, h => nomatch Option.some.inj h
 | 128, i, _, h => F2 (f := Tryz.f128) h ⟨_, Tryz.func128, by kernel_rfl, by kernel_rfl, rfl, rfl⟩
 | 129, i, _, h => F2 (f := Tryz.f129) h ⟨_, Tryz.func129, by kernel_rfl, by kernel_rfl, rfl, rfl⟩
 | 130, i, _, h => F2 (f := Tryz.f130) h ⟨_, Tryz.func130, by kernel_rfl, by kernel_rfl, rfl, rfl⟩
 | 131, i, _, h => F2 (f := Tryz.f131) h ⟨_, Tryz.func131, by kernel_rfl, by kernel_rfl, rfl, rfl⟩
 | 132, i, _, h => nomatch Option.some.inj h
 | 133, i, _, h => nomatch Option.some.inj h
 | 134, i, _, h => nomatch Option.some.inj h
 | 135, i, _, h => nomatch Option.some.inj h
 | 136, i, _, h => nomatch Option.some.inj h
 | 137, i, _, h => nomatch Option.some.inj h
 | 138, i, _, h => F2 (f := Tryz.f138) h ⟨_, Tryz.func138, by kernel_rfl, by kernel_rfl, rfl, rfl⟩
 | 139, i, _, h => F2 (f := Tryz.f139) h ⟨_, Tryz.func139, by kernel_rfl, by kernel_rfl, rfl, rfl⟩
 | n + 140, i, hlt, h => by omega
theorem Akn : ∀ f i, E0.fs f = some i → AgV Tryz.prog E0 f i := by
 intro f i h
 have hl : fss[f]? = some (some i) := by
  have h : (fss[f]?).getD none = some i := h
  cases hl : fss[f]? with
  | none => rw [hl] at h; cases h
  | some o => rw [hl] at h; simp only [zaC] at h; rw [h]
 refine ⟨?_, Aa1 AiF hl⟩
 have hlt : f < 140 := (zac.1 hl).1
 exact Ajz f i hlt hl
theorem Akh : V4 Tryz.prog E0 J0 := ⟨Z4, AiE, by kernel_rfl, Akn, Akj, (xkP Z4), Aex⟩
end
section
open Go
variable {β : Type} {n : Nat}
section
variable {k : KO β} {k1 : AV → Option β} {H : Ab}
@[simp] theorem Bm : (PR n β).load = Ct := rfl
@[simp] theorem Bs : (PR n β).store = Ew := rfl
@[simp] theorem C2 : (PR n β).new = L8 := rfl
@[simp] theorem C8 : (PR n β).box = O6 := rfl
@[simp] theorem Bv : (PR n β).newSl = Fg := rfl
@[simp] theorem B3 : (PR n β).fadr = Ej := rfl
@[simp] theorem AgW : (PR n β).fld = Ae9 := rfl
@[simp] theorem Ca : (PR n β).iadr = Fa := rfl
@[simp] theorem Et : (PR n β).idx = Acc := rfl
@[simp] theorem Dj : (PR n β).lenS = Ux := rfl
@[simp] theorem B7 : (PR n β).len = O8 := rfl
@[simp] theorem Cx : (PR n β).sliceS = Nd := rfl
@[simp] theorem Dk : (PR n β).slice = Jc := rfl
@[simp] theorem C6 : (PR n β).app = Ic := rfl
@[simp] theorem AeV : (PR n β).appS = Xl := rfl
@[simp] theorem Bh : (PR n β).bin = Ey := rfl
@[simp] theorem Dz : (PR n β).binB = O4 := rfl
@[simp] theorem Dy : (PR n β).binA = Nt := rfl
@[simp] theorem Fo : (PR n β).un = pUn := rfl
@[simp] theorem Ce : (PR n β).pick = Nu := rfl
@[simp] theorem D2 : (PR n β).cvI = Xm := rfl
@[simp] theorem AeW : (PR n β).cvSS = AaL := rfl
@[simp] theorem D5 : (PR n β).cvBS = Qs := rfl
@[simp] theorem Aab : (PR n β).cvSB = Uw := rfl
@[simp] theorem Kh : (PR n β).extr = O7 := rfl
@[simp] theorem Ye : (PR n β).nil = AeA := rfl
@[simp] theorem Bx : (PR n β).fill = fun a l k => (Fe a l).bind k := rfl
@[simp] theorem Ed : (PR n β).make = Xn := rfl
@[simp] theorem B6 : (PR n β).guard = Hx := rfl
@[simp] theorem A2 : (PR n β).cond = H8 := rfl
@[simp] theorem Acp : (PR n β).clear = P5 := rfl
@[simp] theorem Aaa : (PR n β).both = M0 := rfl
@[simp] theorem V6 : (PR n β).apart = Ob := rfl
@[simp] theorem Aac : (PR n β).same = O9 := rfl
theorem Qg : ((PR n β).load = Ct) ∧ ((PR n β).store = Ew) ∧ ((PR n β).new = L8) ∧ ((PR n β).box = O6) ∧ ((PR n β).newSl = Fg) ∧ ((PR n β).fadr = Ej) ∧ ((PR n β).fld = Ae9) ∧ ((PR n β).iadr = Fa) ∧ ((PR n β).idx = Acc) ∧ ((PR n β).lenS = Ux) ∧ ((PR n β).len = O8) ∧ ((PR n β).sliceS = Nd) ∧ ((PR n β).slice = Jc) ∧ ((PR n β).app = Ic) ∧ ((PR n β).appS = Xl) ∧ ((PR n β).bin = Ey) ∧ ((PR n β).binB = O4) ∧ ((PR n β).binA = Nt) ∧ ((PR n β).un = pUn) ∧ ((PR n β).pick = Nu) ∧ ((PR n β).cvI = Xm) ∧ ((PR n β).cvSS = AaL) ∧ ((PR n β).cvBS = Qs) ∧ ((PR n β).cvSB = Uw) ∧ ((PR n β).extr = O7) ∧ ((PR n β).nil = AeA) ∧ ((PR n β).fill = fun a l k => (Fe a l).bind k) ∧ ((PR n β).make = Xn) ∧ ((PR n β).guard = Hx) ∧ ((PR n β).cond = H8) ∧ ((PR n β).clear = P5) ∧ ((PR n β).both = M0) ∧ ((PR n β).apart = Ob) ∧ ((PR n β).same = O9) := ⟨rfl, rfl, rfl, rfl, rfl, rfl, rfl, rfl, rfl, rfl, rfl, rfl, rfl, rfl, rfl, rfl, rfl, rfl, rfl, rfl, rfl, rfl, rfl, rfl, rfl, rfl, rfl, rfl, rfl, rfl, rfl, rfl, rfl, rfl⟩
theorem Qf : (∀ (p : Pr β) (c : AV) (H : Ab) (m : (AV → Option β) → Option β) k, p.gT c H m k = p.guard c true H (fun k' => m fun t' => k' t' H) k) ∧ (∀ (p : Pr β) (c : AV) (H : Ab) (m : (KO β) → Option β) k, p.hT c H m k = p.guard c true H (fun k' => m fun t' H => k' t' H) k) ∧ (∀ (p : Pr β) (c : AV) (H : Ab) (v : AV) k, p.kT c H v k = p.guard c true H (fun k' => k' v H) k) ∧ (∀ (p : Pr β) (c : AV) (H : Ab) (m : (AV → Option β) → Option β) k, p.gF c H m k = p.guard c false H (fun k' => m fun t' => k' t' H) k) ∧ (∀ (p : Pr β) (c : AV) (H : Ab) (m : (KO β) → Option β) k, p.hF c H m k = p.guard c false H (fun k' => m fun t' H => k' t' H) k) ∧ (∀ (p : Pr β) (c : AV) (H : Ab) (v : AV) k, p.kF c H v k = p.guard c false H (fun k' => k' v H) k) ∧ (∀ (p : Pr β) i t n H k, p.fl i t n H k = p.fadr i t fun x => p.load false n x H k) ∧ (∀ (p : Pr β) i t n v H k, p.fs i t n v H k = p.fadr i t fun x => p.store n x v H k) ∧ (∀ (p : Pr β) y f l H k, p.ca y f l H k = p.call y (.fn f [] []) l H k) ∧ (∀ (p : Pr β) c H i t n k, p.lT c H i t n k = p.guard c true H (fun k' => p.fadr i t fun x => k' x H) fun x H => p.guard c true H (fun k' => p.load false n x H fun x => k' x H) k) ∧ (∀ (p : Pr β) c H i t n k, p.lF c H i t n k = p.guard c false H (fun k' => p.fadr i t fun x => k' x H) fun x H => p.guard c false H (fun k' => p.load false n x H fun x => k' x H) k) := ⟨fun _ _ _ _ _ => rfl, fun _ _ _ _ _ => rfl, fun _ _ _ _ _ => rfl, fun _ _ _ _ _ => rfl, fun _ _ _ _ _ => rfl, fun _ _ _ _ _ => rfl, fun _ _ _ _ _ _ => rfl, fun _ _ _ _ _ _ _ => rfl, fun _ _ _ _ _ _ => rfl, fun _ _ _ _ _ _ _ => rfl, fun _ _ _ _ _ _ _ => rfl⟩
noncomputable def Gc (f : Nat) : Bool := E0.hm f || (E0.ext f).isSome
theorem Xp {f : Nat} (h : Gc f = false) : E0.hm f = false := by
 unfold Gc at h
 simp only [zbE] at h
 exact h.1
theorem Uy {f : Nat} (h : Gc f = false) : E0.ext f = none := by
 unfold Gc at h
 simp only [zbE] at h
 simpa using h.2
theorem F5 {ty : Nat} {f : FuncId} {args vs : List AV} {t : AV} (hh : Gc f = false) (hv : args.mapM (Dg H 8) = some vs) (ht : Cs E0 n ty f vs = some t) :
  (PR n β).call ty (.fn f [] []) args H k = k (Bn Ar E0.tp H.length ty t).1 (H ++ (Bn Ar E0.tp H.length ty t).2) := by
 show Kk E0 (Di E0 n) ty f ([] ++ args ++ []) H k = _
 simp only [Kk, Uy hh, Xp hh, zah, zan, zal, if_false, Wg, hv, zab]
 have ht : Qd E0 (Di E0 n) ty f vs = some t := ht
 rw [ht]
 rfl
theorem Acq {ty : Nat} {f : FuncId} {g : Nat → List AV → Option AV} {args vs : List AV} {t : AV} (hg : E0.ext f = some g) (hv : args.mapM (Dg H 8) = some vs) (ht : g ty vs = some t) :
  (PR n β).call ty (.fn f [] []) args H k = k (Bn Ar E0.tp H.length ty t).1 (H ++ (Bn Ar E0.tp H.length ty t).2) := by
 show Kk E0 (Di E0 n) ty f ([] ++ args ++ []) H k = _
 simp only [Kk, hg, zah, zan, Aai, hv, zab, ht]
 rfl
end
theorem Bb (n ty : Nat) (f : FuncId) (args : List AV) : Cs E0 n ty f args = Di E0 n AV f args [] fun x H => Ba Ar E0.tp ty H x := rfl
@[simp] theorem Ait {ti : Nat → Option TI} {tp : Nat → Option (List Nat)} (ty : Nat) (H : Ab) (v : Value) : Ba ti tp ty H (.sc v) = some (.sc v) := rfl
theorem Gn {ti : Nat → Option TI} {tp : Nat → Option (List Nat)} {H : Ab} {d ty id off n z : Nat} : B4 ti tp H (d + 1) ty (.sl id off n z) = (ti ty).bind fun i => (ti i.elem).bind fun j => if z = j.size then (if Ga H id then (Ax H id off (n * z)).bind fun cs => (Cg (B4 ti tp H d) (zad n j.cty).flatten cs).bind fun q => some (.ro n q.1, id :: q.2) else none) else none := rfl
theorem E4 {ti : Nat → Option TI} {tp : Nat → Option (List Nat)} {H : Ab} {d ty : Nat} {cs : List AV} : B4 ti tp H (d + 1) ty (.agg cs) = (ti ty).bind fun i => (Cg (B4 ti tp H d) i.cty cs).bind fun q => some (.agg q.1, q.2) := rfl
theorem Gb {ti : Nat → Option TI} {tp : Nat → Option (List Nat)} {H : Ab} {d ty : Nat} {cs : List AV} : B4 ti tp H (d + 1) ty (.tup cs) = (tp ty).bind fun ts => (Cg (B4 ti tp H d) ts cs).bind fun q => some (.tup q.1, q.2) := rfl
theorem I8 {ti : Nat → Option TI} {tp : Nat → Option (List Nat)} {H : Ab} {d ty : Nat} {v : Value} : B4 ti tp H (d + 1) ty (.sc v) = some (.sc v, []) := rfl
theorem Hm {ti : Nat → Option TI} {tp : Nat → Option (List Nat)} {n ty : Nat} {v : Value} : Bn ti tp n ty (.sc v) = (.sc v, []) := rfl
theorem H5 {ti : Nat → Option TI} {tp : Nat → Option (List Nat)} {n ty : Nat} {cs : List AV} : Bn ti tp n ty (.agg cs) = (.agg (B5 ti tp n ((ti ty).getD default).cty cs).1, (B5 ti tp n ((ti ty).getD default).cty cs).2) := rfl
theorem Py {ti : Nat → Option TI} {tp : Nat → Option (List Nat)} {n ty : Nat} {cs : List AV} : Bn ti tp n ty (.tup cs) = (.tup (B5 ti tp n ((tp ty).getD []) cs).1, (B5 ti tp n ((tp ty).getD []) cs).2) := rfl
theorem Ph {H : Ab} {d id off n z : Nat} : Dg H (d + 1) (.sl id off n z) = (Ax H id off (n * z)).bind fun cs => (cs.mapM (Dg H d)).bind fun vs => some (.ro n vs) := rfl
theorem Ni {H : Ab} {d : Nat} {cs : List AV} : Dg H (d + 1) (.agg cs) = (cs.mapM (Dg H d)).bind fun vs => some (.agg vs) := rfl
theorem AaA {H : Ab} {d : Nat} : ∀ (l : List Value), (l.map AV.sc).mapM (Dg H (d + 1)) = some (l.map AV.sc)
 | [] => rfl
 | x :: l => by
  have e : Dg H (d + 1) (.sc x) = some (.sc x) := rfl
  simp only [zau, zba, e, zbl, zaX, zab, AaA l]
theorem AaJ {ti : Nat → Option TI} {tp : Nat → Option (List Nat)} {H : Ab} {d : Nat} : ∀ (ts : List Nat) (l : List Value), ts.length = l.length → Cg (B4 ti tp H (d + 1)) ts (l.map AV.sc) = some (l.map AV.sc, [])
 | [], [], _ => rfl
 | t :: ts, x :: l, h => by
  have e : B4 ti tp H (d + 1) t (.sc x) = some (.sc x, []) := rfl
  simp only [zau, Cg, e, zab, AaJ ts l (by simpa using h), zan]
 | [], _ :: _, h => by simp at h
 | _ :: _, [], h => by simp at h
theorem Sj {ti : Nat → Option TI} {tp : Nat → Option (List Nat)} {n : Nat} : ∀ (ts : List Nat) (l : List Value), B5 ti tp n ts (l.map AV.sc) = (l.map AV.sc, [])
 | ts, [] => rfl
 | ts, x :: l => by
  simp only [zau, B5, Bn, Sj _ l, zah]
def bv (s : ByteArray) : List Value := s.data.toList.map fun b => .int .u8 b.toNat
theorem J3 (s : ByteArray) : Be s = (bv s).map AV.sc := by simp [Be, bv]
theorem Aha (s : ByteArray) : (bv s).length = s.size := by simp [bv]
theorem Ei (s : ByteArray) : (Be s).length = s.size := by simp [Be]
theorem U8 (s : ByteArray) : (Be s).all Ap = true := by
 simp only [Be, List.all_map, za3]
 intro b _
 rfl
theorem Jh : ∀ (l : List UInt8), (l.map fun b => AV.sc (.int .u8 (b.toNat : Int))).mapM Lp = some l
 | [] => rfl
 | b :: l => by
  have e : Lp (.sc (.int .u8 (b.toNat : Int))) = some b := by simp [Lp]
  simp only [zau, zba, e, Jh l, zbl, zaX, zab]
end
section
open Go
section gen
variable {ti : Nat → Option TI} {tp : Nat → Option (List Nat)}
def Es (f : Nat → AV → Prop) : List Nat → List AV → Prop
 | [], [] => True
 | t :: ts, x :: xs => f t x ∧ Es f ts xs
 | _, _ => False
def Gr (ti : Nat → Option TI) (tp : Nat → Option (List Nat)) : Nat → Nat → AV → Prop
 | 0, _, _ => False
 | d + 1, ty, x =>
  match x with
  | .sc _ => True
  | .ro n cells => ∃ i j, ti ty = some i ∧ ti i.elem = some j ∧ cells.length = n * j.size ∧ Es (Gr ti tp d) (zad n j.cty).flatten cells
  | .agg cs => ∃ i, ti ty = some i ∧ Es (Gr ti tp d) i.cty cs
  | .tup cs => ∃ ts, tp ty = some ts ∧ Es (Gr ti tp d) ts cs
  | _ => False
theorem Xd {f : Nat → AV → Prop} : ∀ {ts : List Nat} {cs : List AV}, Es f ts cs → ts.length = cs.length
 | [], [], _ => rfl
 | _ :: ts, _ :: cs, h => by rw [zav, zav, Xd h.2]
theorem G4 {f : Nat → AV → Prop} : ∀ {ts : List Nat} {cs : List AV} {ts' : List Nat} {cs' : List AV}, Es f ts cs → Es f ts' cs' → Es f (ts ++ ts') (cs ++ cs')
 | [], [], _, _, _, h => h
 | _ :: ts, _ :: cs, _, _, h, h' => ⟨h.1, G4 h.2 h'⟩
theorem Na {α : Type} {f : Nat → AV → Prop} {cty : List Nat} {enc : α → List AV} : ∀ (l : List α), (∀ x ∈ l, Es f cty (enc x)) → Es f (zad l.length cty).flatten (l.map enc).flatten
 | [], _ => by simp [Es]
 | x :: l, h => by
  rw [zav, List.replicate_succ, zaE, zau, zaE]
  exact G4 (h x za8) (Na l fun y hy => h y (zat _ hy))
theorem Lg {H : Ab} {d : Nat} (hd : ∀ ty t N, Gr ti tp d ty t → Lies H N (Bn ti tp N ty t).2 → (∀ b ∈ (Bn ti tp N ty t).2, b.live = true ∧ b.app = true) → B4 ti tp H d ty (Bn ti tp N ty t).1 = some (t, zbk N (Bn ti tp N ty t).2.length)) :
  ∀ (ts : List Nat) (cs : List AV) (N : Nat), Es (Gr ti tp d) ts cs → Lies H N (B5 ti tp N ts cs).2 → (∀ b ∈ (B5 ti tp N ts cs).2, b.live = true ∧ b.app = true) → Cg (B4 ti tp H d) ts (B5 ti tp N ts cs).1 = some (cs, zbk N (B5 ti tp N ts cs).2.length)
 | [], [], N, _, _, _ => rfl
 | t :: ts, x :: cs, N, h, hl, hb => by
  simp only [B5, zbB, zbG] at hl hb ⊢
  have h1 := hd t x N h.1 hl.left fun b hb' => hb b (zas _ hb')
  have h2 := Lg hd ts cs _ h.2 hl.right fun b hb' => hb b (zap _ hb')
  have e := List.range'_append (s := N) (m := (Bn ti tp N t x).2.length) (n := (B5 ti tp (N + (Bn ti tp N t x).2.length) ts cs).2.length) (step := 1)
  rw [zbt] at e
  simp only [Cg, h1, h2, zab, zag, e]
mutual
theorem AbS : ∀ (x : AV) (N ty : Nat), ∀ b ∈ (Bn ti tp N ty x).2, b.live = true ∧ b.app = true
 | .sc v, N, ty => by intro b h; cases h
 | .ro n cells, N, ty => by
  intro b h
  simp only [Bn, za2] at h
  rcases h with rfl | h
  ·exact ⟨rfl, rfl⟩
  ·exact Fx cells _ _ b h
 | .agg cs, N, ty => fun b h => Fx cs _ _ b h
 | .tup cs, N, ty => fun b h => Fx cs _ _ b h
 | .any, N, ty => by intro b h; cases h
 | .nl, N, ty => by intro b h; cases h
 | .sl .., N, ty => by intro b h; cases h
 | .ptr .., N, ty => by intro b h; cases h
 | .rp .., N, ty => by intro b h; cases h
 | .fn .., N, ty => by intro b h; cases h
theorem Fx : ∀ (cs : List AV) (N : Nat) (ts : List Nat), ∀ b ∈ (B5 ti tp N ts cs).2, b.live = true ∧ b.app = true
 | [], N, ts => by intro b h; cases h
 | x :: cs, N, ts => by
  intro b h
  simp only [B5, zaJ] at h
  rcases h with h | h
  ·exact AbS x _ _ b h
  ·exact Fx cs _ _ b h
end
theorem Gt {H : Ab} : ∀ (d ty : Nat) (t : AV) (N : Nat), Gr ti tp d ty t → Lies H N (Bn ti tp N ty t).2 → B4 ti tp H d ty (Bn ti tp N ty t).1 = some (t, zbk N (Bn ti tp N ty t).2.length)
 | 0, _, _, _, h, _ => by cases h
 | d + 1, ty, t, N, h, hl => by
  have ih := Lg (H := H) (d := d) (ti := ti) (tp := tp) (fun ty t N h h' _ => Gt d ty t N h h')
  cases t with
  | sc v => rfl
  | ro n cells =>
   obtain ⟨i, j, h1, h2, h3, h4⟩ := h
   have e : Bn ti tp N ty (.ro n cells) = (.sl N 0 n j.size, ⟨(B5 ti tp (N + 1) (zad n j.cty).flatten cells).1, true, true⟩ :: (B5 ti tp (N + 1) (zad n j.cty).flatten cells).2) := by
    simp only [Bn, h1, zab, h2, zaC]
   rw [e] at hl ⊢
   have hb := hl 0 _ rfl
   rw [zbd] at hb
   have hv := ih (zad n j.cty).flatten cells (N + 1) h4 hl.tail (Fx _ _ _)
   have hlen := M7 (ti := ti) (tp := tp) (N + 1) (zad n j.cty).flatten cells
   have e2 : Ax H N 0 (n * j.size) = some (B5 ti tp (N + 1) (zad n j.cty).flatten cells).1 := by
    simp only [Ax, hb, if_true, zaA, zaw]
    rw [if_pos (by rw [hlen, h3]; exact zak _), ← h3, ← hlen, za0]
   have e3 : Ga H N = true := by simp only [Ga, hb]
   rw [Gn]
   simp only [h1, h2, zab, if_true, e2, e3, hv, zav]
   rw [List.range'_succ]
  | agg cs =>
   obtain ⟨i, h1, h2⟩ := h
   have e : Bn ti tp N ty (.agg cs) = (.agg (B5 ti tp N i.cty cs).1, (B5 ti tp N i.cty cs).2) := by rw [H5, h1]; rfl
   rw [e] at hl ⊢
   rw [E4]
   simp only [h1, zab, ih i.cty cs N h2 hl (Fx _ _ _)]
  | tup cs =>
   obtain ⟨ts, h1, h2⟩ := h
   have e : Bn ti tp N ty (.tup cs) = (.tup (B5 ti tp N ts cs).1, (B5 ti tp N ts cs).2) := by rw [Py, h1]; rfl
   rw [e] at hl ⊢
   rw [Gb]
   simp only [h1, zab, ih ts cs N h2 hl (Fx _ _ _)]
  | _ => cases h
theorem Og (A B X : List Hf) : Lies (A ++ B ++ X) A.length B := fun j b hj => by
 have hlt := (zac.1 hj).1
 rw [zaj, zae (by omega), zbr, zaf hlt]
 exact hj
theorem Jt (A B : List Hf) : Lies (A ++ B) A.length B := by
 have := Og A B []
 rwa [zan] at this
theorem Agm (A : List Hf) (ty : Nat) (t : AV) (h : Gr ti tp 8 ty t) : Ba ti tp ty (A ++ (Bn ti tp A.length ty t).2) (Bn ti tp A.length ty t).1 = some t := by
 rw [Ba, Gt 8 ty t A.length h (Jt _ _)]
 simp only [zab]
 rw [if_pos (zbb)]
def Vw (H : Ab) (x v : AV) : Prop := ∀ X : List Hf, Dg (H ++ X) 8 x = some v
theorem Vw.grow {H : Ab} {x v : AV} (h : Vw H x v) (X : List Hf) : Vw (H ++ X) x v := fun Y => by
 rw [zaj]
 exact h _
theorem Vw.now {H : Ab} {x v : AV} (h : Vw H x v) : Dg H 8 x = some v := by
 have := h []
 rwa [zan] at this
theorem Dl (H : Ab) (v : Value) : Vw H (.sc v) (.sc v) := fun _ => rfl
theorem Ez (H : Ab) (n : Nat) (cs : List AV) : Vw H (.ro n cs) (.ro n cs) := fun _ => rfl
def Iq : AV → Bool
 | .sc v => Ns v
 | .ro _ _ => true
 | _ => false
theorem On {cs : List AV} (h : cs.all Iq = true) : cs.all Ap = true := by
 rw [za3] at h ⊢
 intro x hx
 have := h x hx
 cases x <;> simp_all [Iq, Ap]
theorem Ws {cs : List AV} (h : cs.all Iq = true) : Cv (.agg cs) = some cs := by
 show (if cs.all Ap then some cs else none) = _
 rw [if_pos (On h)]
theorem Q6 {H : Ab} {d : Nat} : ∀ {cs : List AV}, cs.all Iq = true → cs.mapM (Dg H (d + 1)) = some cs
 | [], _ => rfl
 | x :: cs, h => by
  rw [zbj, zai] at h
  have e : Dg H (d + 1) x = some x := by
   have := h.1
   cases x <;> first | rfl | (exfalso; simp [Iq] at this)
  simp only [zba, e, Q6 h.2, zbl, zaX, zab]
theorem Gi (H : Ab) {cs : List AV} (h : cs.all Iq = true) : Vw H (.agg cs) (.agg cs) := fun X => by
 rw [Ni, Q6 h]
 rfl
theorem N9 : ∀ (cs : List AV) (N : Nat) (ts : List Nat), cs.all Iq = true → (B5 ti tp N ts cs).1.all Ap = true
 | [], _, _, _ => rfl
 | x :: cs, N, ts, h => by
  rw [zbj, zai] at h
  simp only [B5, zbj, zai]
  refine ⟨?_, N9 cs _ _ h.2⟩
  have := h.1
  cases x <;> first | exact this | rfl | (exfalso; simp [Iq] at this)
end gen
section ops
variable {β : Type}
theorem Q8 (w len : Nat) (cells : List AV) (i : Nat) (k : AV → Option β) (h : i < len) (h2 : i * w < cells.length) : Fa w (.ro len cells) (.sc (.int .i64 i)) k = k (.rp (cells.drop (i * w))) := by
 simp only [Fa, Yj, zab, zbm]
 rw [if_pos ⟨by omega, by omega⟩, if_pos h2]
theorem AfW (w len id off : Nat) (i : Nat) (k : AV → Option β) (h : i < len) : Fa w (.sl id off len w) (.sc (.int .i64 i)) k = k (.ptr id (off + i * w)) := by
 simp only [Fa, Yj, zab, zbm, if_true]
 rw [if_pos ⟨by omega, by omega⟩]
theorem Sp (w : Nat) (cs r : List AV) (H : Ab) (k : AV → Option β) (h : cs.length = w) : Ct true w (.rp (cs ++ r)) H k = k (.agg cs) := by
 simp only [Ct, zag, h, Nat.le_add_right, if_true, List.take_left' h]
theorem Oa (c : AV) (r : List AV) (H : Ab) (k : AV → Option β) : Ct false 1 (.rp (c :: r)) H k = k c := by
 simp only [Ct, zav, Nat.le_add_left, if_true, zal, if_false]
 rfl
theorem Ip (w id off : Nat) (y : AV) (b : Hf) (cs : List AV) (H : Ab) (k : Ab → Option β) (h : H[id]? = some b) (hc : Cv y = some cs) (hl : cs.length = w) (ho : off + w ≤ b.cells.length) (hb : b.live = true) : Ew w (.ptr id off) y H k = k (H.set id { b with cells := Cl b.cells off cs }) := by
 simp only [Ew, h, hc, zab, hb, if_true, hl, ho]
theorem Ep (a b : Nat) (k : AV → Option β) : Ey .lss (.sc (.int .i64 a)) (.sc (.int .i64 b)) k = k (.sc (.bool (decide (a < b)))) := by
 show k (.sc (.bool (decide ((a : Int) < (b : Int))))) = _
 rw [show decide ((a : Int) < (b : Int)) = decide (a < b) from by simp]
theorem Fl (a : Nat) (k : AV → Option β) (h : a < 9223372036854775807) : Ey .add (.sc (.int .i64 a)) (.sc (.int .i64 1)) k = k (.sc (.int .i64 (a + 1 : Nat))) := by
 show k (.sc (.int .i64 (IntKind.i64.wrap ((a : Int) + 1)))) = _
 have e : IntKind.i64.wrap ((a : Int) + 1) = ((a + 1 : Nat) : Int) := by
  rw [IntKind.wrap_i64, Int.natCast_add]
  simp only [Int.cast_ofNat_Int]
  omega
 rw [e]
theorem Ea (b : Bool) (x y : Option β) : H8 (.sc (.bool b)) x y = if b then x else y := rfl
theorem Jb (n : Nat) (cs : List AV) (k : AV → Option β) : O8 (.ro n cs) k = k (.sc (.int .i64 n)) := rfl
theorem Gf (n : Int) (h0 : -9223372036854775808 ≤ n) (h1 : n ≤ 9223372036854775807) : IntKind.i64.wrap n = n := by
 rw [IntKind.wrap_i64]; omega
theorem To (a b : Int) (k : AV → Option β) (h0 : -9223372036854775808 ≤ a - b) (h1 : a - b ≤ 9223372036854775807) : Ey .sub (.sc (.int .i64 a)) (.sc (.int .i64 b)) k = k (.sc (.int .i64 (a - b))) := by
 show k (.sc (.int .i64 (IntKind.i64.wrap (a - b)))) = _
 rw [Gf _ h0 h1]
theorem Aa8 (a b : Int) (k : AV → Option β) : Ey .lss (.sc (.int .i64 a)) (.sc (.int .i64 b)) k = k (.sc (.bool (decide (a < b)))) := rfl
theorem T9 {α : Type} {w : Nat} {enc : α → List AV} (hw : ∀ x, (enc x).length = w) (pre r : List α) : ((pre ++ r).map enc).flatten.drop (pre.length * w) = (r.map enc).flatten := by
 have hl : ((pre.map enc).flatten).length = pre.length * w := by
  induction pre with
  | nil => simp
  | cons x pre ih => rw [zau, zaE, zag, ih, hw, zav, zbN, zbK]
 rw [za5, zax, zbo (by omega), ← hl, List.drop_length, zah]
theorem Fh {α : Type} {w : Nat} {enc : α → List AV} (hw : ∀ x, (enc x).length = w) (l : List α) : ((l.map enc).flatten).length = l.length * w := by
 induction l with
 | nil => simp
 | cons x l ih => rw [zau, zaE, zag, ih, hw, zav, zbN, zbK]
theorem Nr {α : Type} {w : Nat} {enc : α → List AV} (hw : ∀ x, (enc x).length = w) (h0 : 0 < w) (pre : List α) (x : α) (r : List α) (k : AV → Option β) :
  Fa w (.ro (pre ++ x :: r).length ((pre ++ x :: r).map enc).flatten) (.sc (.int .i64 pre.length)) k = k (.rp (enc x ++ (r.map enc).flatten)) := by
 have hl := Fh hw (pre ++ x :: r)
 have h1 : pre.length < (pre ++ x :: r).length := by simp
 rw [Q8 w _ _ pre.length k h1 (by rw [hl]; exact Nat.mul_lt_mul_of_pos_right h1 h0), T9 hw pre (x :: r), zau, zaE]
theorem Vt (a b : Nat) (k : AV → Option β) : Ey .neq (.sc (.int .i64 a)) (.sc (.int .i64 b)) k = k (.sc (.bool (decide (a ≠ b)))) := by
 show k (.sc (.bool ((a : Int) != (b : Int)))) = _
 congr 3
 by_cases h : a = b
 ·subst h; simp
 ·simp [bne, h]; omega
def Fm {α : Type} (wt : α → Nat) : List α → Nat
 | [] => 0
 | x :: l => 1 + wt x + Fm wt l
def wtS {α : Type} (wt : α → Nat) : List α → Nat
 | [] => 0
 | x :: l => wt x + wtS wt l
theorem Mc {α : Type} (wt : α → Nat) : ∀ l : List α, Fm wt l = l.length + wtS wt l
 | [] => rfl
 | x :: l => by rw [Fm, wtS, Mc wt l, zav]; omega
theorem Nj {α : Type} {wt : α → Nat} : ∀ {l : List α} {x : α}, x ∈ l → wt x ≤ wtS wt l
 | y :: l, x, h => by
  rw [wtS]
  rcases za2.1 h with rfl | h
  ·omega
  ·have := Nj (wt := wt) h
   omega
end ops
end
section
open Go
variable {β : Type} {n : Nat}
theorem Ny (cs : List AV) (H : Ab) (k : KO β) (h : cs.all Iq = true) : O6 (.agg cs) H k = k (.ptr H.length 0) (H ++ [⟨cs, true, true⟩]) := by
 rw [O6, Ws h]
 rfl
theorem ldT {m id off : Nat} {H : Ab} {cs : List AV} (h : Ax H id off m = some cs) (k : AV → Option β) : Ct true m (.ptr id off) H k = k (.agg cs) := by
 simp only [Ct, h, zab, if_true]
theorem ldF {id off : Nat} {H : Ab} {c : AV} (h : Ax H id off 1 = some [c]) (k : AV → Option β) : Ct false 1 (.ptr id off) H k = k c := by
 simp only [Ct, h, zab, zal, if_false, one]
abbrev A3 (s : ByteArray) : AV := .ro s.size (Be s)
abbrev Fz (l : List Int) : AV := .ro l.length (l.map fun z => .sc (.int .i64 z))
abbrev Is (l : List ByteArray) : AV := .ro l.length (l.map fun s => .sc (.string s))
abbrev Ai {α : Type} (enc : α → List AV) (l : List α) : AV := .ro l.length (l.map enc).flatten
def Fb (z : Int) : Prop := -9223372036854775808 ≤ z ∧ z ≤ 9223372036854775807
def Ll (s : ByteArray) : Prop := s.size ≤ 9223372036854775807
theorem Uo {f : Nat → AV → Prop} {α : Type} (e : α → Value) (hf : ∀ t v, f t (.sc v)) : ∀ (ts : List Nat) (l : List α), ts.length = l.length → Es f ts (l.map fun x => .sc (e x))
 | [], [], _ => trivial
 | t :: ts, x :: l, h => ⟨hf _ _, Uo e hf ts l (by simpa using h)⟩
 | [], _ :: _, h => by simp at h
 | _ :: _, [], h => by simp at h
theorem J9 {α : Type} {ty d : Nat} (e : α → Value) (hty : ∃ i j, Ar ty = some i ∧ Ar i.elem = some j ∧ j.size = 1 ∧ j.cty.length = 1) (l : List α) : Gr Ar E0.tp (d + 2) ty (.ro l.length (l.map fun x => .sc (e x))) := by
 obtain ⟨i, j, h1, h2, h3, h4⟩ := hty
 exact ⟨i, j, h1, h2, by simp [h3], Uo e (fun _ _ => trivial) _ l (by simp [h4])⟩
theorem Jp {d ty : Nat} (hty : ∃ i j, Ar ty = some i ∧ Ar i.elem = some j ∧ j.size = 1 ∧ j.cty.length = 1) (s : ByteArray) : Gr Ar E0.tp (d + 2) ty (A3 s) := by
 have := J9 (d := d) (fun b : UInt8 => .int .u8 b.toNat) hty s.data.toList
 have e : s.data.toList.length = s.size := by simp
 rw [e] at this
 exact this
theorem Gs {α : Type} {ty d w : Nat} {cty : List Nat} {enc : α → List AV} (hw : ∀ x, (enc x).length = w) (hty : ∃ i j, Ar ty = some i ∧ Ar i.elem = some j ∧ j.size = w ∧ j.cty = cty) (he : ∀ x, Es (Gr Ar E0.tp d) cty (enc x)) (l : List α) : Gr Ar E0.tp (d + 1) ty (Ai enc l) := by
 obtain ⟨i, j, h1, h2, h3, rfl⟩ := hty
 exact ⟨i, j, h1, h2, by rw [Fh hw, h3], Na l fun x _ => he x⟩
theorem Ae4 {α : Type} {enc : α → List AV} {ok : α → Prop} {n t e : Nat} {cs : List AV} (hi : ∃ i, Ar t = some i ∧ i.isB = false ∧ i.ik = none ∧ i.isStr = false ∧ i.sl = true ∧ i.elem = e) (hel : ∀ n cs, okT Ar n e cs → ∃ x, cs = enc x ∧ ok x) (h : okT Ar n t cs) :
  ∃ l : List α, cs = [Ai enc l] ∧ l.length ≤ 9223372036854775807 ∧ ∀ x ∈ l, ok x := by
 cases n with
 | zero => cases h
 | succ n =>
  obtain ⟨i, h1, h2, h3, h4, h5, rfl⟩ := hi
  obtain ⟨i', hi', h⟩ := h
  rw [h1] at hi'
  obtain rfl := Option.some.inj hi'
  simp only [h2, h3, h4, h5] at h
  obtain ⟨rows, rfl, hl, hr⟩ := h
  have hm : maxLen = 9223372036854775807 := by decide
  rw [hm] at hl
  have key : ∀ rows : List (List AV), (∀ r ∈ rows, okT Ar n i.elem r) → ∃ l : List α, rows = l.map enc ∧ ∀ x ∈ l, ok x := by
   intro rows
   induction rows with
   | nil => intro _; exact ⟨[], rfl, fun x h => by cases h⟩
   | cons r rows ih =>
    intro h
    obtain ⟨l, h1, h2⟩ := ih fun r hr => h r (zat _ hr)
    obtain ⟨x, hx, hox⟩ := hel n r (h r za8)
    exact ⟨x :: l, by rw [h1, hx]; rfl, fun y hy => by rcases za2.1 hy with rfl | hy; exact hox; exact h2 y hy⟩
  obtain ⟨l, rfl, h2⟩ := key rows hr
  exact ⟨l, by simp, by simpa using hl, h2⟩
theorem Aca {n : Nat} {cs : List AV} (h : okT Ar n 5 cs) : ∃ b : UInt8, cs = [.sc (.int .u8 b.toNat)] := by
 cases n with
 | zero => cases h
 | succ n =>
  obtain ⟨i, hi, h⟩ := h
  obtain rfl := Option.some.inj (show some _ = some i from hi)
  obtain ⟨z, rfl, hw⟩ := (show ∃ z, cs = [.sc (.int .u8 z)] ∧ (Lit.int .u8 z).wf = true from h)
  have hz : 0 ≤ z ∧ z < 256 := by
   have hw' : IntKind.u8.min ≤ z ∧ z ≤ IntKind.u8.max := by simpa [Lit.wf] using hw
   have e1 : IntKind.u8.min = 0 := by decide
   have e2 : IntKind.u8.max = 255 := by decide
   rw [e1, e2] at hw'
   omega
  refine ⟨UInt8.ofNat z.toNat, ?_⟩
  have : (UInt8.ofNat z.toNat).toNat = z.toNat := by simp [UInt8.toNat_ofNat']; omega
  rw [this, Int.toNat_of_nonneg hz.1]
theorem Oo {α : Type} (e : α → AV) (l : List α) : (l.map fun x => [e x]).flatten = l.map e := by
 induction l with
 | nil => rfl
 | cons x l ih => rw [zau, zaE, ih]; rfl
theorem Zt {n t : Nat} {cs : List AV} (hi : ∃ i, Ar t = some i ∧ i.isB = false ∧ i.ik = none ∧ i.isStr = false ∧ i.sl = true ∧ i.elem = 5) (h : okT Ar n t cs) : ∃ s : ByteArray, cs = [A3 s] ∧ Ll s := by
 obtain ⟨l, rfl, h1, _⟩ := Ae4 (α := UInt8) (enc := fun b => [.sc (.int .u8 b.toNat)]) (ok := fun _ => True) hi (fun n cs h => by obtain ⟨b, h⟩ := Aca h; exact ⟨b, h, trivial⟩) h
 refine ⟨⟨l.toArray⟩, ?_, ?_⟩
 ·rw [Ai, Oo]
  simp [A3, Be]
  rfl
 ·exact h1
end
section
open Go
variable {β : Type} {n : Nat} {H : Ab} {r : Option β}
theorem D1 : ([] : List AV).mapM (Dg H 8) = some [] := rfl
theorem Bq {x v : AV} {xs vs : List AV} (h : Vw H x v) (hs : xs.mapM (Dg H 8) = some vs) : (x :: xs).mapM (Dg H 8) = some (v :: vs) := by
 simp only [zba, h.now, hs, zbl, zaX, zab]
theorem Jw {i : Nat} {b : Hf} (h : H[i]? = some b) (X : List Hf) : (H ++ X)[i]? = some b := by
 rw [zaf (zac.1 h).1]
 exact h
theorem Su {i w : Nat} {cs : List AV} {K : AV → Option β} (hi : H[i]? = some ⟨cs, true, true⟩) (hw : cs.length = w) (h : K (.agg cs) = r) : Ct true w (.ptr i 0) H (fun x => K x) = r := by
 have e : Ax H i 0 w = some cs := by
  simp only [Ax, hi, if_true, zaA, zaw, ← hw, zak, za0]
 rw [ldT e]
 exact h
theorem D0 {ty f : Nat} {args vs : List AV} {v : Value} {K : KO β} (hh : Gc f = false) (hv : args.mapM (Dg H 8) = some vs) (ht : Cs E0 n ty f vs = some (.sc v)) (h : K (.sc v) H = r) : (PR n β).call ty (.fn f [] []) args H (fun x H => K x H) = r := by
 rw [F5 hh hv ht, Hm, zan]
 exact h
theorem Vs {w : Nat} {z ys : List AV} {K : KO β} (hz : z.length = w) (hy : ys.length = w) (hl : ys.all Ap = true) (h : ∀ i, (H ++ [⟨ys, true, true⟩])[i]? = some ⟨ys, true, true⟩ → K (.ptr i 0) (H ++ [⟨ys, true, true⟩]) = r) :
  L8 z H (fun t H => Ew w t (.agg ys) H fun H => K t H) = r := by
 have hg : (H ++ [(⟨z, true, true⟩ : Hf)])[H.length]? = some ⟨z, true, true⟩ := by rw [zae (zak _), zaO]; rfl
 have hc : Cv (.agg ys) = some ys := by
  show (if ys.all Ap then some ys else none) = _
  rw [if_pos hl]
 show Ew w (.ptr H.length 0) (.agg ys) (H ++ [⟨z, true, true⟩]) _ = r
 rw [Ip w H.length 0 _ ⟨z, true, true⟩ ys _ _ hg hc hy (by rw [hz]; omega) rfl]
 have hs : Cl z 0 ys = ys := by
  unfold Cl
  rw [zbM, zah, zbe (by rw [hz, hy]; omega), zan]
 have e : (H ++ [(⟨z, true, true⟩ : Hf)]).set H.length ⟨ys, true, true⟩ = H ++ [⟨ys, true, true⟩] := by
  rw [List.set_append_right _ _ (zak _), zaO]
  rfl
 simp only [hs, e]
 exact h _ (by rw [zae (zak _), zaO]; rfl)
theorem Ac8 (a b : Int) (k : AV → Option β) : Ey .eql (.sc (.int .i64 a)) (.sc (.int .i64 b)) k = k (.sc (.bool (a == b))) := rfl
theorem W7 (a b : Int) (k : AV → Option β) : Ey .leq (.sc (.int .i64 a)) (.sc (.int .i64 b)) k = k (.sc (.bool (decide (a ≤ b)))) := rfl
theorem Aj4 (a b : Int) (k : AV → Option β) : Ey .gtr (.sc (.int .i64 a)) (.sc (.int .i64 b)) k = k (.sc (.bool (decide (a > b)))) := rfl
theorem Ri (a b : Int) (k : AV → Option β) : Ey .add (.sc (.int .i64 a)) (.sc (.int .i64 b)) k = k (.sc (.int .i64 (IntKind.i64.wrap (a + b)))) := rfl
theorem AjD (a b : Int) (k : AV → Option β) : Ey .mul (.sc (.int .i64 a)) (.sc (.int .i64 b)) k = k (.sc (.int .i64 (IntKind.i64.wrap (a * b)))) := rfl
theorem Sq (s : ByteArray) (k : AV → Option β) : Ux (.sc (.string s)) k = k (.sc (.int .i64 s.size)) := rfl
end
section
open Go
section
variable {β : Type} {n : Nat} {H : Ab} {r : Option β} {K : AV → Option β} {KH : KO β}
theorem Lk {cs : List AV} (hf : cs.all Iq = true) (h : ∀ i, i = H.length → (H ++ [⟨cs, true, true⟩])[i]? = some ⟨cs, true, true⟩ → KH (.ptr i 0) (H ++ [⟨cs, true, true⟩]) = r) : O6 (.agg cs) H (fun x H => KH x H) = r := by
 rw [Ny cs H _ hf]
 exact h _ rfl (by rw [zae (zak _), zaO]; rfl)
theorem Oe {zs cs : List AV} {ps : List (Nat × Nat × AV)} {KL : List AV → Option β} (hf : Fe zs ps = some cs) (h : KL cs = r) : ((Fe zs ps).bind fun c => KL c) = r := by
 rw [hf]
 exact h
theorem Ah {o id off : Nat} (h : K (.ptr id (off + o)) = r) : Ej o (.ptr id off) (fun x => K x) = r := h
theorem H9 {o : Nat} {cells : List AV} (h : K (.rp (cells.drop o)) = r) : Ej o (.rp cells) (fun x => K x) = r := h
theorem Bl {i off : Nat} {cs : List AV} {c : AV} (hi : H[i]? = some ⟨cs, true, true⟩) (hl : off < cs.length) (hc : (cs.drop off).take 1 = [c]) (h : K c = r) : Ct false 1 (.ptr i off) H (fun x => K x) = r := by
 have e : Ax H i off 1 = some [c] := by
  simp only [Ax, hi, if_true]
  rw [if_pos (by omega), hc]
 rw [ldF e]
 exact h
theorem Ks {i off w : Nat} {cs ds : List AV} (hi : H[i]? = some ⟨cs, true, true⟩) (hl : off + w ≤ cs.length) (hc : (cs.drop off).take w = ds) (h : K (.agg ds) = r) : Ct true w (.ptr i off) H (fun x => K x) = r := by
 have e : Ax H i off w = some ds := by
  simp only [Ax, hi, if_true]
  rw [if_pos hl, hc]
 rw [ldT e]
 exact h
theorem Mb {cells : List AV} {c : AV} (hc : cells.take 1 = [c]) (h : K c = r) : Ct false 1 (.rp cells) H (fun x => K x) = r := by
 cases cells with
 | nil => cases hc
 | cons x xs =>
  obtain rfl : x = c := by simpa using hc
  rw [Oa]
  exact h
theorem Kg {w : Nat} {cells ds : List AV} (hl : w ≤ cells.length) (hc : cells.take w = ds) (h : K (.agg ds) = r) : Ct true w (.rp cells) H (fun x => K x) = r := by
 simp only [Ct, hl, if_true, hc]
 exact h
theorem A4 {op : BinOp} {x y v : AV} (e : ∀ k : AV → Option β, Ey op x y k = k v) (h : K v = r) : Ey op x y (fun t => K t) = r := (e _).trans h
theorem G5 {op : BinOp} {x y v : AV} (e : ∀ k : AV → Option β, O4 op x y k = k v) (h : K v = r) : O4 op x y (fun t => K t) = r := (e _).trans h
theorem Hq {b : Bool} (h : K (.sc (.bool (!b))) = r) : pUn .not (.sc (.bool b)) (fun t => K t) = r := h
theorem AeQ {s : ByteArray} (h : K (.sc (.int .i64 s.size)) = r) : Ux (.sc (.string s)) (fun t => K t) = r := h
theorem Dq {m : Nat} {cs : List AV} (h : K (.sc (.int .i64 m)) = r) : O8 (.ro m cs) (fun t => K t) = r := h
theorem Af {g : Prop} (b : Bool) (ht : b = true → g) (hf : b = false → g) : g := by
 cases h : b
 ·exact hf h
 ·exact ht h
theorem Fn {b : Bool} {x y : Option β} (hb : b = true) (h : x = r) : H8 (.sc (.bool b)) x y = r := by subst hb; exact h
theorem Fy {b : Bool} {x y : Option β} (hb : b = false) (h : y = r) : H8 (.sc (.bool b)) x y = r := by subst hb; exact h
theorem An {b : Bool} {m : (KO β) → Option β} (hb : b = true) (h : m (fun x H => KH x H) = r) : Hx (.sc (.bool b)) true H m (fun x H => KH x H) = r := by subst hb; exact h
theorem Ao {b : Bool} {m : (KO β) → Option β} (hb : b = false) (h : KH (.sc undef) H = r) : Hx (.sc (.bool b)) true H m (fun x H => KH x H) = r := by subst hb; exact h
theorem C4 {b : Bool} {m : (KO β) → Option β} (hb : b = false) (h : m (fun x H => KH x H) = r) : Hx (.sc (.bool b)) false H m (fun x H => KH x H) = r := by subst hb; exact h
theorem Da {b : Bool} {m : (KO β) → Option β} (hb : b = true) (h : KH (.sc undef) H = r) : Hx (.sc (.bool b)) false H m (fun x H => KH x H) = r := by subst hb; exact h
theorem w_u {t : Bool} {m : (KO β) → Option β} (h : KH (.sc undef) H = r) : Hx (.sc undef) t H m (fun x H => KH x H) = r := h
theorem Q3 {b : Bool} {x y : AV} (hb : b = true) (h : K x = r) : Nu (.sc (.bool b)) x y (fun t => K t) = r := by
 subst hb
 cases x <;> cases y <;> exact h
theorem Ts {b : Bool} {x y : AV} (hb : b = false) (h : K y = r) : Nu (.sc (.bool b)) x y (fun t => K t) = r := by
 subst hb
 cases x <;> cases y <;> exact h
def Ia {α : Type} (p : α → α → Bool) : List α → List α → Bool
 | x :: a, y :: b => if p x y then Ia p a b else false
 | _, _ => true
theorem J5 {α : Type} {w : Nat} (enc : α → List AV) (hw : ∀ x, (enc x).length = w) (h0 : 0 < w) (pk : α → AV) (LOAD : AV → (AV → Option β) → Option β) (hld : ∀ x rest k, LOAD (.rp (enc x ++ rest)) k = k (pk x)) (NE : AV → AV → (AV → Option β) → Option β) (pr : α → α → Bool) (hne : ∀ x y k, NE (pk x) (pk y) k = k (.sc (.bool (!(pr x y)))))
  (l q : List α) (hlq : l.length = q.length) (hlen : l.length ≤ 1048576) (L : Nat → AV → Option β) (KF KT : Option β)
  (hL : ∀ m i, L (m + 1) i = Ey .lss i (.sc (.int .i64 l.length)) fun t14 => H8 t14 (Fa w (Ai enc l) i fun t19 => LOAD t19 fun t20 => Fa w (Ai enc q) i fun t23 => LOAD t23 fun t24 => NE t20 t24 fun t25 => H8 t25 KF (Ey .add i (.sc (.int .i64 1)) fun t16 => L m t16)) KT) :
  ∀ (s t pl pq : List α) (m : Nat), l = pl ++ s → q = pq ++ t → pl.length = pq.length → s.length < m → L m (.sc (.int .i64 pl.length)) = if Ia pr s t then KT else KF
 | [], t, pl, pq, m + 1, hl, hq, hpp, hm => by
  rw [zan] at hl
  subst hl
  rw [hL, Ep, Ea]
  cases t <;> simp [Ia]
 | x :: s, [], pl, pq, m + 1, hl, hq, hpp, hm => by
  have h1 := congrArg List.length hl
  have h2 := congrArg List.length hq
  simp only [zag, zav, zay] at h1 h2
  omega
 | x :: s, y :: t, pl, pq, m + 1, hl, hq, hpp, hm => by
  have hlt : pl.length < l.length := by rw [hl]; simp
  rw [hL, Ep, Ea, if_pos (by simpa using hlt)]
  have hel := fun k => Nr (β := β) hw h0 pl x s k
  rw [← hl] at hel
  have heq := fun k => Nr (β := β) hw h0 pq y t k
  rw [← hq, ← hpp] at heq
  rw [hel, hld, heq, hld, hne, Ea, Ia]
  cases hpx : pr x y
  ·simp
  ·simp only [Bool.not_true, zal, if_false, if_true]
   rw [Fl _ _ (by omega)]
   have ih := J5 enc hw h0 pk LOAD hld NE pr hne l q hlq hlen L KF KT hL s t (pl ++ [x]) (pq ++ [y]) m (by rw [hl]; simp) (by rw [hq]; simp) (by simp [hpp]) (by simpa using hm)
   rw [zag, zao] at ih
   exact ih
def Rt (z : Int) : List AV := [.sc (.int .i64 z)]
def Vb (s : ByteArray) : List AV := [.sc (.string s)]
theorem Jo (l : List Int) : Fz l = Ai Rt l := by
 rw [Ai, show (Rt) = fun z => [AV.sc (.int .i64 z)] from rfl, Oo]
theorem Nh (l : List ByteArray) : Is l = Ai Vb l := by
 rw [Ai, show (Vb) = fun z => [AV.sc (.string z)] from rfl, Oo]
theorem ldI (z : Int) (rest : List AV) (H : Ab) (k : AV → Option β) : Ct false 1 (.rp (Rt z ++ rest)) H k = k (.sc (.int .i64 z)) := Oa _ _ _ _
theorem ldS (z : ByteArray) (rest : List AV) (H : Ab) (k : AV → Option β) : Ct false 1 (.rp (Vb z ++ rest)) H k = k (.sc (.string z)) := Oa _ _ _ _
def Vc (x y : Int) : Bool := x == y
def Nl (x y : ByteArray) : Bool := x.toList == y.toList
def Fs {α : Type} (p : α → α → Bool) (a b : List α) : Bool := if a.length = b.length then Ia p a b else false
theorem neI (x y : Int) (k : AV → Option β) : Ey .neq (.sc (.int .i64 x)) (.sc (.int .i64 y)) k = k (.sc (.bool (!(Vc x y)))) := rfl
theorem neS (x y : ByteArray) (k : AV → Option β) : Ey .neq (.sc (.string x)) (.sc (.string y)) k = k (.sc (.bool (!(Nl x y)))) := rfl
theorem Aag (qs : List Nat) (cs ds : List AV) (b : Bool) (h : Ji qs cs ds = some b) (k : AV → Option β) : Nt .neq qs (.agg cs) (.agg ds) k = k (.sc (.bool (!b))) := by
 simp only [Nt, h, zab]
theorem A8 {X : Option β} (e : Bool) {K : Bool → Option β} (h1 : ∀ b, b = e → X = K b) (h2 : ∀ b, b = e → K b = r) : X = r := (h1 e rfl).trans (h2 e rfl)
theorem Cc {c v b : Bool} {y : AV} (hc : c = true) (hv : v = b) (h : K (.sc (.bool b)) = r) : Nu (.sc (.bool c)) (.sc (.bool v)) y (fun t => K t) = r := by
 subst hc
 subst hv
 cases y <;> exact h
theorem Cb {c v b : Bool} {x : AV} (hc : c = false) (hv : v = b) (h : K (.sc (.bool b)) = r) : Nu (.sc (.bool c)) x (.sc (.bool v)) (fun t => K t) = r := by
 subst hc
 subst hv
 cases x <;> exact h
theorem Hd {b c v : Bool} (hb : b = (c && v)) (h : c = true) : v = b := by rw [hb, h]; rfl
theorem Hb {b c v : Bool} (hb : b = (c && v)) (h : c = false) : false = b := by rw [hb, h]; rfl
theorem mOT {b c v : Bool} (hb : b = (c || v)) (h : c = true) : true = b := by rw [hb, h]; rfl
theorem mOF {b c v : Bool} (hb : b = (c || v)) (h : c = false) : v = b := by rw [hb, h]; rfl
theorem Z7 {α : Sort _} {γ : Type} {x : α} {f : α → Option γ} {r : Option γ} (h : f x = r) : Le x f = r := h
theorem E8 {ty : Nat} {b b' : Bool} (h : b = b') : Ba Ar E0.tp ty H (.sc (.bool b)) = some (.sc (.bool b')) := by subst h; rfl
theorem Ag4 {α : Type} {w : Nat} {enc : α → List AV} {l : List α} (hw : ∀ x, (enc x).length = w) (h0 : 0 < w) (hl : 0 < l.length) (h : ∀ x t, l = x :: t → K (.rp (enc x ++ (t.map enc).flatten)) = r) : Fa w (Ai enc l) (.sc (.int .i64 0)) (fun t => K t) = r := by
 cases l with
 | nil => simp at hl
 | cons x t =>
  have := Nr (β := β) hw h0 [] x t (fun t => K t)
  simp only [zah, zay, zaY] at this
  rw [this]
  exact h x t rfl
theorem V7 {ty : Nat} {f : FuncId} {caps args vs : List AV} {t : AV} {k : KO β} (hh : Gc f = false) (hv : (args ++ caps).mapM (Dg H 8) = some vs) (ht : Cs E0 n ty f vs = some t) :
  (PR n β).call ty (.fn f [] caps) args H k = k (Bn Ar E0.tp H.length ty t).1 (H ++ (Bn Ar E0.tp H.length ty t).2) := by
 show Kk E0 (Di E0 n) ty f ([] ++ args ++ caps) H k = _
 simp only [Kk, Uy hh, Xp hh, zah, zal, if_false, Wg, hv, zab]
 have ht : Qd E0 (Di E0 n) ty f vs = some t := ht
 rw [ht]
 rfl
def C5 {α : Type} (p : α → Bool) : List α → Nat → Int
 | [], _ => -1
 | x :: l, i => if p x then i else C5 p l (i + 1)
theorem Si {α : Type} {tb g w : Nat} {caps : List AV} (enc : α → List AV) (pr : α → Bool) (k : KO β) (hw : ∀ x, (enc x).length = w) (h0 : 0 < w) (hfl : ∀ x, (enc x).all Iq = true) (hh : Gc g = false) (hcv : ∀ H, caps.mapM (Dg H 8) = some caps) (L : Nat → AV → AV → AV → KO β)
  (hL : ∀ m a b c i H, L (m + 1) a b c i H = Ey .lss i c fun t9 => H8 t9 (Fa w a i fun t14 => Ct true w t14 H fun t15 => (PR n β).call tb b [t15] H fun t16 H => H8 t16 (k i H) (Ey .add i (.sc (.int .i64 1)) fun t18 => L m a b c t18 H)) (k (.sc (.int .i64 (-1))) H))
  (l : List α) (hp : ∀ x ∈ l, Cs E0 n tb g (.agg (enc x) :: caps) = some (.sc (.bool (pr x)))) (hlen : l.length ≤ 1048576) (H : Ab) : ∀ (t pre : List α) (m : Nat), l = pre ++ t → t.length < m →
   L m (Ai enc l) (.fn g [] caps) (.sc (.int .i64 l.length)) (.sc (.int .i64 pre.length)) H = k (.sc (.int .i64 (C5 pr t pre.length))) H
 | [], pre, m + 1, hl, hm => by
  rw [zan] at hl
  subst hl
  rw [hL, Ep, Ea]
  simp [C5]
 | x :: t, pre, m + 1, hl, hm => by
  have hlt : pre.length < l.length := by rw [hl]; simp
  rw [hL, Ep, Ea, if_pos (by simpa using hlt)]
  have hel := fun k => Nr (β := β) hw h0 pre x t k
  rw [← hl] at hel
  rw [hel, Sp w _ _ _ _ (hw x)]
  rw [V7 (vs := .agg (enc x) :: caps) hh (by simp only [zar, zah, zba, (Gi _ (hfl x)).now, hcv]; rfl) (hp x (by rw [hl]; simp)), Hm, zan]
  simp only
  rw [Ea, C5]
  cases hpx : pr x
  ·simp only [zal, if_false]
   rw [Fl _ _ (by omega)]
   have ih := Si enc pr k hw h0 hfl hh hcv L hL l hp hlen H t (pre ++ [x]) m (by rw [hl]; simp) (by simpa using hm)
   rw [zag, zao] at ih
   exact ih
  ·simp only [if_true]
theorem AgX {i g : Nat} {cs : List AV} (hi : H[i]? = some ⟨cs, true, true⟩) (hfl : cs.all Iq = true) : Vw H (.fn g [] [.ptr i 0]) (.fn g [] [.rp cs]) := fun X => by
 have hg : (H ++ X)[i]? = some ⟨cs, true, true⟩ := Jw hi X
 have hr : Ax (H ++ X) i 0 (cs.length - 0) = some cs := by
  simp only [Ax, hg, if_true, Nat.sub_zero, zaw, zak, zaA, za0]
 have hp : Dg (H ++ X) 7 (.ptr i 0) = some (.rp cs) := by
  show ((H ++ X)[i]?).bind (fun b => (Ax (H ++ X) i 0 (b.cells.length - 0)).bind fun cs => (cs.mapM (Dg (H ++ X) 6)).bind fun vs => some (AV.rp vs)) = _
  rw [hg, zab]
  show (Ax (H ++ X) i 0 (cs.length - 0)).bind _ = _
  rw [hr, zab, Q6 hfl]
  rfl
 show (([] : List AV).mapM (Dg (H ++ X) 7)).bind (fun us => ([AV.ptr i 0].mapM (Dg (H ++ X) 7)).bind fun cs => some (AV.fn g us cs)) = _
 simp only [zba, List.mapM_nil, hp, zbl, zaX, zab]
theorem Ai3 {v : Value} (hv : Ns v = true) (h : ∀ i, i = H.length → (H ++ [⟨[.sc v], true, true⟩])[i]? = some ⟨[.sc v], true, true⟩ → KH (.ptr i 0) (H ++ [⟨[.sc v], true, true⟩]) = r) : O6 (.sc v) H (fun x H => KH x H) = r := by
 have e : Cv (.sc v) = some [.sc v] := by simp only [Cv, Ap, hv, if_true]
 show (Cv (.sc v)).bind _ = r
 rw [e]
 exact h _ rfl (by rw [zae (zak _), zaO]; rfl)
theorem AgO (s : ByteArray) (i : Nat) (b : UInt8) (k : AV → Option β) (h : s.data.toList[i]? = some b) : Acc (.sc (.string s)) (.sc (.int .i64 i)) k = k (.sc (.int .u8 b.toNat)) := by
 have hlt : i < s.size := by
  have := (zac.1 h).1
  simpa using this
 have hb : s[i]'hlt = b := by
  have := (zac.1 h).2
  simp only [Array.getElem_toList] at this
  exact this
 simp only [Acc, Yj, asS, zab, zbm]
 rw [dif_pos ⟨by omega, hlt⟩, hb]
theorem Zz {α : Type} {w : Nat} {enc : α → List AV} (hw : ∀ x, (enc x).length = w) (l : List α) (d : Nat) (hd : d ≤ l.length) (k : AV → Option β) : Jc w (Ai enc l) (some (.sc (.int .i64 d))) none k = k (Ai enc (l.drop d)) := by
 simp only [Jc, G2, Jz, Yj, zab]
 rw [if_pos (by omega)]
 have h1 : ((l.length : Int) - d).toNat = (l.drop d).length := by rw [zaF]; omega
 have h2 : ((l.map enc).flatten.drop (d * w)) = ((l.drop d).map enc).flatten := by
  have := T9 hw (l.take d) (l.drop d)
  rw [zaL, za6, zaK hd] at this
  exact this
 rw [h1, zbm, h2, ← Fh hw, za0]
theorem nT {b : Bool} (h : b = false) : (!b) = true := by rw [h]; rfl
theorem nF {b : Bool} (h : b = true) : (!b) = false := by rw [h]; rfl
end
end
section
open Go
theorem Zh (n : Int) : bits .and .i64 n 255 = n % 256 := by
 have h255 : (BitVec.ofInt 64 255).toNat = 2 ^ 8 - 1 := by decide
 have key : (BitVec.ofInt 64 n &&& BitVec.ofInt 64 255).toNat = (n % ((2 ^ 64 : Nat) : Int)).toNat % 2 ^ 8 := by
  rw [BitVec.toNat_and, BitVec.toNat_ofInt, h255, Nat.and_two_pow_sub_one_eq_mod]
 show IntKind.i64.wrap ((BitVec.ofInt 64 n &&& BitVec.ofInt 64 255).toNat : Nat) = n % 256
 rw [key, IntKind.wrap_i64]
 omega
section
variable {β : Type} {n : Nat} {H : Ab}
theorem Ln {ty : Nat} {f : FuncId} {args : List AV} {k : KO β} (hh : E0.hm f = true) (he : E0.ext f = none) : (PR n β).call ty (.fn f [] []) args H k = Di E0 n β f args H k := by
 show Kk E0 (Di E0 n) ty f ([] ++ args ++ []) H k = _
 simp only [Kk, he, hh, zah, zan, if_true]
def cur (code : ByteArray) (i : Nat) (h : Int) : List AV := [.ro code.size (Be code), .sc (.int .i64 i), .sc (.int .i64 h)]
def N0 (code : ByteArray) (i : Nat) (h : Int) : Hf := ⟨cur code i h, true, true⟩
theorem ldC {c o : Nat} {code : ByteArray} {i : Nat} {h : Int} {x : AV} {K : AV → Option β} {r : Option β} (hc : H[c]? = some (N0 code i h)) (hx : (cur code i h)[o]? = some x) (hk : K x = r) : Ct false 1 (.ptr c (0 + o)) H (fun t => K t) = r := by
 obtain ⟨hlt, he⟩ := zac.1 hx
 have e : ((cur code i h).drop o).take 1 = [x] := by
  rw [zbc hlt, he]
  rfl
 rw [zaw]
 simp only [Ct, Ax, hc, N0, if_true, zal, if_false]
 rw [if_pos (by omega), zab, e]
 exact hk
theorem stC {c o : Nat} {code : ByteArray} {i i' : Nat} {h h' : Int} {v : Value} {K : Ab → Option β} {r : Option β} (hc : H[c]? = some (N0 code i h)) (hv : Ns v = true) (ho : o < 3) (hs : Cl (cur code i h) o [.sc v] = cur code i' h') (hk : K (H.set c (N0 code i' h')) = r) : Ew 1 (.ptr c (0 + o)) (.sc v) H (fun H => K H) = r := by
 rw [zaw, Ip 1 c o (.sc v) (N0 code i h) [.sc v] H _ hc (by simp only [Cv, Ap, hv, if_true]) rfl (by show o + 1 ≤ 3; omega) rfl]
 show K (H.set c ⟨Cl (cur code i h) o [.sc v], true, true⟩) = r
 rw [hs]
 exact hk
theorem Agx {c : Nat} {b : Hf} (hl : c < H.length) : (H.set c b)[c]? = some b := by
 rw [zbf hl]
theorem Yg (z : Int) (k : AV → Option β) : Ey .and (.sc (.int .i64 z)) (.sc (.int .i64 255)) k = k (.sc (.int .i64 (z % 256))) := by
 rw [← Zh]
 rfl
theorem Jg {id off : Nat} {K : AV → Option β} {r : Option β} (h : K (.ptr id off) = r) : AeA (.ptr id off) (fun t => K t) = r := h
theorem AgT {a z : Int} {k : IntKind} {K : AV → Option β} {r : Option β} (hz : IntKind.i64.wrap a = z) (h : K (.sc (.int .i64 z)) = r) : Xm .i64 (.sc (.int k a)) (fun t => K t) = r := by
 show K (.sc (.int .i64 (IntKind.i64.wrap a))) = r
 rw [hz]
 exact h
theorem Acy (s : ByteArray) (i : Nat) (h : i < s.size) (H : Ab) (k : AV → Option β) : (Fa 1 (.ro s.size (Be s)) (.sc (.int .i64 i)) fun t => Ct false 1 t H k) = k (.sc (.int .u8 (s.data.toList.getD i 0).toNat)) := by
 rw [Q8 1 _ _ i _ h (by rw [Ei]; omega)]
 have hd : (Be s).drop (i * 1) = .sc (.int .u8 (s.data.toList.getD i 0).toNat) :: (Be s).drop (i + 1) := by
  rw [Nat.mul_one, zbc (by rw [Ei]; omega)]
  congr 1
  simp [Be, zbD, h]
 rw [hd, Oa]
theorem We (c : Nat) (code : ByteArray) (hs : code.size ≤ 1048576) (i : Nat) (h : Int) (hc : H[c]? = some (N0 code i h)) (ty : Nat) :
  ∃ (x i' : Nat) (h' : Int), x < 256 ∧ ∀ K : KO β, (PR (n + 1) β).call ty (.fn 97 [] []) [.ptr c 0] H K = K (si x) (H.set c (N0 code i' h')) := by
 have hl : c < H.length := (zac.1 hc).1
 obtain ⟨h1, hh1⟩ : ∃ z, IntKind.i64.wrap (IntKind.i64.wrap (h * 6364136223846793005) + 1442695040888963407) = z := ⟨_, rfl⟩
 obtain ⟨y, hy⟩ : ∃ z, bits .xor .i64 (h1 / 2 ^ (33 : Int).toNat) (h1 / 2 ^ (47 : Int).toNat) = z := ⟨_, rfl⟩
 have hc1 : (H.set c (N0 code i h1))[c]? = some (N0 code i h1) := Agx hl
 by_cases hlt : i < code.size
 have hb := (code.data.toList.getD i 0).toNat_lt
 refine ⟨((y % 256 + (code.data.toList.getD i 0).toNat) % 256).toNat, i + 1, h1, by omega, fun K => ?_⟩
 rw [Ln rfl rfl, AdY, f97]
 simp only [Ye, B3, Bm, Bh, Bs, B7, A2, Ca, D2]
 refine Jg (Ah (ldC (o := 2) (x := .sc (.int .i64 h)) hc rfl (A4 (v := .sc (.int .i64 (IntKind.i64.wrap (h * 6364136223846793005)))) (fun k => rfl) (A4 (v := .sc (.int .i64 h1)) (fun k => by rw [← hh1]; rfl) (Jg (Ah (stC (i' := i) (h' := h1) hc rfl (by omega) rfl (Jg (Ah (ldC (o := 2) (x := .sc (.int .i64 h1)) hc1 rfl (A4 (v := .sc (.int .i64 (h1 / 2 ^ (33 : Int).toNat))) (fun k => rfl) (Jg (Ah (ldC (o := 2) (x := .sc (.int .i64 h1)) hc1 rfl (A4 (v := .sc (.int .i64 (h1 / 2 ^ (47 : Int).toNat))) (fun k => rfl) (A4 (v := .sc (.int .i64 y)) (fun k => by rw [← hy]; rfl) (A4 (v := .sc (.int .i64 (y % 256))) (fun k => Yg _ k) (Jg (Ah (ldC (o := 1) (x := .sc (.int .i64 i)) hc1 rfl (Jg (Ah (ldC (o := 0) (x := .ro code.size (Be code)) hc1 rfl (Dq (A4 (v := .sc (.bool (decide (i < code.size)))) (fun k => Ep _ _ k) (Z7 (Fn (by simpa using hlt) (Jg (Ah (ldC (o := 0) (x := .ro code.size (Be code)) hc1 rfl (Jg (Ah (ldC (o := 1) (x := .sc (.int .i64 i)) hc1 rfl ?_)))))))))))))))))))))))))))))))))
 rw [Acy code i hlt]
 refine AgT (z := (code.data.toList.getD i 0).toNat) (Gf _ (by omega) (by omega)) (A4 (v := .sc (.int .i64 (y % 256 + (code.data.toList.getD i 0).toNat))) (fun k => by rw [Ri, Gf _ (by omega) (by omega)]) (A4 (v := .sc (.int .i64 ((y % 256 + (code.data.toList.getD i 0).toNat) % 256))) (fun k => Yg _ k) (Jg (Ah (ldC (o := 1) (x := .sc (.int .i64 i)) hc1 rfl (A4 (v := .sc (.int .i64 ((i + 1 : Nat) : Int))) (fun k => Fl _ k (by omega)) (Jg (Ah (stC (i' := i + 1) (h' := h1) hc1 rfl (by omega) rfl ?_)))))))))
 rw [List.set_set, show (((y % 256 + (code.data.toList.getD i 0).toNat) % 256).toNat : Int) = (y % 256 + (code.data.toList.getD i 0).toNat) % 256 by omega]
 refine ⟨(y % 256).toNat, i, h1, by omega, fun K => ?_⟩
 rw [Ln rfl rfl, AdY, f97]
 simp only [Ye, B3, Bm, Bh, Bs, B7, A2, Ca, D2]
 refine Jg (Ah (ldC (o := 2) (x := .sc (.int .i64 h)) hc rfl (A4 (v := .sc (.int .i64 (IntKind.i64.wrap (h * 6364136223846793005)))) (fun k => rfl) (A4 (v := .sc (.int .i64 h1)) (fun k => by rw [← hh1]; rfl) (Jg (Ah (stC (i' := i) (h' := h1) hc rfl (by omega) rfl (Jg (Ah (ldC (o := 2) (x := .sc (.int .i64 h1)) hc1 rfl (A4 (v := .sc (.int .i64 (h1 / 2 ^ (33 : Int).toNat))) (fun k => rfl) (Jg (Ah (ldC (o := 2) (x := .sc (.int .i64 h1)) hc1 rfl (A4 (v := .sc (.int .i64 (h1 / 2 ^ (47 : Int).toNat))) (fun k => rfl) (A4 (v := .sc (.int .i64 y)) (fun k => by rw [← hy]; rfl) (A4 (v := .sc (.int .i64 (y % 256))) (fun k => Yg _ k) (Jg (Ah (ldC (o := 1) (x := .sc (.int .i64 i)) hc1 rfl (Jg (Ah (ldC (o := 0) (x := .ro code.size (Be code)) hc1 rfl (Dq (A4 (v := .sc (.bool (decide (i < code.size)))) (fun k => Ep _ _ k) (Z7 (Fy (by simpa using hlt) ?_)))))))))))))))))))))))))))
 rw [show ((y % 256).toNat : Int) = y % 256 by omega]
theorem AaW (c : Nat) (code : ByteArray) (hs : code.size ≤ 1048576) (i : Nat) (h : Int) (hc : H[c]? = some (N0 code i h)) (ty m : Nat) (h1 : 1 ≤ m) (h2 : m ≤ 256) :
  ∃ (x i' : Nat) (h' : Int), x < m ∧ ∀ K : KO β, (PR (n + 2) β).call ty (.fn 59 [] []) [.ptr c 0, si m] H K = K (si x) (H.set c (N0 code i' h')) := by
 obtain ⟨x, i', h', hx, hr⟩ := We (β := β) (n := n) c code hs i h hc 3
 refine ⟨x % m, i', h', Nat.mod_lt _ (by omega), fun K => ?_⟩
 rw [Ln rfl rfl, Za, f59]
 simp only [Bh, A2]
 refine A4 (v := .sc (.bool (decide ((m : Int) ≤ 0)))) (fun k => rfl) (Fy (by simp; omega) (A4 (v := .sc (.bool (decide ((m : Int) ≤ 256)))) (fun k => rfl) (Fn (by simp; omega) ?_)))
 rw [hr]
 refine A4 (v := si ((x % m : Nat) : Int)) (fun k => ?_) ?_
 show (Ym .rem .i64 (x : Int) (m : Int)).bind (fun v => k (.sc v)) = _
 have e : Ym .rem .i64 (x : Int) (m : Int) = some (.int .i64 ((x : Int).tmod m)) := by
  show (if (m : Int) = 0 then none else some (Value.int .i64 ((x : Int).tmod m))) = _
  rw [if_neg (by omega)]
 rw [e]
 show k (.sc (.int .i64 ((x : Int).tmod (m : Int)))) = _
 rw [show ((x : Int).tmod (m : Int)) = ((x % m : Nat) : Int) from rfl]
 rfl
theorem AaB (code : ByteArray) (h : Int) (K : KO β) : ((Fe [.nl, .sc (.int .i64 0), .sc (.int .i64 0)] [(0, 1, .ro code.size (Be code)), (2, 1, .sc (.int .i64 h))]).bind fun ct => O6 (.agg ct) H fun t H => K t H) = K (.ptr H.length 0) (H ++ [N0 code 0 h]) := rfl
theorem W9 (code : ByteArray) (hs : code.size ≤ 1048576) : ∀ (j m i : Nat) (h : Int), i + j = min code.size 4000 → j < m →
  ∃ h' : Int, ∀ k : KO β, N2 (PR n β) n k m (.ro code.size (Be code)) (si h) (si i) H = k (.ptr H.length 0) (H ++ [N0 code 0 h'])
 | 0, m + 1, i, h, hi, hm => by
  refine ⟨h, fun k => ?_⟩
  rw [N2]
  simp only [B7, Bh, A2, B6, Pr.gT, Pr.gF, Pr.hT, Pr.hF, Pr.kT, Pr.kF, Ce, Ca, Bm, D2, Bx, C8]
  refine Dq (A4 (v := sb (decide (i < code.size))) (fun k => Ep _ _ k) ?_)
  by_cases hl : i < code.size
  have e : decide (i < code.size) = true := by simpa using hl
  exact An e (An e (A4 (v := .sc (.bool (decide ((i : Int) < 4000)))) (fun k => rfl) (Q3 e (Fy (by simp; omega) (AaB code h k)))))
  have e : decide (i < code.size) = false := by simpa using hl
  exact Ao e (Ao e (Ts e (Fy rfl (AaB code h k))))
 | j + 1, m + 1, i, h, hi, hm => by
  have hl : i < code.size := by omega
  have hb := (code.data.toList.getD i 0).toNat_lt
  obtain ⟨h', ih⟩ := W9 code hs j m (i + 1) (bits .and .i64 (IntKind.i64.wrap (IntKind.i64.wrap (IntKind.i64.wrap (h * 137) + (code.data.toList.getD i 0).toNat) + 11)) 1073741823) (by omega) (by omega)
  refine ⟨h', fun k => ?_⟩
  rw [N2]
  simp only [B7, Bh, A2, B6, Pr.gT, Pr.gF, Pr.hT, Pr.hF, Pr.kT, Pr.kF, Ce, Ca, Bm, D2, Bx, C8]
  refine Dq (A4 (v := sb (decide (i < code.size))) (fun k => Ep _ _ k) ?_)
  have e : decide (i < code.size) = true := by simpa using hl
  refine An e (An e (A4 (v := .sc (.bool (decide ((i : Int) < 4000)))) (fun k => rfl) (Q3 e (Fn (by simp; omega) (A4 (v := .sc (.int .i64 (IntKind.i64.wrap (h * 137)))) (fun k => rfl) ?_)))))
  rw [Acy code i hl]
  exact AgT (z := (code.data.toList.getD i 0).toNat) (Gf _ (by omega) (by omega)) (A4 (v := si (IntKind.i64.wrap (IntKind.i64.wrap (h * 137) + (code.data.toList.getD i 0).toNat))) (fun k => rfl) (A4 (v := si (IntKind.i64.wrap (IntKind.i64.wrap (IntKind.i64.wrap (h * 137) + (code.data.toList.getD i 0).toNat) + 11))) (fun k => rfl) (A4 (v := .sc (.int .i64 (bits .and .i64 (IntKind.i64.wrap (IntKind.i64.wrap (IntKind.i64.wrap (h * 137) + (code.data.toList.getD i 0).toNat) + 11)) 1073741823))) (fun k => rfl) (A4 (v := si ((i + 1 : Nat) : Int)) (fun k => Fl _ k (by omega)) (ih k)))))
theorem Agg (code : ByteArray) (hs : code.size ≤ 1048576) (hn : 4000 < n) (ty : Nat) :
  ∃ h : Int, ∀ K : KO β, (PR (n + 1) β).call ty (.fn 40 [] []) [.ro code.size (Be code)] H K = K (.ptr H.length 0) (H ++ [N0 code 0 h]) := by
 obtain ⟨h', e⟩ := W9 (β := β) (n := n) (H := H) code hs (min code.size 4000) n 0 (IntKind.i64.wrap (128361 + (code.size : Int))) (by omega) (by omega)
 refine ⟨h', fun K => ?_⟩
 rw [Ln rfl rfl, Ah0, f40]
 simp only [B7, Bh]
 exact Dq (A4 (v := si (IntKind.i64.wrap (128361 + (code.size : Int)))) (fun k => rfl) (e K))
end
end
section
open Go
theorem Jk : ∃ i j, Ar 22 = some i ∧ Ar i.elem = some j ∧ j.size = 1 ∧ j.cty.length = 1 := ⟨_, _, rfl, rfl, rfl, rfl⟩
theorem Z6 : ∃ i j, Ar 39 = some i ∧ Ar i.elem = some j ∧ j.size = 1 ∧ j.cty.length = 1 := ⟨_, _, rfl, rfl, rfl, rfl⟩
theorem Qe : ∃ i j, Ar 38 = some i ∧ Ar i.elem = some j ∧ j.size = 1 ∧ j.cty.length = 1 := ⟨_, _, rfl, rfl, rfl, rfl⟩
structure Cd where
 fTopic : ByteArray
 fBody : ByteArray
 fQos : Int
 fRetain : Bool
def Aj (x : Cd) : List AV := .sc (.string x.fTopic) :: A3 x.fBody :: .sc (.int .i64 x.fQos) :: .sc (.bool x.fRetain) :: []
def Bo (x : Cd) : Nat := x.fTopic.size + (x.fBody.size + 0)
def Cp (x : Cd) : Prop := Ll x.fTopic ∧ Ll x.fBody ∧ Fb x.fQos ∧ True
theorem Ec (x : Cd) : (Aj x).length = 4 := rfl
theorem Ff (x : Cd) : (Aj x).all Iq = true := rfl
def Hg : List Nat := [9, 22, 3, 4]
theorem Nw : ∃ i, Ar 33 = some i ∧ i.cty = Hg := ⟨_, rfl, rfl⟩
theorem Io (d : Nat) (x : Cd) : Es (Gr Ar E0.tp (d + 2)) Hg (Aj x) := ⟨trivial, ⟨Jp (d := d + 0) Jk x.fBody, ⟨trivial, ⟨trivial, trivial⟩⟩⟩⟩
theorem K2 : ∃ i j, Ar 25 = some i ∧ Ar i.elem = some j ∧ j.size = 4 ∧ j.cty = Hg := ⟨_, _, rfl, rfl, rfl, rfl⟩
def Hs : List AV := [(.sc (.string ⟨#[]⟩)), .nl, (.sc (.int .i64 0)), (.sc (.bool false))]
structure Ad where
 fId : Int
 fM : Cd
 fSt : Int
def Aq (x : Ad) : List AV := .sc (.int .i64 x.fId) :: (Aj x.fM ++ .sc (.int .i64 x.fSt) :: [])
def As (x : Ad) : Nat := Bo x.fM + 0
def Bw (x : Ad) : Prop := Fb x.fId ∧ Cp x.fM ∧ Fb x.fSt
theorem A5 (x : Ad) : (Aq x).length = 6 := rfl
theorem Du (x : Ad) : (Aq x).all Iq = true := rfl
def F9 : List Nat := [3, 9, 22, 3, 4, 3]
theorem P2 (d : Nat) (x : Ad) : Es (Gr Ar E0.tp (d + 2)) F9 (Aq x) := ⟨trivial, G4 (ts := Hg) (ts' := [3]) (Io (d + 0) x.fM) ⟨trivial, trivial⟩⟩
theorem U4 : ∃ i j, Ar 24 = some i ∧ Ar i.elem = some j ∧ j.size = 6 ∧ j.cty = F9 := ⟨_, _, rfl, rfl, rfl, rfl⟩
def Tu : List AV := [(.sc (.int .i64 0)), (.sc (.string ⟨#[]⟩)), .nl, (.sc (.int .i64 0)), (.sc (.bool false)), (.sc (.int .i64 0))]
structure A7 where
 fLast : Int
 fFl : List Ad
 fQ : List Cd
def Bf (x : A7) : List AV := .sc (.int .i64 x.fLast) :: Ai Aq x.fFl :: Ai Aj x.fQ :: []
def Fj (x : A7) : Nat := Fm As x.fFl + (Fm Bo x.fQ + 0)
def O0 (x : A7) : Prop := Fb x.fLast ∧ (x.fFl.length ≤ 9223372036854775807 ∧ ∀ z ∈ x.fFl, Bw z) ∧ (x.fQ.length ≤ 9223372036854775807 ∧ ∀ z ∈ x.fQ, Cp z)
theorem Aim (x : A7) : (Bf x).length = 3 := rfl
theorem H4 (x : A7) : (Bf x).all Iq = true := rfl
def Rq : List Nat := [3, 24, 25]
theorem AeJ : ∃ i, Ar 27 = some i ∧ i.cty = Rq := ⟨_, rfl, rfl⟩
def Cn : List AV := [(.sc (.int .i64 0)), .nl, .nl]
structure Np where
 fFilter : ByteArray
 fQos : Int
def Dh (x : Np) : List AV := .sc (.string x.fFilter) :: .sc (.int .i64 x.fQos) :: []
def AeS (x : Np) : Nat := x.fFilter.size + 0
theorem L7 (x : Np) : (Dh x).length = 2 := rfl
def Aaj : List Nat := [9, 3]
theorem Vu (d : Nat) (x : Np) : Es (Gr Ar E0.tp (d + 1)) Aaj (Dh x) := ⟨trivial, ⟨trivial, trivial⟩⟩
theorem Ag2 : ∃ i j, Ar 37 = some i ∧ Ar i.elem = some j ∧ j.size = 2 ∧ j.cty = Aaj := ⟨_, _, rfl, rfl, rfl, rfl⟩
structure Az where
 fType : Int
 fDup : Bool
 fQos : Int
 fRetain : Bool
 fId : Int
 fTopic : ByteArray
 fBody : ByteArray
 fClient : ByteArray
 fLevel : Int
 fClean : Bool
 fKeep : Int
 fHasWill : Bool
 fWTopic : ByteArray
 fWBody : ByteArray
 fWQos : Int
 fWRetain : Bool
 fHasUser : Bool
 fUser : ByteArray
 fHasPass : Bool
 fPass : ByteArray
 fCode : Int
 fPresent : Bool
 fWants : List Np
 fNames : List ByteArray
 fCodes : List Int
def Bd (x : Az) : List AV := .sc (.int .i64 x.fType) :: .sc (.bool x.fDup) :: .sc (.int .i64 x.fQos) :: .sc (.bool x.fRetain) :: .sc (.int .i64 x.fId) :: .sc (.string x.fTopic) :: A3 x.fBody :: .sc (.string x.fClient) :: .sc (.int .i64 x.fLevel) :: .sc (.bool x.fClean) :: .sc (.int .i64 x.fKeep) :: .sc (.bool x.fHasWill) :: .sc (.string x.fWTopic) :: A3 x.fWBody :: .sc (.int .i64 x.fWQos) :: .sc (.bool x.fWRetain) :: .sc (.bool x.fHasUser) :: .sc (.string x.fUser) :: .sc (.bool x.fHasPass) :: A3 x.fPass :: .sc (.int .i64 x.fCode) :: .sc (.bool x.fPresent) :: Ai Dh x.fWants :: Is x.fNames :: Fz x.fCodes :: []
def Fw (x : Az) : Nat := x.fTopic.size + (x.fBody.size + (x.fClient.size + (x.fWTopic.size + (x.fWBody.size + (x.fUser.size + (x.fPass.size + (Fm AeS x.fWants + (Fm ByteArray.size x.fNames + (x.fCodes.length + 0)))))))))
theorem H6 (x : Az) : (Bd x).length = 25 := rfl
theorem Dv (x : Az) : (Bd x).all Iq = true := rfl
def T8 : List Nat := [3, 4, 3, 4, 3, 9, 22, 9, 3, 4, 3, 4, 9, 22, 3, 4, 4, 9, 4, 22, 3, 4, 37, 38, 39]
theorem Acb (d : Nat) (x : Az) : Es (Gr Ar E0.tp (d + 2)) T8 (Bd x) := ⟨trivial, ⟨trivial, ⟨trivial, ⟨trivial, ⟨trivial, ⟨trivial, ⟨Jp (d := d + 0) Jk x.fBody, ⟨trivial, ⟨trivial, ⟨trivial, ⟨trivial, ⟨trivial, ⟨trivial, ⟨Jp (d := d + 0) Jk x.fWBody, ⟨trivial, ⟨trivial, ⟨trivial, ⟨trivial, ⟨trivial, ⟨Jp (d := d + 0) Jk x.fPass, ⟨trivial, ⟨trivial, ⟨Gs (d := d + 1) L7 Ag2 (Vu (d + 0)) x.fWants, ⟨J9 (d := d + 0) (fun s : ByteArray => .string s) Qe x.fNames, ⟨J9 (d := d + 0) (fun z : Int => .int .i64 z) Z6 x.fCodes, trivial⟩⟩⟩⟩⟩⟩⟩⟩⟩⟩⟩⟩⟩⟩⟩⟩⟩⟩⟩⟩⟩⟩⟩⟩⟩
end
section
open Go
section own
variable {ti : Nat → Option TI} {tp : Nat → Option (List Nat)}
theorem Fc {f : Nat → AV → Option (AV × List Nat)} {t : Nat} {ts : List Nat} {x : AV} {xs : List AV} {p : List AV × List Nat} (h : Cg f (t :: ts) (x :: xs) = some p) :
  ∃ a b, f t x = some a ∧ Cg f ts xs = some b ∧ p = (a.1 :: b.1, a.2 ++ b.2) := by
 simp only [Cg, zaa] at h
 obtain ⟨a, h1, b, h2, h3⟩ := h
 exact ⟨a, b, h1, h2, (Option.some.inj h3).symm⟩
theorem I9 {f : Nat → AV → Option (AV × List Nat)} {ts : List Nat} {p : List AV × List Nat} (h : Cg f ts [] = some p) : ts = [] ∧ p = ([], []) := by
 cases ts with
 | nil => exact ⟨rfl, (Option.some.inj h).symm⟩
 | cons t ts => simp [Cg] at h
theorem S2 {f : Nat → AV → Option (AV × List Nat)} : ∀ {ts : List Nat} {xs : List AV} {p : List AV × List Nat}, Cg f ts xs = some p → ts.length = xs.length ∧ p.1.length = xs.length
 | ts, [], p, h => by
  obtain ⟨rfl, rfl⟩ := I9 h
  exact ⟨rfl, rfl⟩
 | [], _ :: _, p, h => by simp [Cg] at h
 | t :: ts, x :: xs, p, h => by
  obtain ⟨a, b, h1, h2, rfl⟩ := Fc h
  obtain ⟨e1, e2⟩ := S2 h2
  simp [e1, e2]
theorem H7 {f : Nat → AV → Option (AV × List Nat)} : ∀ {ts us : List Nat} {xs ys : List AV} {p q : List AV × List Nat}, Cg f ts xs = some p → Cg f us ys = some q → Cg f (ts ++ us) (xs ++ ys) = some (p.1 ++ q.1, p.2 ++ q.2)
 | ts, us, [], ys, p, q, h, h' => by
  obtain ⟨rfl, rfl⟩ := I9 h
  exact h'
 | [], _, _ :: _, _, _, _, h, _ => by simp [Cg] at h
 | t :: ts, us, x :: xs, ys, p, q, h, h' => by
  obtain ⟨a, b, h1, h2, rfl⟩ := Fc h
  have ih := H7 h2 h'
  rw [zar, zar, Cg, h1, zab, ih]
  simp
theorem Eg {f f' : Nat → AV → Option (AV × List Nat)} : ∀ {ts : List Nat} {xs : List AV} {p : List AV × List Nat}, (∀ t x a, f t x = some a → (∀ i ∈ a.2, i ∈ p.2) → f' t x = some a) → Cg f ts xs = some p → Cg f' ts xs = some p
 | ts, [], p, _, h => by
  obtain ⟨rfl, rfl⟩ := I9 h
  rfl
 | [], _ :: _, p, _, h => by simp [Cg] at h
 | t :: ts, x :: xs, p, hf, h => by
  obtain ⟨a, b, h1, h2, rfl⟩ := Fc h
  have e1 := hf t x a h1 fun i hi => zas _ hi
  have e2 := Eg (f' := f') (fun t x a' h hi => hf t x a' h fun i hi' => zap _ (hi i hi')) h2
  rw [Cg, e1, zab, e2]
  rfl
theorem C7 {H H' : Ab} : ∀ (d ty : Nat) (x : AV) (p : AV × List Nat), B4 ti tp H d ty x = some p → (∀ i ∈ p.2, H'[i]? = H[i]?) → B4 ti tp H' d ty x = some p
 | 0, _, _, _, h, _ => by simp [B4] at h
 | d + 1, ty, x, p, h, hs => by
  cases x with
  | sc v => exact h
  | nl => exact h
  | sl id off n z =>
   rw [Gn] at h ⊢
   simp only [zaa] at h
   obtain ⟨i, h1, j, h2, h3⟩ := h
   split at h3
   case isFalse => cases h3
   rename_i hz
   split at h3
   case isFalse => cases h3
   rename_i ha
   simp only [zaa] at h3
   obtain ⟨cs, h4, q, h5, h6⟩ := h3
   obtain rfl := (Option.some.inj h6).symm
   have hid := hs id za8
   have e1 : Ga H' id = true := by simpa only [Ga, hid] using ha
   have e2 : Ax H' id off (n * z) = some cs := by simpa only [Ax, hid] using h4
   have e3 := Eg (f' := B4 ti tp H' d) (fun t x a h hi => C7 d t x a h fun i' hi' => hs i' (zat _ (hi i' hi'))) h5
   simp only [h1, h2, zab, hz, if_true, e1, e3]
   rw [hz] at e2
   rw [e2]
   simp only [zab, e3]
  | agg cs =>
   rw [E4] at h ⊢
   simp only [zaa] at h
   obtain ⟨i, h1, q, h2, h3⟩ := h
   obtain rfl := (Option.some.inj h3).symm
   have e3 := Eg (f' := B4 ti tp H' d) (fun t x a h hi => C7 d t x a h fun i' hi' => hs i' (hi i' hi')) h2
   rw [h1, zab, e3]
   rfl
  | tup cs =>
   rw [Gb] at h ⊢
   simp only [zaa] at h
   obtain ⟨i, h1, q, h2, h3⟩ := h
   obtain rfl := (Option.some.inj h3).symm
   have e3 := Eg (f' := B4 ti tp H' d) (fun t x a h hi => C7 d t x a h fun i' hi' => hs i' (hi i' hi')) h2
   rw [h1, zab, e3]
   rfl
  | _ => simp [B4] at h
theorem O2 {f : Nat → AV → Option (AV × List Nat)} {N : Nat} : ∀ {ts : List Nat} {xs : List AV} {p : List AV × List Nat}, (∀ t x a, f t x = some a → ∀ i ∈ a.2, i < N) → Cg f ts xs = some p → ∀ i ∈ p.2, i < N
 | ts, [], p, _, h => by
  obtain ⟨rfl, rfl⟩ := I9 h
  intro i hi
  cases hi
 | [], _ :: _, p, _, h => by simp [Cg] at h
 | t :: ts, x :: xs, p, hf, h => by
  obtain ⟨a, b, h1, h2, rfl⟩ := Fc h
  intro i hi
  rcases zaJ.1 hi with hi | hi
  ·exact hf t x a h1 i hi
  ·exact O2 hf h2 i hi
theorem Kx {H : Ab} : ∀ (d ty : Nat) (x : AV) (p : AV × List Nat), B4 ti tp H d ty x = some p → ∀ i ∈ p.2, i < H.length
 | 0, _, _, _, h => by simp [B4] at h
 | d + 1, ty, x, p, h => by
  cases x with
  | sc v =>
   obtain rfl := (Option.some.inj h).symm
   intro i hi
   cases hi
  | nl =>
   obtain rfl := (Option.some.inj h).symm
   intro i hi
   cases hi
  | sl id off n z =>
   rw [Gn] at h
   simp only [zaa] at h
   obtain ⟨i, h1, j, h2, h3⟩ := h
   split at h3
   case isFalse => cases h3
   split at h3
   case isFalse => cases h3
   rename_i ha
   simp only [zaa] at h3
   obtain ⟨cs, h4, q, h5, h6⟩ := h3
   obtain rfl := (Option.some.inj h6).symm
   intro i' hi'
   rcases za2.1 hi' with rfl | hi'
   ·unfold Ga at ha
    cases hg : H[i']? with
    | none => rw [hg] at ha; cases ha
    | some b => exact (zac.1 hg).1
   ·exact O2 (fun t x a h => Kx d t x a h) h5 i' hi'
  | agg cs =>
   rw [E4] at h
   simp only [zaa] at h
   obtain ⟨i, h1, q, h2, h3⟩ := h
   obtain rfl := (Option.some.inj h3).symm
   exact O2 (fun t x a h => Kx d t x a h) h2
  | tup cs =>
   rw [Gb] at h
   simp only [zaa] at h
   obtain ⟨i, h1, q, h2, h3⟩ := h
   obtain rfl := (Option.some.inj h3).symm
   exact O2 (fun t x a h => Kx d t x a h) h2
  | _ => simp [B4] at h
end own
def OwnC (d : Nat) (H : Ab) (ts : List Nat) (raw cells : List AV) (ids : List Nat) : Prop := Cg (B4 Ar E0.tp H d) ts raw = some (cells, ids)
theorem OwnC.frame {d : Nat} {H H' : Ab} {ts : List Nat} {raw cells : List AV} {ids : List Nat} (h : OwnC d H ts raw cells ids) (hs : ∀ i ∈ ids, H'[i]? = H[i]?) : OwnC d H' ts raw cells ids :=
 Eg (fun t x a h hi => C7 d t x a h fun i hi' => hs i (hi i hi')) h
theorem OwnC.lt {d : Nat} {H : Ab} {ts : List Nat} {raw cells : List AV} {ids : List Nat} (h : OwnC d H ts raw cells ids) : ∀ i ∈ ids, i < H.length := O2 (fun t x a h => Kx d t x a h) h
theorem OwnC.grow {d : Nat} {H : Ab} {ts : List Nat} {raw cells : List AV} {ids : List Nat} (h : OwnC d H ts raw cells ids) (X : List Hf) : OwnC d (H ++ X) ts raw cells ids :=
 h.frame fun i hi => zaf (h.lt i hi)
theorem OwnC.append {d : Nat} {H : Ab} {ts us : List Nat} {raw raw' cells cells' : List AV} {ids ids' : List Nat} (h : OwnC d H ts raw cells ids) (h' : OwnC d H us raw' cells' ids') : OwnC d H (ts ++ us) (raw ++ raw') (cells ++ cells') (ids ++ ids') := H7 h h'
theorem OwnC.len {d : Nat} {H : Ab} {ts : List Nat} {raw cells : List AV} {ids : List Nat} (h : OwnC d H ts raw cells ids) : ts.length = raw.length ∧ cells.length = raw.length := S2 h
def OwnS (d : Nat) (H : Ab) (w : Nat) (cty : List Nat) (x : AV) (k : Nat) (cells : List AV) : Prop :=
 (x = .nl ∧ k = 0 ∧ cells = []) ∨ ∃ id raw ids, x = .sl id 0 k w ∧ H[id]? = some ⟨raw, true, true⟩ ∧ raw.length = k * w ∧ OwnC d H (zad k cty).flatten raw cells ids ∧ (id :: ids).Nodup
theorem OwnS.nil (d : Nat) (H : Ab) (w : Nat) (cty : List Nat) : OwnS d H w cty .nl 0 [] := .inl ⟨rfl, rfl, rfl⟩
theorem OwnS.grow {d : Nat} {H : Ab} {w : Nat} {cty : List Nat} {x : AV} {k : Nat} {cells : List AV} (h : OwnS d H w cty x k cells) (X : List Hf) : OwnS d (H ++ X) w cty x k cells := by
 rcases h with h | ⟨id, raw, ids, h1, h2, h3, h4, h5⟩
 ·exact .inl h
 ·exact .inr ⟨id, raw, ids, h1, by rw [zaf (zac.1 h2).1]; exact h2, h3, h4.grow X, h5⟩
variable {β : Type} {n : Nat} {r : Option β}
theorem Zy (A : Ab) (b b' : Hf) (R : Ab) : (A ++ b :: R).set A.length b' = A ++ b' :: R := by
 rw [List.set_append_right _ _ (zak _), zaO]
 rfl
theorem Kt (A : Ab) (b : Hf) (R : Ab) : (A ++ b :: R)[A.length]? = some b := by
 rw [zae (zak _), zaO]
 rfl
theorem Aaf {d : Nat} {H X : Ab} {w bytes : Nat} {cty : List Nat} {x : AV} {k : Nat} {cells er ec : List AV} {eids : List Nat} {K : KO β} (hx : OwnS d H w cty x k cells) (hw : er.length = w) (hl : er.all Ap = true)
  (he : OwnC d (H ++ X) cty er ec eids) (hn : eids.Nodup) (hge : ∀ i ∈ eids, H.length ≤ i) (hb : (k + 1) * bytes ≤ 140737488355328)
  (h : ∀ x' H', OwnS d H' w cty x' (k + 1) (cells ++ ec) → K x' H' = r) :
  Fg 1 w er true (H ++ X) (fun y G => Ic w bytes x y G K) = r := by
 have hy : ∀ G : Ab, Cj (G ++ [⟨er, true, true⟩]) w (.sl G.length 0 1 w) = some er := by
  intro G
  simp only [Cj, if_true, zbt, Ax, Kt G _ [], zaw, hw, zak, zaA]
  rw [← hw, za0]
 have hell : (H ++ X).length ∉ eids := fun hm => Nat.lt_irrefl _ (he.lt _ hm)
 rcases hx with ⟨rfl, rfl, rfl⟩ | ⟨id, raw, ids, rfl, h2, h3, h4, h5⟩
 ·simp only [Fg, Ic, G2, zab, hy]
  rw [show Cj (H ++ X ++ [⟨er, true, true⟩]) w .nl = some [] from rfl]
  simp only [zab, L5]
  rw [if_pos hb, if_pos hl]
  refine h _ _ (.inr ⟨_, er, eids, rfl, ?_, by simp [hw], ?_, ?_⟩)
  ·rw [zae (zak _), zaO]
   rfl
  ·simp only [zaw, List.replicate_one, zaE, List.flatten_nil, zan, zah]
   exact (he.grow _).grow _
  ·rw [zaH]
   refine ⟨fun hm => ?_, hn⟩
   have := he.lt _ hm
   simp at this
   omega
 ·have hid : id < H.length := (zac.1 h2).1
  have hg : (H ++ X ++ [(⟨er, true, true⟩ : Hf)])[id]? = some ⟨raw, true, true⟩ := by
   rw [zaj, zaf hid]
   exact h2
  have hcx : Cj (H ++ X ++ [⟨er, true, true⟩]) w (.sl id 0 k w) = some raw := by
   simp only [Cj, if_true, Ax, hg, zaw, h3, zak, zaA]
   rw [← h3, za0]
  simp only [Fg, Ic, G2, zab, hy, hcx, L5, hg, if_true]
  rw [if_pos hb, if_pos hl]
  have hn5 := zaH.1 h5
  have hne : ∀ i ∈ ids, i ≠ id := fun i hi e => hn5.1 (e ▸ hi)
  have hne2 : ∀ i ∈ eids, i ≠ id := fun i hi e => by
   have := hge i hi
   omega
  refine h _ _ (.inr ⟨_, raw ++ er, ids ++ eids, rfl, ?_, by simp [h3, hw, zbN], ?_, ?_⟩)
  ·rw [zae (zak _), zaO]
   rfl
  ·have e : (zad (k + 1) cty).flatten = (zad k cty).flatten ++ cty := by
    rw [List.replicate_succ', zax]
    simp
   rw [e]
   refine OwnC.append ?_ ?_
   ·refine OwnC.grow (OwnC.frame (H := H ++ X ++ [⟨er, true, true⟩]) ((h4.grow X).grow _) fun i hi => ?_) _
    rw [za1 (fun e => hne i hi e.symm)]
   ·refine OwnC.grow (OwnC.frame (H := H ++ X ++ [⟨er, true, true⟩]) (he.grow _) fun i hi => ?_) _
    rw [za1 (fun e => hne2 i hi e.symm)]
  ·rw [zaH]
   refine ⟨fun hm => ?_, ?_⟩
   ·rcases zaJ.1 hm with hm | hm
    ·have := h4.lt _ hm
     simp at this
     omega
    ·have := he.lt _ hm
     simp at this
     omega
   ·rw [zaP]
    refine ⟨hn5.2, hn, fun a ha b hb e => ?_⟩
    have h1 := h4.lt a ha
    have h2 := hge b hb
    omega
theorem AaK {d : Nat} {H : Ab} {ts : List Nat} {cs : List AV} (h : Es (Gr Ar E0.tp d) ts cs) : OwnC d (H ++ (B5 Ar E0.tp H.length ts cs).2) ts (B5 Ar E0.tp H.length ts cs).1 cs (zbk H.length (B5 Ar E0.tp H.length ts cs).2.length) :=
 Lg (fun ty t N h h' _ => Gt d ty t N h h') ts cs H.length h (Jt _ _) (Fx _ _ _)
theorem Rb {d : Nat} {H : Ab} {w tyS k : Nat} {cty : List Nat} {x : AV} {cells : List AV} (hty : ∃ i j, Ar tyS = some i ∧ Ar i.elem = some j ∧ j.size = w ∧ j.cty = cty) (h : OwnS d H w cty x k cells) : ∃ ids, B4 Ar E0.tp H (d + 1) tyS x = some (.ro k cells, ids) ∧ ids.Nodup := by
 rcases h with ⟨rfl, rfl, rfl⟩ | ⟨id, raw, ids, rfl, h2, h3, h4, h5⟩
 ·exact ⟨[], rfl, zb3⟩
 ·obtain ⟨i, j, e1, e2, rfl, rfl⟩ := hty
  refine ⟨id :: ids, ?_, h5⟩
  rw [Gn]
  have ha : Ga H id = true := by simp only [Ga, h2]
  have hr : Ax H id 0 (k * j.size) = some raw := by
   simp only [Ax, h2, if_true, zaw, h3, zak, zaA]
   rw [← h3, za0]
  have h4' : Cg (B4 Ar E0.tp H d) (zad k j.cty).flatten raw = some (cells, ids) := h4
  simp only [e1, e2, zab, if_true, ha, hr, h4']
end
section
open Go
section
variable {ti : Nat → Option TI} {tp : Nat → Option (List Nat)} {H : Ab}
theorem My {d d' : Nat} (hd : ∀ ty x t I, B4 ti tp H d ty x = some (t, I) → Gr ti tp d' ty t → B4 ti tp H d' ty x = some (t, I)) : ∀ (ts : List Nat) (xs cells : List AV) (I : List Nat), Cg (B4 ti tp H d) ts xs = some (cells, I) → Es (Gr ti tp d') ts cells → Cg (B4 ti tp H d') ts xs = some (cells, I)
 | ts, [], cells, I, h, _ => by
  obtain ⟨rfl, e⟩ := I9 h
  cases e
  rfl
 | [], _ :: _, _, _, h, _ => by simp [Cg] at h
 | t :: ts, x :: xs, cells, I, h, ho => by
  obtain ⟨a, b, h1, h2, e⟩ := Fc h
  cases e
  have e1 := hd t x a.1 a.2 h1 ho.1
  have e2 := My hd ts xs b.1 b.2 h2 ho.2
  rw [Cg, e1, zab, e2]
  rfl
theorem Ht : ∀ (d d' ty : Nat) (x t : AV) (I : List Nat), B4 ti tp H d ty x = some (t, I) → Gr ti tp d' ty t → B4 ti tp H d' ty x = some (t, I)
 | 0, _, _, _, _, _, h, _ => by simp [B4] at h
 | d + 1, 0, _, _, _, _, _, ho => by cases ho
 | d + 1, d' + 1, ty, x, t, I, h, ho => by
  cases x with
  | sc v =>
   obtain ⟨rfl, rfl⟩ : AV.sc v = t ∧ [] = I := by simpa [B4] using h
   rfl
  | nl =>
   obtain ⟨rfl, rfl⟩ : AV.ro 0 [] = t ∧ [] = I := by simpa [B4] using h
   rfl
  | sl id off n z =>
   rw [Gn] at h ⊢
   simp only [zaa] at h
   obtain ⟨i, h1, j, h2, h3⟩ := h
   split at h3
   case isFalse => cases h3
   rename_i hz
   split at h3
   case isFalse => cases h3
   rename_i ha
   simp only [zaa] at h3
   obtain ⟨cs, h4, q, h5, h6⟩ := h3
   obtain ⟨rfl, rfl⟩ : AV.ro n q.1 = t ∧ id :: q.2 = I := by simpa using h6
   obtain ⟨i', j', g1, g2, g3, g4⟩ := ho
   rw [h1] at g1
   cases g1
   rw [h2] at g2
   cases g2
   have e3 := My (fun ty x t I h ho => Ht d d' ty x t I h ho) _ _ _ _ h5 g4
   rw [hz] at h4
   simp only [h1, h2, zab, hz, if_true, ha, h4, e3]
  | agg cs =>
   rw [E4] at h ⊢
   simp only [zaa] at h
   obtain ⟨i, h1, q, h2, h3⟩ := h
   obtain ⟨rfl, rfl⟩ : AV.agg q.1 = t ∧ q.2 = I := by simpa using h3
   obtain ⟨i', g1, g2⟩ := ho
   rw [h1] at g1
   cases g1
   have e3 := My (fun ty x t I h ho => Ht d d' ty x t I h ho) _ _ _ _ h2 g2
   rw [h1, zab, e3]
   rfl
  | tup cs =>
   rw [Gb] at h ⊢
   simp only [zaa] at h
   obtain ⟨i, h1, q, h2, h3⟩ := h
   obtain ⟨rfl, rfl⟩ : AV.tup q.1 = t ∧ q.2 = I := by simpa using h3
   obtain ⟨i', g1, g2⟩ := ho
   rw [h1] at g1
   cases g1
   have e3 := My (fun ty x t I h ho => Ht d d' ty x t I h ho) _ _ _ _ h2 g2
   rw [h1, zab, e3]
   rfl
  | _ => simp [B4] at h
theorem Us {d : Nat} (hd : ∀ ty x t I, B4 ti tp H d ty x = some (t, I) → Dg H d x = some t) : ∀ (ts : List Nat) (xs cells : List AV) (I : List Nat), Cg (B4 ti tp H d) ts xs = some (cells, I) → xs.mapM (Dg H d) = some cells
 | ts, [], cells, I, h => by
  obtain ⟨rfl, e⟩ := I9 h
  cases e
  rfl
 | [], _ :: _, _, _, h => by simp [Cg] at h
 | t :: ts, x :: xs, cells, I, h => by
  obtain ⟨a, b, h1, h2, e⟩ := Fc h
  cases e
  simp only [zba, hd t x a.1 a.2 h1, Us hd ts xs b.1 b.2 h2, zbl, zaX, zab]
theorem Mz : ∀ (d ty : Nat) (x t : AV) (I : List Nat), B4 ti tp H d ty x = some (t, I) → Dg H d x = some t
 | 0, _, _, _, _, h => by simp [B4] at h
 | d + 1, ty, x, t, I, h => by
  have ih := Us (ti := ti) (tp := tp) (H := H) (d := d) (fun ty x t I h => Mz d ty x t I h)
  cases x with
  | sc v =>
   obtain ⟨rfl, rfl⟩ : AV.sc v = t ∧ [] = I := by simpa [B4] using h
   rfl
  | nl =>
   obtain ⟨rfl, rfl⟩ : AV.ro 0 [] = t ∧ [] = I := by simpa [B4] using h
   rfl
  | sl id off n z =>
   rw [Gn] at h
   simp only [zaa] at h
   obtain ⟨i, h1, j, h2, h3⟩ := h
   split at h3
   case isFalse => cases h3
   split at h3
   case isFalse => cases h3
   simp only [zaa] at h3
   obtain ⟨cs, h4, q, h5, h6⟩ := h3
   obtain ⟨rfl, rfl⟩ : AV.ro n q.1 = t ∧ id :: q.2 = I := by simpa using h6
   rw [Ph, h4, zab, ih _ _ _ _ h5]
   rfl
  | agg cs =>
   rw [E4] at h
   simp only [zaa] at h
   obtain ⟨i, h1, q, h2, h3⟩ := h
   obtain ⟨rfl, rfl⟩ : AV.agg q.1 = t ∧ q.2 = I := by simpa using h3
   rw [Ni, ih _ _ _ _ h2]
   rfl
  | tup cs =>
   rw [Gb] at h
   simp only [zaa] at h
   obtain ⟨i, h1, q, h2, h3⟩ := h
   obtain ⟨rfl, rfl⟩ : AV.tup q.1 = t ∧ q.2 = I := by simpa using h3
   show (cs.mapM (Dg H d)).bind _ = _
   rw [ih _ _ _ _ h2]
   rfl
  | _ => simp [B4] at h
theorem Lf {f g : Nat → AV → Prop} (hfg : ∀ t x, f t x → g t x) : ∀ {ts : List Nat} {cs : List AV}, Es f ts cs → Es g ts cs
 | [], [], h => h
 | _ :: ts, _ :: cs, h => ⟨hfg _ _ h.1, Lf hfg h.2⟩
theorem O1 : ∀ (d ty : Nat) (x : AV), Gr ti tp d ty x → Gr ti tp (d + 1) ty x
 | 0, _, _, h => by cases h
 | d + 1, ty, x, h => by
  cases x with
  | sc v => trivial
  | ro n cells =>
   obtain ⟨i, j, h1, h2, h3, h4⟩ := h
   exact ⟨i, j, h1, h2, h3, Lf (O1 d) h4⟩
  | agg cs =>
   obtain ⟨i, h1, h2⟩ := h
   exact ⟨i, h1, Lf (O1 d) h2⟩
  | tup cs =>
   obtain ⟨i, h1, h2⟩ := h
   exact ⟨i, h1, Lf (O1 d) h2⟩
  | _ => cases h
theorem At {d d' ty : Nat} {x : AV} (h : Gr ti tp d ty x) (hd : d ≤ d') : Gr ti tp d' ty x := by
 induction hd with
 | refl => exact h
 | step _ ih => exact O1 _ _ _ ih
theorem AaC {d d' : Nat} {ts : List Nat} {cs : List AV} (h : Es (Gr ti tp d) ts cs) (hd : d ≤ d') : Es (Gr ti tp d') ts cs := Lf (fun _ _ h => At h hd) h
end
inductive Ck where
 | blk (id : Nat) (cs : List AV) (a : Bool)
 | own (x : AV) (ty : Nat) (t : AV)
 | shr (x : AV) (ty : Nat) (t : AV) (y : AV) (ty' : Nat) (t' : AV)
 | shs (x : AV) (ty : Nat) (t : AV) (ys : List (AV × Nat × AV))
def CkOk (H : Ab) (c : Ck) (I : List Nat) : Prop :=
 match c with
 | .blk id cs a => I = [id] ∧ H[id]? = some ⟨cs, true, a⟩
 | .own x ty t => Ap x = true ∧ Gr Ar E0.tp 6 ty t ∧ B4 Ar E0.tp H 6 ty x = some (t, I)
 | .shr x ty t y ty' t' => (Ap x = true ∧ Gr Ar E0.tp 6 ty t ∧ B4 Ar E0.tp H 6 ty x = some (t, I)) ∧ Gr Ar E0.tp 6 ty' t' ∧ ∃ J, B4 Ar E0.tp H 6 ty' y = some (t', J) ∧ ∀ i ∈ J, i ∈ I
 | .shs x ty t ys => (Ap x = true ∧ Gr Ar E0.tp 6 ty t ∧ B4 Ar E0.tp H 6 ty x = some (t, I)) ∧ ∀ q ∈ ys, Gr Ar E0.tp 6 q.2.1 q.2.2 ∧ ∃ J, B4 Ar E0.tp H 6 q.2.1 q.1 = some (q.2.2, J) ∧ ∀ i ∈ J, i ∈ I
def SepI (H : Ab) : List Ck → List Nat → Prop
 | [], I => I = []
 | c :: L, I => ∃ J R, I = J ++ R ∧ CkOk H c J ∧ SepI H L R
def Sep (H : Ab) (L : List Ck) : Prop := ∃ I, SepI H L I ∧ I.Nodup
inductive Pk : List Ck → Ck → List Ck → Prop
 | here {c : Ck} {L : List Ck} : Pk (c :: L) c L
 | there {a c : Ck} {L L' : List Ck} : Pk L c L' → Pk (a :: L) c (a :: L')
section
variable {H H' : Ab} {L L' L1 L2 : List Ck} {c : Ck} {I J R : List Nat}
theorem Gz : Sep H [] := ⟨[], rfl, zb3⟩
theorem CkOk.frame (h : CkOk H c I) (hs : ∀ i ∈ I, H'[i]? = H[i]?) : CkOk H' c I := by
 cases c with
 | blk id cs a =>
  obtain ⟨rfl, h2⟩ := h
  exact ⟨rfl, by rw [hs id (by simp)]; exact h2⟩
 | own x ty t => exact ⟨h.1, h.2.1, C7 6 ty x _ h.2.2 hs⟩
 | shr x ty t y ty' t' =>
  obtain ⟨⟨h1, h2, h3⟩, h4, J, h5, h6⟩ := h
  exact ⟨⟨h1, h2, C7 6 ty x _ h3 hs⟩, h4, J, C7 6 ty' y _ h5 fun i hi => hs i (h6 i hi), h6⟩
 | shs x ty t ys =>
  obtain ⟨⟨h1, h2, h3⟩, h4⟩ := h
  exact ⟨⟨h1, h2, C7 6 ty x _ h3 hs⟩, fun q hq => by
   obtain ⟨g1, J, g2, g3⟩ := h4 q hq
   exact ⟨g1, J, C7 6 _ _ _ g2 fun i hi => hs i (g3 i hi), g3⟩⟩
theorem CkOk.lt (h : CkOk H c I) : ∀ i ∈ I, i < H.length := by
 cases c with
 | blk id cs a =>
  obtain ⟨rfl, h2⟩ := h
  intro i hi
  rw [zb6] at hi
  subst hi
  exact (zac.1 h2).1
 | own x ty t => exact Kx 6 ty x _ h.2.2
 | shr x ty t y ty' t' => exact Kx 6 ty x _ h.1.2.2
 | shs x ty t ys => exact Kx 6 ty x _ h.1.2.2
theorem SepI.frame : ∀ {L : List Ck} {I : List Nat}, SepI H L I → (∀ i ∈ I, H'[i]? = H[i]?) → SepI H' L I
 | [], I, h, _ => h
 | c :: L, I, h, hs => by
  obtain ⟨J, R, rfl, h1, h2⟩ := h
  exact ⟨J, R, rfl, h1.frame fun i hi => hs i (zas _ hi), h2.frame fun i hi => hs i (zap _ hi)⟩
theorem SepI.lt : ∀ {L : List Ck} {I : List Nat}, SepI H L I → ∀ i ∈ I, i < H.length
 | [], I, h => by
  cases (show I = [] from h)
  intro i hi
  cases hi
 | c :: L, I, h => by
  obtain ⟨J, R, rfl, h1, h2⟩ := h
  intro i hi
  rcases zaJ.1 hi with hi | hi
  ·exact h1.lt i hi
  ·exact h2.lt i hi
theorem SepI.grow (h : SepI H L I) (X : List Hf) : SepI (H ++ X) L I := h.frame fun i hi => zaf (h.lt i hi)
theorem Sep.grow (h : Sep H L) (X : List Hf) : Sep (H ++ X) L := by
 obtain ⟨I, h1, h2⟩ := h
 exact ⟨I, h1.grow X, h2⟩
theorem Sep.new {X : List Hf} (hs : Sep H L) (hc : CkOk (H ++ X) c J) (hJ : J.Nodup) (hge : ∀ i ∈ J, H.length ≤ i) : Sep (H ++ X) (c :: L) := by
 obtain ⟨I, h1, h2⟩ := hs
 refine ⟨J ++ I, ⟨J, I, rfl, hc, h1.grow X⟩, zaP.2 ⟨hJ, h2, fun a ha b hb e => ?_⟩⟩
 have := h1.lt b hb
 have := hge a ha
 omega
theorem Pk.sepI : ∀ {L L' : List Ck} {c : Ck} {I : List Nat}, Pk L c L' → SepI H L I → ∃ J R, CkOk H c J ∧ SepI H L' R ∧ I.Perm (J ++ R)
 | _, _, _, _, .here, h => by
  obtain ⟨J, R, rfl, h1, h2⟩ := h
  exact ⟨J, R, h1, h2, zb1.refl _⟩
 | _, _, _, _, .there p, h => by
  obtain ⟨J, R, rfl, h1, h2⟩ := h
  obtain ⟨J', R', g1, g2, g3⟩ := p.sepI h2
  refine ⟨J', J ++ R', g1, ⟨J, R', rfl, h1, g2⟩, ?_⟩
  refine (zb1.append_left J g3).trans ?_
  rw [← zaj, ← zaj]
  exact zb1.append_right R' List.perm_append_comm
theorem Sep.pick (h : Sep H L) (p : Pk L c L') : Sep H (c :: L') := by
 obtain ⟨I, h1, h2⟩ := h
 obtain ⟨J, R, g1, g2, g3⟩ := p.sepI h1
 exact ⟨J ++ R, ⟨J, R, rfl, g1, g2⟩, g3.nodup_iff.1 h2⟩
theorem Sep.tail (h : Sep H (c :: L)) : Sep H L := by
 obtain ⟨I, ⟨J, R, rfl, h1, h2⟩, h3⟩ := h
 exact ⟨R, h2, (zaP.1 h3).2.1⟩
theorem Sep.blk {id : Nat} {cs : List AV} {a : Bool} (h : Sep H L) (p : Pk L (.blk id cs a) L') : H[id]? = some ⟨cs, true, a⟩ := by
 obtain ⟨I, ⟨J, R, rfl, h1, h2⟩, h3⟩ := h.pick p
 exact h1.2
theorem Sep.put {id : Nat} {cs : List AV} {a : Bool} (h : Sep H L) (p : Pk L (.blk id cs a) L') (cs' : List AV) (a' : Bool) : Sep (H.set id ⟨cs', true, a'⟩) (.blk id cs' a' :: L') := by
 obtain ⟨I, ⟨J, R, rfl, ⟨rfl, h1⟩, h2⟩, h3⟩ := h.pick p
 have hn := (zaH.1 h3).1
 have hl := (zac.1 h1).1
 refine ⟨[id] ++ R, ⟨[id], R, rfl, ⟨rfl, by rw [zbf hl]⟩, h2.frame fun i hi => ?_⟩, h3⟩
 rw [za1]
 rintro rfl
 exact hn hi
theorem Sep.own {x t : AV} {ty : Nat} (h : Sep H L) (p : Pk L (.own x ty t) L') : Ap x = true ∧ Gr Ar E0.tp 6 ty t ∧ ∃ I, B4 Ar E0.tp H 6 ty x = some (t, I) ∧ I.Nodup := by
 obtain ⟨I, ⟨J, R, rfl, ⟨h0, h1, h1'⟩, h2⟩, h3⟩ := h.pick p
 exact ⟨h0, h1, J, h1', (zaP.1 h3).1⟩
theorem Sep.seen {x t y t' : AV} {ty ty' : Nat} (h : Sep H L) (p : Pk L (.shr x ty t y ty' t') L') : Gr Ar E0.tp 6 ty' t' ∧ ∃ I, B4 Ar E0.tp H 6 ty' y = some (t', I) := by
 obtain ⟨I, ⟨J, R, rfl, ⟨h0, h1, J', h1', h3⟩, h2⟩, h4⟩ := h.pick p
 exact ⟨h1, J', h1'⟩
theorem Sep.toShs {x t : AV} {ty : Nat} (h : Sep H L) (p : Pk L (.own x ty t) L') : Sep H (.shs x ty t [] :: L') := by
 obtain ⟨I, ⟨J, R, rfl, h0, h2⟩, h3⟩ := h.pick p
 exact ⟨J ++ R, ⟨J, R, rfl, ⟨h0, fun q hq => by cases hq⟩, h2⟩, h3⟩
theorem Sep.ofShs {x t : AV} {ty : Nat} {ys : List (AV × Nat × AV)} (h : Sep H L) (p : Pk L (.shs x ty t ys) L') : Sep H (.own x ty t :: L') := by
 obtain ⟨I, ⟨J, R, rfl, ⟨h0, _⟩, h2⟩, h3⟩ := h.pick p
 exact ⟨J ++ R, ⟨J, R, rfl, h0, h2⟩, h3⟩
theorem Sep.seenS {x t : AV} {ty k : Nat} {ys : List (AV × Nat × AV)} {q : AV × Nat × AV} (h : Sep H L) (p : Pk L (.shs x ty t ys) L') (hk : ys[k]? = some q) : Gr Ar E0.tp 6 q.2.1 q.2.2 ∧ ∃ I, B4 Ar E0.tp H 6 q.2.1 q.1 = some (q.2.2, I) := by
 obtain ⟨I, ⟨J, R, rfl, ⟨h0, h1⟩, h2⟩, h4⟩ := h.pick p
 obtain ⟨g1, J', g2, _⟩ := h1 q (zbF hk)
 exact ⟨g1, J', g2⟩
theorem Sep.forget {x t y t' : AV} {ty ty' : Nat} (h : Sep H L) (p : Pk L (.shr x ty t y ty' t') L') : Sep H (.own x ty t :: L') := by
 obtain ⟨I, ⟨J, R, rfl, ⟨h0, _⟩, h2⟩, h4⟩ := h.pick p
 exact ⟨J ++ R, ⟨J, R, rfl, h0, h2⟩, h4⟩
theorem Sep.nl {ty : Nat} (h : Sep H L) (hty : ∃ i j, Ar ty = some i ∧ Ar i.elem = some j) : Sep H (.own .nl ty (.ro 0 []) :: L) := by
 obtain ⟨I, h1, h2⟩ := h
 obtain ⟨i, j, e1, e2⟩ := hty
 exact ⟨[] ++ I, ⟨[], I, rfl, ⟨rfl, ⟨i, j, e1, e2, by simp, by simp [Es]⟩, rfl⟩, h1⟩, h2⟩
inductive OwnR : List Ck → List AV → List Nat → List AV → List Ck → Prop
 | nil {L : List Ck} : OwnR L [] [] [] L
 | sc {L L' : List Ck} {v : Value} {raw cells : List AV} {ty : Nat} {tys : List Nat} : OwnR L raw tys cells L' → OwnR L (.sc v :: raw) (ty :: tys) (.sc v :: cells) L'
 | nl {L L' : List Ck} {raw cells : List AV} {ty : Nat} {tys : List Nat} : OwnR L raw tys cells L' → OwnR L (.nl :: raw) (ty :: tys) (.ro 0 [] :: cells) L'
 | own {L L1 L' : List Ck} {x t : AV} {raw cells : List AV} {ty : Nat} {tys : List Nat} : Pk L (.own x ty t) L1 → OwnR L1 raw tys cells L' → OwnR L (x :: raw) (ty :: tys) (t :: cells) L'
 | agg {L L1 L' : List Ck} {cs ts raw cells : List AV} {ty : Nat} {tys cty : List Nat} : (∃ i, Ar ty = some i ∧ i.cty = cty) → OwnR L cs cty ts L1 → OwnR L1 raw tys cells L' → OwnR L (.agg cs :: raw) (ty :: tys) (.agg ts :: cells) L'
theorem OwnR.sound : ∀ {L L' : List Ck} {raw cells : List AV} {tys : List Nat} {I : List Nat}, OwnR L raw tys cells L' → SepI H L I → ∀ d, Es (Gr Ar E0.tp d) tys cells → ∃ J R, Cg (B4 Ar E0.tp H d) tys raw = some (cells, J) ∧ SepI H L' R ∧ I.Perm (J ++ R)
 | _, _, _, _, _, I, .nil, h, d, _ => ⟨[], I, rfl, h, zb1.refl _⟩
 | _, _, _, _, _, I, .sc q, h, d + 1, ho => by
  obtain ⟨J, R, h1, h2, h3⟩ := q.sound h (d + 1) ho.2
  refine ⟨J, R, ?_, h2, h3⟩
  rw [Cg, I8, zab, h1]
  rfl
 | _, _, _, _, _, I, .nl q, h, d + 1, ho => by
  obtain ⟨J, R, h1, h2, h3⟩ := q.sound h (d + 1) ho.2
  refine ⟨J, R, ?_, h2, h3⟩
  rw [Cg, show B4 Ar E0.tp H (d + 1) _ .nl = some (.ro 0 [], []) from rfl, zab, h1]
  rfl
 | _, _, _, _, _, I, .own p q, h, d, ho => by
  obtain ⟨J1, R1, g1, g2, g3⟩ := p.sepI h
  obtain ⟨J, R, h1, h2, h3⟩ := q.sound g2 d ho.2
  have e := Ht 6 d _ _ _ _ g1.2.2 ho.1
  refine ⟨J1 ++ J, R, ?_, h2, ?_⟩
  ·rw [Cg, e, zab, h1]
   rfl
  ·refine g3.trans ?_
   rw [zaj]
   exact zb1.append_left J1 h3
 | _, _, _, _, _, I, .agg hty p q, h, d + 1, ho => by
  obtain ⟨i, e1, rfl⟩ := hty
  obtain ⟨i', g1, g2⟩ := ho.1
  rw [e1] at g1
  cases g1
  obtain ⟨J1, R1, a1, a2, a3⟩ := p.sound h (d + 1) (AaC g2 (Nat.le_succ d))
  obtain ⟨J, R, h1, h2, h3⟩ := q.sound a2 (d + 1) ho.2
  have a1' := My (fun ty x t I h ho => Ht (d + 1) d ty x t I h ho) _ _ _ _ a1 g2
  refine ⟨J1 ++ J, R, ?_, h2, ?_⟩
  ·rw [Cg, E4, e1, zab, a1', zab, zab, h1]
   rfl
  ·refine a3.trans ?_
   rw [zaj]
   exact zb1.append_left J1 h3
 | _, _, _, _, _, I, .sc q, h, 0, ho => by cases ho.1
 | _, _, _, _, _, I, .nl q, h, 0, ho => by cases ho.1
 | _, _, _, _, _, I, .agg _ p q, h, 0, ho => by cases ho.1
end
end
section
open Go
theorem A1 {a0 x : Ck} {L : List Ck} : Pk (a0 :: x :: L) x (a0 :: L) := .there (.here)
theorem Bu {a0 a1 x : Ck} {L : List Ck} : Pk (a0 :: a1 :: x :: L) x (a0 :: a1 :: L) := .there (.there (.here))
theorem Cq {a0 a1 a2 x : Ck} {L : List Ck} : Pk (a0 :: a1 :: a2 :: x :: L) x (a0 :: a1 :: a2 :: L) := .there (.there (.there (.here)))
theorem E2 {a0 a1 a2 a3 x : Ck} {L : List Ck} : Pk (a0 :: a1 :: a2 :: a3 :: x :: L) x (a0 :: a1 :: a2 :: a3 :: L) := .there (.there (.there (.there (.here))))
theorem Nk {a0 a1 a2 a3 a4 x : Ck} {L : List Ck} : Pk (a0 :: a1 :: a2 :: a3 :: a4 :: x :: L) x (a0 :: a1 :: a2 :: a3 :: a4 :: L) := .there (.there (.there (.there (.there (.here)))))
theorem X9 {a0 a1 a2 a3 a4 a5 x : Ck} {L : List Ck} : Pk (a0 :: a1 :: a2 :: a3 :: a4 :: a5 :: x :: L) x (a0 :: a1 :: a2 :: a3 :: a4 :: a5 :: L) := .there (.there (.there (.there (.there (.there (.here))))))
theorem Z8 {a0 a1 a2 a3 a4 a5 a6 x : Ck} {L : List Ck} : Pk (a0 :: a1 :: a2 :: a3 :: a4 :: a5 :: a6 :: x :: L) x (a0 :: a1 :: a2 :: a3 :: a4 :: a5 :: a6 :: L) := .there (.there (.there (.there (.there (.there (.there (.here)))))))
theorem Ya {a0 a1 a2 a3 a4 a5 a6 a7 x : Ck} {L : List Ck} : Pk (a0 :: a1 :: a2 :: a3 :: a4 :: a5 :: a6 :: a7 :: x :: L) x (a0 :: a1 :: a2 :: a3 :: a4 :: a5 :: a6 :: a7 :: L) := .there (.there (.there (.there (.there (.there (.there (.there (.here))))))))
theorem D7 {a0 a1 a2 a3 a4 a5 a6 a7 a8 x : Ck} {L : List Ck} : Pk (a0 :: a1 :: a2 :: a3 :: a4 :: a5 :: a6 :: a7 :: a8 :: x :: L) x (a0 :: a1 :: a2 :: a3 :: a4 :: a5 :: a6 :: a7 :: a8 :: L) := .there (.there (.there (.there (.there (.there (.there (.there (.there (.here)))))))))
theorem Nn {a0 a1 a2 a3 a4 a5 a6 a7 a8 a9 x : Ck} {L : List Ck} : Pk (a0 :: a1 :: a2 :: a3 :: a4 :: a5 :: a6 :: a7 :: a8 :: a9 :: x :: L) x (a0 :: a1 :: a2 :: a3 :: a4 :: a5 :: a6 :: a7 :: a8 :: a9 :: L) := .there (.there (.there (.there (.there (.there (.there (.there (.there (.there (.here))))))))))
theorem Of {a0 a1 a2 a3 a4 a5 a6 a7 a8 a9 a10 x : Ck} {L : List Ck} : Pk (a0 :: a1 :: a2 :: a3 :: a4 :: a5 :: a6 :: a7 :: a8 :: a9 :: a10 :: x :: L) x (a0 :: a1 :: a2 :: a3 :: a4 :: a5 :: a6 :: a7 :: a8 :: a9 :: a10 :: L) := .there (.there (.there (.there (.there (.there (.there (.there (.there (.there (.there (.here)))))))))))
theorem Aku {a0 a1 a2 a3 a4 a5 a6 a7 a8 a9 a10 a11 x : Ck} {L : List Ck} : Pk (a0 :: a1 :: a2 :: a3 :: a4 :: a5 :: a6 :: a7 :: a8 :: a9 :: a10 :: a11 :: x :: L) x (a0 :: a1 :: a2 :: a3 :: a4 :: a5 :: a6 :: a7 :: a8 :: a9 :: a10 :: a11 :: L) := .there (.there (.there (.there (.there (.there (.there (.there (.there (.there (.there (.there (.here))))))))))))
theorem Acn {a0 a1 a2 a3 a4 a5 a6 a7 a8 a9 a10 a11 a12 x : Ck} {L : List Ck} : Pk (a0 :: a1 :: a2 :: a3 :: a4 :: a5 :: a6 :: a7 :: a8 :: a9 :: a10 :: a11 :: a12 :: x :: L) x (a0 :: a1 :: a2 :: a3 :: a4 :: a5 :: a6 :: a7 :: a8 :: a9 :: a10 :: a11 :: a12 :: L) := .there (.there (.there (.there (.there (.there (.there (.there (.there (.there (.there (.there (.there (.here)))))))))))))
theorem Akv {a0 a1 a2 a3 a4 a5 a6 a7 a8 a9 a10 a11 a12 a13 x : Ck} {L : List Ck} : Pk (a0 :: a1 :: a2 :: a3 :: a4 :: a5 :: a6 :: a7 :: a8 :: a9 :: a10 :: a11 :: a12 :: a13 :: x :: L) x (a0 :: a1 :: a2 :: a3 :: a4 :: a5 :: a6 :: a7 :: a8 :: a9 :: a10 :: a11 :: a12 :: a13 :: L) := .there (.there (.there (.there (.there (.there (.there (.there (.there (.there (.there (.there (.there (.there (.here))))))))))))))
theorem Akw {a0 a1 a2 a3 a4 a5 a6 a7 a8 a9 a10 a11 a12 a13 a14 x : Ck} {L : List Ck} : Pk (a0 :: a1 :: a2 :: a3 :: a4 :: a5 :: a6 :: a7 :: a8 :: a9 :: a10 :: a11 :: a12 :: a13 :: a14 :: x :: L) x (a0 :: a1 :: a2 :: a3 :: a4 :: a5 :: a6 :: a7 :: a8 :: a9 :: a10 :: a11 :: a12 :: a13 :: a14 :: L) := .there (.there (.there (.there (.there (.there (.there (.there (.there (.there (.there (.there (.there (.there (.there (.here)))))))))))))))
theorem Akx {a0 a1 a2 a3 a4 a5 a6 a7 a8 a9 a10 a11 a12 a13 a14 a15 x : Ck} {L : List Ck} : Pk (a0 :: a1 :: a2 :: a3 :: a4 :: a5 :: a6 :: a7 :: a8 :: a9 :: a10 :: a11 :: a12 :: a13 :: a14 :: a15 :: x :: L) x (a0 :: a1 :: a2 :: a3 :: a4 :: a5 :: a6 :: a7 :: a8 :: a9 :: a10 :: a11 :: a12 :: a13 :: a14 :: a15 :: L) := .there (.there (.there (.there (.there (.there (.there (.there (.there (.there (.there (.there (.there (.there (.there (.there (.here))))))))))))))))
theorem Aky {a0 a1 a2 a3 a4 a5 a6 a7 a8 a9 a10 a11 a12 a13 a14 a15 a16 x : Ck} {L : List Ck} : Pk (a0 :: a1 :: a2 :: a3 :: a4 :: a5 :: a6 :: a7 :: a8 :: a9 :: a10 :: a11 :: a12 :: a13 :: a14 :: a15 :: a16 :: x :: L) x (a0 :: a1 :: a2 :: a3 :: a4 :: a5 :: a6 :: a7 :: a8 :: a9 :: a10 :: a11 :: a12 :: a13 :: a14 :: a15 :: a16 :: L) := .there (.there (.there (.there (.there (.there (.there (.there (.there (.there (.there (.there (.there (.there (.there (.there (.there (.here)))))))))))))))))
theorem Akz {a0 a1 a2 a3 a4 a5 a6 a7 a8 a9 a10 a11 a12 a13 a14 a15 a16 a17 x : Ck} {L : List Ck} : Pk (a0 :: a1 :: a2 :: a3 :: a4 :: a5 :: a6 :: a7 :: a8 :: a9 :: a10 :: a11 :: a12 :: a13 :: a14 :: a15 :: a16 :: a17 :: x :: L) x (a0 :: a1 :: a2 :: a3 :: a4 :: a5 :: a6 :: a7 :: a8 :: a9 :: a10 :: a11 :: a12 :: a13 :: a14 :: a15 :: a16 :: a17 :: L) := .there (.there (.there (.there (.there (.there (.there (.there (.there (.there (.there (.there (.there (.there (.there (.there (.there (.there (.here))))))))))))))))))
theorem Ak0 {a0 a1 a2 a3 a4 a5 a6 a7 a8 a9 a10 a11 a12 a13 a14 a15 a16 a17 a18 a19 a20 x : Ck} {L : List Ck} : Pk (a0 :: a1 :: a2 :: a3 :: a4 :: a5 :: a6 :: a7 :: a8 :: a9 :: a10 :: a11 :: a12 :: a13 :: a14 :: a15 :: a16 :: a17 :: a18 :: a19 :: a20 :: x :: L) x (a0 :: a1 :: a2 :: a3 :: a4 :: a5 :: a6 :: a7 :: a8 :: a9 :: a10 :: a11 :: a12 :: a13 :: a14 :: a15 :: a16 :: a17 :: a18 :: a19 :: a20 :: L) := .there (.there (.there (.there (.there (.there (.there (.there (.there (.there (.there (.there (.there (.there (.there (.there (.there (.there (.there (.there (.there (.here)))))))))))))))))))))
theorem Ak1 {a0 a1 a2 a3 a4 a5 a6 a7 a8 a9 a10 a11 a12 a13 a14 a15 a16 a17 a18 a19 a20 a21 a22 x : Ck} {L : List Ck} : Pk (a0 :: a1 :: a2 :: a3 :: a4 :: a5 :: a6 :: a7 :: a8 :: a9 :: a10 :: a11 :: a12 :: a13 :: a14 :: a15 :: a16 :: a17 :: a18 :: a19 :: a20 :: a21 :: a22 :: x :: L) x (a0 :: a1 :: a2 :: a3 :: a4 :: a5 :: a6 :: a7 :: a8 :: a9 :: a10 :: a11 :: a12 :: a13 :: a14 :: a15 :: a16 :: a17 :: a18 :: a19 :: a20 :: a21 :: a22 :: L) := .there (.there (.there (.there (.there (.there (.there (.there (.there (.there (.there (.there (.there (.there (.there (.there (.there (.there (.there (.there (.there (.there (.there (.here)))))))))))))))))))))))
theorem Ak2 {a0 a1 a2 a3 a4 a5 a6 a7 a8 a9 a10 a11 a12 a13 a14 a15 a16 a17 a18 a19 a20 a21 a22 a23 x : Ck} {L : List Ck} : Pk (a0 :: a1 :: a2 :: a3 :: a4 :: a5 :: a6 :: a7 :: a8 :: a9 :: a10 :: a11 :: a12 :: a13 :: a14 :: a15 :: a16 :: a17 :: a18 :: a19 :: a20 :: a21 :: a22 :: a23 :: x :: L) x (a0 :: a1 :: a2 :: a3 :: a4 :: a5 :: a6 :: a7 :: a8 :: a9 :: a10 :: a11 :: a12 :: a13 :: a14 :: a15 :: a16 :: a17 :: a18 :: a19 :: a20 :: a21 :: a22 :: a23 :: L) := .there (.there (.there (.there (.there (.there (.there (.there (.there (.there (.there (.there (.there (.there (.there (.there (.there (.there (.there (.there (.there (.there (.there (.there (.here))))))))))))))))))))))))
theorem Ak3 {a0 a1 a2 a3 a4 a5 a6 a7 a8 a9 a10 a11 a12 a13 a14 a15 a16 a17 a18 a19 a20 a21 a22 a23 a24 x : Ck} {L : List Ck} : Pk (a0 :: a1 :: a2 :: a3 :: a4 :: a5 :: a6 :: a7 :: a8 :: a9 :: a10 :: a11 :: a12 :: a13 :: a14 :: a15 :: a16 :: a17 :: a18 :: a19 :: a20 :: a21 :: a22 :: a23 :: a24 :: x :: L) x (a0 :: a1 :: a2 :: a3 :: a4 :: a5 :: a6 :: a7 :: a8 :: a9 :: a10 :: a11 :: a12 :: a13 :: a14 :: a15 :: a16 :: a17 :: a18 :: a19 :: a20 :: a21 :: a22 :: a23 :: a24 :: L) := .there (.there (.there (.there (.there (.there (.there (.there (.there (.there (.there (.there (.there (.there (.there (.there (.there (.there (.there (.there (.there (.there (.there (.there (.there (.here)))))))))))))))))))))))))
theorem Ak4 {a0 a1 a2 a3 a4 a5 a6 a7 a8 a9 a10 a11 a12 a13 a14 a15 a16 a17 a18 a19 a20 a21 a22 a23 a24 a25 x : Ck} {L : List Ck} : Pk (a0 :: a1 :: a2 :: a3 :: a4 :: a5 :: a6 :: a7 :: a8 :: a9 :: a10 :: a11 :: a12 :: a13 :: a14 :: a15 :: a16 :: a17 :: a18 :: a19 :: a20 :: a21 :: a22 :: a23 :: a24 :: a25 :: x :: L) x (a0 :: a1 :: a2 :: a3 :: a4 :: a5 :: a6 :: a7 :: a8 :: a9 :: a10 :: a11 :: a12 :: a13 :: a14 :: a15 :: a16 :: a17 :: a18 :: a19 :: a20 :: a21 :: a22 :: a23 :: a24 :: a25 :: L) := .there (.there (.there (.there (.there (.there (.there (.there (.there (.there (.there (.there (.there (.there (.there (.there (.there (.there (.there (.there (.there (.there (.there (.there (.there (.there (.here))))))))))))))))))))))))))
theorem Ak5 {a0 a1 a2 a3 a4 a5 a6 a7 a8 a9 a10 a11 a12 a13 a14 a15 a16 a17 a18 a19 a20 a21 a22 a23 a24 a25 a26 x : Ck} {L : List Ck} : Pk (a0 :: a1 :: a2 :: a3 :: a4 :: a5 :: a6 :: a7 :: a8 :: a9 :: a10 :: a11 :: a12 :: a13 :: a14 :: a15 :: a16 :: a17 :: a18 :: a19 :: a20 :: a21 :: a22 :: a23 :: a24 :: a25 :: a26 :: x :: L) x (a0 :: a1 :: a2 :: a3 :: a4 :: a5 :: a6 :: a7 :: a8 :: a9 :: a10 :: a11 :: a12 :: a13 :: a14 :: a15 :: a16 :: a17 :: a18 :: a19 :: a20 :: a21 :: a22 :: a23 :: a24 :: a25 :: a26 :: L) := .there (.there (.there (.there (.there (.there (.there (.there (.there (.there (.there (.there (.there (.there (.there (.there (.there (.there (.there (.there (.there (.there (.there (.there (.there (.there (.there (.here)))))))))))))))))))))))))))
theorem Ak6 {a0 a1 a2 a3 a4 a5 a6 a7 a8 a9 a10 a11 a12 a13 a14 a15 a16 a17 a18 a19 a20 a21 a22 a23 a24 a25 a26 a27 x : Ck} {L : List Ck} : Pk (a0 :: a1 :: a2 :: a3 :: a4 :: a5 :: a6 :: a7 :: a8 :: a9 :: a10 :: a11 :: a12 :: a13 :: a14 :: a15 :: a16 :: a17 :: a18 :: a19 :: a20 :: a21 :: a22 :: a23 :: a24 :: a25 :: a26 :: a27 :: x :: L) x (a0 :: a1 :: a2 :: a3 :: a4 :: a5 :: a6 :: a7 :: a8 :: a9 :: a10 :: a11 :: a12 :: a13 :: a14 :: a15 :: a16 :: a17 :: a18 :: a19 :: a20 :: a21 :: a22 :: a23 :: a24 :: a25 :: a26 :: a27 :: L) := .there (.there (.there (.there (.there (.there (.there (.there (.there (.there (.there (.there (.there (.there (.there (.there (.there (.there (.there (.there (.there (.there (.there (.there (.there (.there (.there (.there (.here))))))))))))))))))))))))))))
theorem Ak7 {a0 a1 a2 a3 a4 a5 a6 a7 a8 a9 a10 a11 a12 a13 a14 a15 a16 a17 a18 a19 a20 a21 a22 a23 a24 a25 a26 a27 a28 a29 a30 a31 a32 a33 x : Ck} {L : List Ck} : Pk (a0 :: a1 :: a2 :: a3 :: a4 :: a5 :: a6 :: a7 :: a8 :: a9 :: a10 :: a11 :: a12 :: a13 :: a14 :: a15 :: a16 :: a17 :: a18 :: a19 :: a20 :: a21 :: a22 :: a23 :: a24 :: a25 :: a26 :: a27 :: a28 :: a29 :: a30 :: a31 :: a32 :: a33 :: x :: L) x (a0 :: a1 :: a2 :: a3 :: a4 :: a5 :: a6 :: a7 :: a8 :: a9 :: a10 :: a11 :: a12 :: a13 :: a14 :: a15 :: a16 :: a17 :: a18 :: a19 :: a20 :: a21 :: a22 :: a23 :: a24 :: a25 :: a26 :: a27 :: a28 :: a29 :: a30 :: a31 :: a32 :: a33 :: L) := .there (.there (.there (.there (.there (.there (.there (.there (.there (.there (.there (.there (.there (.there (.there (.there (.there (.there (.there (.there (.there (.there (.there (.there (.there (.there (.there (.there (.there (.there (.there (.there (.there (.there (.here))))))))))))))))))))))))))))))))))
theorem AjP {a0 a1 a2 a3 a4 a5 a6 a7 a8 a9 a10 a11 a12 a13 a14 a15 a16 a17 a18 a19 a20 a21 a22 a23 a24 a25 a26 a27 a28 a29 a30 a31 a32 a33 a34 x : Ck} {L : List Ck} : Pk (a0 :: a1 :: a2 :: a3 :: a4 :: a5 :: a6 :: a7 :: a8 :: a9 :: a10 :: a11 :: a12 :: a13 :: a14 :: a15 :: a16 :: a17 :: a18 :: a19 :: a20 :: a21 :: a22 :: a23 :: a24 :: a25 :: a26 :: a27 :: a28 :: a29 :: a30 :: a31 :: a32 :: a33 :: a34 :: x :: L) x (a0 :: a1 :: a2 :: a3 :: a4 :: a5 :: a6 :: a7 :: a8 :: a9 :: a10 :: a11 :: a12 :: a13 :: a14 :: a15 :: a16 :: a17 :: a18 :: a19 :: a20 :: a21 :: a22 :: a23 :: a24 :: a25 :: a26 :: a27 :: a28 :: a29 :: a30 :: a31 :: a32 :: a33 :: a34 :: L) := .there (.there (.there (.there (.there (.there (.there (.there (.there (.there (.there (.there (.there (.there (.there (.there (.there (.there (.there (.there (.there (.there (.there (.there (.there (.there (.there (.there (.there (.there (.there (.there (.there (.there (.there (.here)))))))))))))))))))))))))))))))))))
theorem AjQ {a0 a1 a2 a3 a4 a5 a6 a7 a8 a9 a10 a11 a12 a13 a14 a15 a16 a17 a18 a19 a20 a21 a22 a23 a24 a25 a26 a27 a28 a29 a30 a31 a32 a33 a34 a35 x : Ck} {L : List Ck} : Pk (a0 :: a1 :: a2 :: a3 :: a4 :: a5 :: a6 :: a7 :: a8 :: a9 :: a10 :: a11 :: a12 :: a13 :: a14 :: a15 :: a16 :: a17 :: a18 :: a19 :: a20 :: a21 :: a22 :: a23 :: a24 :: a25 :: a26 :: a27 :: a28 :: a29 :: a30 :: a31 :: a32 :: a33 :: a34 :: a35 :: x :: L) x (a0 :: a1 :: a2 :: a3 :: a4 :: a5 :: a6 :: a7 :: a8 :: a9 :: a10 :: a11 :: a12 :: a13 :: a14 :: a15 :: a16 :: a17 :: a18 :: a19 :: a20 :: a21 :: a22 :: a23 :: a24 :: a25 :: a26 :: a27 :: a28 :: a29 :: a30 :: a31 :: a32 :: a33 :: a34 :: a35 :: L) := .there (.there (.there (.there (.there (.there (.there (.there (.there (.there (.there (.there (.there (.there (.there (.there (.there (.there (.there (.there (.there (.there (.there (.there (.there (.there (.there (.there (.there (.there (.there (.there (.there (.there (.there (.there (.here))))))))))))))))))))))))))))))))))))
def Gd {β : Type} (G : Option β → Prop) (o : Option β) : Prop := G o
section
variable {β : Type} {n : Nat} {H : Ab} {L L' L1 L2 : List Ck} {G : Option β → Prop} {K : AV → Option β} {KH : KO β}
theorem Dr {a b : Option β} (e : a = b) (h : Gd G b) : Gd G a := by rw [e]; exact h
theorem Dc {cs : List AV} (hs : Sep H L) (h : ∀ i H', Sep H' (.blk i cs true :: L) → Gd G (KH (.ptr i 0) H')) : Gd G (L8 cs H fun x H => KH x H) :=
 h _ _ (hs.new (J := [H.length]) ⟨rfl, by rw [zae (zak _), zaO]; rfl⟩ (by simp) (by simp))
theorem Bz {k w : Nat} {cs : List AV} {a : Bool} (hs : Sep H L) (h : ∀ i H', Sep H' (.blk i cs a :: L) → Gd G (KH (.sl i 0 k w) H')) : Gd G (Fg k w cs a H fun x H => KH x H) :=
 h _ _ (hs.new (J := [H.length]) ⟨rfl, by rw [zae (zak _), zaO]; rfl⟩ (by simp) (by simp))
theorem Ms {x : AV} {cs : List AV} (hs : Sep H L) (hc : Cv x = some cs) (h : ∀ i H', Sep H' (.blk i cs true :: L) → Gd G (KH (.ptr i 0) H')) : Gd G (O6 x H fun x H => KH x H) := by
 refine Dr (b := L8 cs H fun x H => KH x H) ?_ (Dc hs h)
 show (Cv x).bind _ = _
 rw [hc]
 rfl
theorem F8 {cs : List AV} (h : cs.all Iq = true) : Cv (.agg cs) = some cs := Ws h
theorem Ac {cs : List AV} (h : cs.all Ap = true) : Cv (.agg cs) = some cs := by
 show (if cs.all Ap then some cs else none) = _
 rw [if_pos h]
theorem Aa {x : AV} {xs : List AV} (h : Ap x = true) (hs : xs.all Ap = true) : (x :: xs).all Ap = true := by
 rw [zbj, h, hs]
 rfl
theorem Cw {x : AV} (h : Ap x = true) : Cv x = some [x] := by
 cases x <;> simp_all [Cv, Ap]
theorem A0 {i o : Nat} {cs : List AV} {a : Bool} {c : AV} (hs : Sep H L) (hp : Pk L (.blk i cs a) L1) (hc : cs[o]? = some c) (h : Gd G (K c)) : Gd G (Ct false 1 (.ptr i o) H fun x => K x) := by
 refine Dr ?_ h
 obtain ⟨hlt, he⟩ := zac.1 hc
 have e : Ax H i o 1 = some [c] := by
  simp only [Ax, hs.blk hp, if_true]
  rw [if_pos (by omega), zbc hlt, he]
  rfl
 exact ldF e _
theorem AgL {i o w : Nat} {cs ds : List AV} {a : Bool} (hs : Sep H L) (hp : Pk L (.blk i cs a) L1) (hl : o + w ≤ cs.length) (hc : (cs.drop o).take w = ds) (h : Gd G (K (.agg ds))) : Gd G (Ct true w (.ptr i o) H fun x => K x) := by
 refine Dr ?_ h
 have e : Ax H i o w = some ds := by
  simp only [Ax, hs.blk hp, if_true]
  rw [if_pos hl, hc]
 exact ldT e _
theorem Ae {i w : Nat} {cs : List AV} {a : Bool} (hs : Sep H L) (hp : Pk L (.blk i cs a) L1) (hl : cs.length = w) (h : Gd G (K (.agg cs))) : Gd G (Ct true w (.ptr i 0) H fun x => K x) :=
 AgL hs hp (by omega) (by rw [zaA, ← hl, za0]) h
theorem Bg {i o w : Nat} {cs cs' ds : List AV} {a : Bool} {y : AV} {KS : Ab → Option β} (hs : Sep H L) (hp : Pk L (.blk i cs a) L1) (hy : Cv y = some ds) (hd : ds.length = w) (hl : o + w ≤ cs.length) (hc : Cl cs o ds = cs') (h : ∀ H', Sep H' (.blk i cs' a :: L1) → Gd G (KS H')) : Gd G (Ew w (.ptr i o) y H fun H => KS H) := by
 have hb := hs.blk hp
 refine Dr (Ip w i o y ⟨cs, true, a⟩ ds H _ hb hy hd hl rfl) ?_
 have := hs.put hp cs' a
 rw [← hc] at this
 exact h _ (by rw [← hc]; exact this)
theorem Aef {cells : List AV} {c : AV} (hc : cells[0]? = some c) (h : Gd G (K c)) : Gd G (Ct false 1 (.rp cells) H fun x => K x) := by
 cases cells with
 | nil => cases hc
 | cons x xs =>
  obtain rfl : x = c := by simpa using hc
  refine Dr (Oa x xs H _) h
theorem AgM {w : Nat} {cs rest : List AV} (hw : cs.length = w) (h : Gd G (K (.agg cs))) : Gd G (Ct true w (.rp (cs ++ rest)) H fun x => K x) := Dr (Sp w cs rest H _ hw) h
theorem Am {o i off o' : Nat} (e : off + o = o') (h : Gd G (K (.ptr i o'))) : Gd G (Ej o (.ptr i off) fun x => K x) := by subst e; exact h
theorem gf0 {i : Nat} (h : Gd G (K (.ptr i 0))) : Gd G (Ej 0 (.ptr i 0) fun x => K x) := Am rfl h
theorem gf1 {i : Nat} (h : Gd G (K (.ptr i 1))) : Gd G (Ej 1 (.ptr i 0) fun x => K x) := Am rfl h
theorem gf2 {i : Nat} (h : Gd G (K (.ptr i 2))) : Gd G (Ej 2 (.ptr i 0) fun x => K x) := Am rfl h
theorem gf3 {i : Nat} (h : Gd G (K (.ptr i 3))) : Gd G (Ej 3 (.ptr i 0) fun x => K x) := Am rfl h
theorem Mj {i : Nat} (h : Gd G (K (.ptr i 4))) : Gd G (Ej 4 (.ptr i 0) fun x => K x) := Am rfl h
theorem gf5 {i : Nat} (h : Gd G (K (.ptr i 5))) : Gd G (Ej 5 (.ptr i 0) fun x => K x) := Am rfl h
theorem gf6 {i : Nat} (h : Gd G (K (.ptr i 6))) : Gd G (Ej 6 (.ptr i 0) fun x => K x) := Am rfl h
theorem gf7 {i : Nat} (h : Gd G (K (.ptr i 7))) : Gd G (Ej 7 (.ptr i 0) fun x => K x) := Am rfl h
theorem gf8 {i : Nat} (h : Gd G (K (.ptr i 8))) : Gd G (Ej 8 (.ptr i 0) fun x => K x) := Am rfl h
theorem gf9 {i : Nat} (h : Gd G (K (.ptr i 9))) : Gd G (Ej 9 (.ptr i 0) fun x => K x) := Am rfl h
theorem AfN {i : Nat} (h : Gd G (K (.ptr i 10))) : Gd G (Ej 10 (.ptr i 0) fun x => K x) := Am rfl h
theorem Aej {i : Nat} (h : Gd G (K (.ptr i 11))) : Gd G (Ej 11 (.ptr i 0) fun x => K x) := Am rfl h
theorem AfO {i : Nat} (h : Gd G (K (.ptr i 12))) : Gd G (Ej 12 (.ptr i 0) fun x => K x) := Am rfl h
theorem AfP {i : Nat} (h : Gd G (K (.ptr i 13))) : Gd G (Ej 13 (.ptr i 0) fun x => K x) := Am rfl h
theorem AfQ {i : Nat} (h : Gd G (K (.ptr i 14))) : Gd G (Ej 14 (.ptr i 0) fun x => K x) := Am rfl h
theorem AfR {i : Nat} (h : Gd G (K (.ptr i 15))) : Gd G (Ej 15 (.ptr i 0) fun x => K x) := Am rfl h
theorem Wt {i : Nat} (h : Gd G (K (.ptr i 16))) : Gd G (Ej 16 (.ptr i 0) fun x => K x) := Am rfl h
theorem Wu {i : Nat} (h : Gd G (K (.ptr i 17))) : Gd G (Ej 17 (.ptr i 0) fun x => K x) := Am rfl h
theorem Qx {i : Nat} (h : Gd G (K (.ptr i 18))) : Gd G (Ej 18 (.ptr i 0) fun x => K x) := Am rfl h
theorem Wv {i : Nat} (h : Gd G (K (.ptr i 19))) : Gd G (Ej 19 (.ptr i 0) fun x => K x) := Am rfl h
theorem Aek {i : Nat} (h : Gd G (K (.ptr i 20))) : Gd G (Ej 20 (.ptr i 0) fun x => K x) := Am rfl h
theorem Ael {i : Nat} (h : Gd G (K (.ptr i 21))) : Gd G (Ej 21 (.ptr i 0) fun x => K x) := Am rfl h
theorem AfS {i : Nat} (h : Gd G (K (.ptr i 22))) : Gd G (Ej 22 (.ptr i 0) fun x => K x) := Am rfl h
theorem AfT {i : Nat} (h : Gd G (K (.ptr i 23))) : Gd G (Ej 23 (.ptr i 0) fun x => K x) := Am rfl h
theorem AfU {i : Nat} (h : Gd G (K (.ptr i 24))) : Gd G (Ej 24 (.ptr i 0) fun x => K x) := Am rfl h
theorem Aa4 {o : Nat} {cells : List AV} (h : Gd G (K (.rp (cells.drop o)))) : Gd G (Ej o (.rp cells) fun x => K x) := h
theorem Eu {z cs z' r : List AV} {o n : Nat} {v : AV} {rest : List (Nat × Nat × AV)} (h : Cv v = some cs) (hl : cs.length = n) (ho : o + n ≤ z.length) (hz : Cl z o cs = z') (h2 : Fe z' rest = some r) : Fe z ((o, n, v) :: rest) = some r := by
 subst hz
 subst hl
 simp only [Fe, h, zab, if_true, if_pos ho]
 exact h2
theorem Bk {zs cs : List AV} {ps : List (Nat × Nat × AV)} {KL : List AV → Option β} (hf : Fe zs ps = some cs) (h : Gd G (KL cs)) : Gd G ((Fe zs ps).bind fun c => KL c) := by
 rw [hf]
 exact h
theorem Eb {i : Nat} {vs : List AV} {v : AV} (hv : vs[i]? = some v) (h : Gd G (K v)) : Gd G (O7 (.tup vs) i fun x => K x) := by
 refine Dr ?_ h
 show (vs[i]?).bind _ = _
 rw [hv]
 rfl
theorem Sd {m : Nat} {cs : List AV} (h : Gd G (K (.sc (.int .i64 m)))) : Gd G (O8 (.ro m cs) fun x => K x) := h
theorem Aeg {i o m w : Nat} (h : Gd G (K (.sc (.int .i64 m)))) : Gd G (O8 (.sl i o m w) fun x => K x) := h
theorem Agd {d ty m : Nat} {x : AV} {cells : List AV} {I : List Nat} (h : B4 Ar E0.tp H d ty x = some (.ro m cells, I)) : G2 x = some m := by
 cases d with
 | zero => simp [B4] at h
 | succ d =>
  cases x with
  | sc v => simp [B4] at h
  | nl =>
   have := (Option.some.inj h)
   simp only [Prod.mk.injEq, AV.ro.injEq] at this
   rw [← this.1.1]
   rfl
  | sl id off n z =>
   rw [Gn] at h
   simp only [zaa] at h
   obtain ⟨i, h1, j, h2, h3⟩ := h
   split at h3
   case isFalse => cases h3
   split at h3
   case isFalse => cases h3
   simp only [zaa] at h3
   obtain ⟨cs, h4, q, h5, h6⟩ := h3
   obtain ⟨h7, -⟩ : AV.ro n q.1 = .ro m cells ∧ _ := by simpa only [Prod.mk.injEq, Option.some.injEq] using h6
   cases h7
   rfl
  | agg cs =>
   rw [E4] at h
   simp only [zaa] at h
   obtain ⟨i, h1, q, h2, h3⟩ := h
   simp at h3
  | tup cs =>
   rw [Gb] at h
   simp only [zaa] at h
   obtain ⟨i, h1, q, h2, h3⟩ := h
   simp at h3
  | _ => simp [B4] at h
theorem Hv {x : AV} {ty m : Nat} {cells : List AV} (hs : Sep H L) (hp : Pk L (.own x ty (.ro m cells)) L1) (h : Gd G (K (.sc (.int .i64 m)))) : Gd G (O8 x fun x => K x) := by
 obtain ⟨_, _, I, e, _⟩ := hs.own hp
 have hl := Agd e
 refine Dr ?_ h
 have key : ∀ (x : AV), (∀ v, x ≠ .sc v) → G2 x = some m → O8 x K = K (.sc (.int .i64 m)) := by
  intro x hx hl
  cases x with
  | sc v => exact absurd rfl (hx v)
  | nl => cases hl; rfl
  | ro n cs => cases hl; rfl
  | sl a b c d => cases hl; rfl
  | _ => cases hl
 refine key x (fun v hv => ?_) hl
 subst hv
 simp [B4] at e
theorem Aj0 {op : BinOp} {x y v : AV} (e : ∀ k : AV → Option β, Ey op x y k = k v) (h : Gd G (K v)) : Gd G (Ey op x y fun t => K t) := Dr (e _) h
theorem Zg {op : BinOp} {x y v : AV} (e : ∀ k : AV → Option β, O4 op x y k = k v) (h : Gd G (K v)) : Gd G (O4 op x y fun t => K t) := Dr (e _) h
theorem Bp {a b : Int} (h : Gd G (K (.sc (.bool (decide (a = b)))))) : Gd G (Ey .eql (.sc (.int .i64 a)) (.sc (.int .i64 b)) fun t => K t) := h
theorem Mv {a b : Int} (h : Gd G (K (.sc (.bool (!decide (a = b)))))) : Gd G (Ey .neq (.sc (.int .i64 a)) (.sc (.int .i64 b)) fun t => K t) := h
theorem Mu {a b : Int} (h : Gd G (K (.sc (.bool (decide (a < b)))))) : Gd G (Ey .lss (.sc (.int .i64 a)) (.sc (.int .i64 b)) fun t => K t) := h
theorem Ud {a b : Int} (h : Gd G (K (.sc (.bool (decide (a ≤ b)))))) : Gd G (Ey .leq (.sc (.int .i64 a)) (.sc (.int .i64 b)) fun t => K t) := h
theorem K9 {a b : Int} (h : Gd G (K (.sc (.bool (decide (b < a)))))) : Gd G (Ey .gtr (.sc (.int .i64 a)) (.sc (.int .i64 b)) fun t => K t) := h
theorem Gx {a b : Int} (h0 : -9223372036854775808 ≤ a + b) (h1 : a + b ≤ 9223372036854775807) (h : Gd G (K (.sc (.int .i64 (a + b))))) : Gd G (Ey .add (.sc (.int .i64 a)) (.sc (.int .i64 b)) fun t => K t) := by
 refine Dr ?_ h
 show K (.sc (.int .i64 (IntKind.i64.wrap (a + b)))) = _
 rw [Gf _ h0 h1]
theorem Ue {a b : Int} (h0 : -9223372036854775808 ≤ a - b) (h1 : a - b ≤ 9223372036854775807) (h : Gd G (K (.sc (.int .i64 (a - b))))) : Gd G (Ey .sub (.sc (.int .i64 a)) (.sc (.int .i64 b)) fun t => K t) := by
 refine Dr ?_ h
 show K (.sc (.int .i64 (IntKind.i64.wrap (a - b)))) = _
 rw [Gf _ h0 h1]
theorem AgN {a b : Int} (h0 : -9223372036854775808 ≤ a * b) (h1 : a * b ≤ 9223372036854775807) (h : Gd G (K (.sc (.int .i64 (a * b))))) : Gd G (Ey .mul (.sc (.int .i64 a)) (.sc (.int .i64 b)) fun t => K t) := by
 refine Dr ?_ h
 show K (.sc (.int .i64 (IntKind.i64.wrap (a * b)))) = _
 rw [Gf _ h0 h1]
theorem Aif {a b : ByteArray} (h : Gd G (K (.sc (.bool (!(a.toList == b.toList)))))) : Gd G (Ey .neq (.sc (.string a)) (.sc (.string b)) fun t => K t) := h
theorem He {b : Bool} (h : Gd G (K (.sc (.bool (!b))))) : Gd G (pUn .not (.sc (.bool b)) fun t => K t) := h
theorem Hw {α : Sort _} {γ : Type} {G : Option γ → Prop} {x : α} {f : α → Option γ} (h : Gd G (f x)) : Gd G (Le x f) := h
theorem Ci {b : Bool} {x y : Option β} (hb : b = true) (h : Gd G x) : Gd G (H8 (.sc (.bool b)) x y) := by subst hb; exact h
theorem Bt {b : Bool} {x y : Option β} (hb : b = false) (h : Gd G y) : Gd G (H8 (.sc (.bool b)) x y) := by subst hb; exact h
theorem A6 {b t : Bool} {m : (KO β) → Option β} (hb : b = t) (h : Gd G (m fun x H => KH x H)) : Gd G (Hx (.sc (.bool b)) t H m fun x H => KH x H) := by
 subst hb
 cases b <;> exact h
theorem Dx {b t : Bool} {m : (KO β) → Option β} (hb : b = !t) (h : Gd G (KH (.sc undef) H)) : Gd G (Hx (.sc (.bool b)) t H m fun x H => KH x H) := by
 subst hb
 cases t <;> exact h
theorem Ib {t : Bool} {m : (KO β) → Option β} (h : Gd G (KH (.sc undef) H)) : Gd G (Hx (.sc undef) t H m fun x H => KH x H) := h
theorem G8 {b : Bool} {x y : AV} (hb : b = true) (h : Gd G (K x)) : Gd G (Nu (.sc (.bool b)) x y fun t => K t) := by
 subst hb
 cases x <;> cases y <;> exact h
theorem F3 {b : Bool} {x y : AV} (hb : b = false) (h : Gd G (K y)) : Gd G (Nu (.sc (.bool b)) x y fun t => K t) := by
 subst hb
 cases x <;> cases y <;> exact h
inductive VwC (L : List Ck) : Nat → AV → AV → Prop
 | sc {d : Nat} {v : Value} : VwC L (d + 1) (.sc v) (.sc v)
 | nl {d : Nat} : VwC L (d + 1) .nl (.ro 0 [])
 | ro {d n : Nat} {cs : List AV} : VwC L (d + 1) (.ro n cs) (.ro n cs)
 | rp {d : Nat} {cs : List AV} : VwC L (d + 1) (.rp cs) (.rp cs)
 | own {d : Nat} {x t : AV} {ty : Nat} {L' : List Ck} : 6 ≤ d → Pk L (.own x ty t) L' → VwC L d x t
 | shr {d : Nat} {x t y t' : AV} {ty ty' : Nat} {L' : List Ck} : 6 ≤ d → Pk L (.shr x ty t y ty' t') L' → VwC L d y t'
 | shsE {d k : Nat} {x t y t' : AV} {ty ty' : Nat} {ys : List (AV × Nat × AV)} {L' : List Ck} : 6 ≤ d → Pk L (.shs x ty t ys) L' → ys[k]? = some (y, ty', t') → VwC L d y t'
 | shsO {d : Nat} {x t : AV} {ty : Nat} {ys : List (AV × Nat × AV)} {L' : List Ck} : 6 ≤ d → Pk L (.shs x ty t ys) L' → VwC L d x t
end
inductive VwL (L : List Ck) : Nat → List AV → List AV → Prop
 | nil {d : Nat} : VwL L d [] []
 | cons {d : Nat} {x t : AV} {xs ts : List AV} : VwC L d x t → VwL L d xs ts → VwL L d (x :: xs) (t :: ts)
 | agg {d : Nat} {cs ds xs ts : List AV} : VwL L d cs ds → VwL L (d + 1) xs ts → VwL L (d + 1) (.agg cs :: xs) (.agg ds :: ts)
 | aggF {d : Nat} {cs xs ts : List AV} : cs.all Iq = true → VwL L (d + 2) xs ts → VwL L (d + 2) (.agg cs :: xs) (.agg cs :: ts)
 | sl {d i k w : Nat} {cs ds xs ts : List AV} {a : Bool} {L' : List Ck} : Pk L (.blk i cs a) L' → cs.length = k * w → VwL L d cs ds → VwL L (d + 1) xs ts → VwL L (d + 1) (.sl i 0 k w :: xs) (.ro k ds :: ts)
 | slA {d i o k w : Nat} {cs ds xs ts : List AV} {a : Bool} {L' : List Ck} : Pk L (.blk i cs a) L' → o + k * w ≤ cs.length → VwL L d ((cs.drop o).take (k * w)) ds → VwL L (d + 1) xs ts → VwL L (d + 1) (.sl i o k w :: xs) (.ro k ds :: ts)
 | ptr {d i : Nat} {cs ds xs ts : List AV} {a : Bool} {L' : List Ck} : Pk L (.blk i cs a) L' → VwL L d cs ds → VwL L (d + 1) xs ts → VwL L (d + 1) (.ptr i 0 :: xs) (.rp ds :: ts)
 | fn {d f : Nat} {ps cs ps' cs' xs ts : List AV} : VwL L d ps ps' → VwL L d cs cs' → VwL L (d + 1) xs ts → VwL L (d + 1) (.fn f ps cs :: xs) (.fn f ps' cs' :: ts)
section
variable {β : Type} {n : Nat} {H : Ab} {L L' L1 L2 : List Ck} {G : Option β → Prop} {K : AV → Option β} {KH : KO β}
theorem VwC.sound (hs : Sep H L) {d : Nat} {x t : AV} (h : VwC L d x t) : Dg H d x = some t := by
 cases h with
 | sc => rfl
 | nl => rfl
 | ro => rfl
 | rp => rfl
 | own hd hp =>
  obtain ⟨_, h1, I, h2, _⟩ := hs.own hp
  exact Mz d _ _ _ I (Ht 6 d _ _ _ _ h2 (At h1 hd))
 | shr hd hp =>
  obtain ⟨h1, I, h2⟩ := hs.seen hp
  exact Mz d _ _ _ I (Ht 6 d _ _ _ _ h2 (At h1 hd))
 | shsE hd hp hk =>
  obtain ⟨h1, I, h2⟩ := hs.seenS hp hk
  exact Mz d _ _ _ I (Ht 6 d _ _ _ _ h2 (At h1 hd))
 | shsO hd hp =>
  obtain ⟨_, h1, I, h2, _⟩ := (hs.ofShs hp).own .here
  exact Mz d _ _ _ I (Ht 6 d _ _ _ _ h2 (At h1 hd))
theorem Ix {d : Nat} {x t : AV} {xs ts : List AV} (h : Dg H d x = some t) (hs : xs.mapM (Dg H d) = some ts) : (x :: xs).mapM (Dg H d) = some (t :: ts) := by
 simp only [zba, h, hs, zbl, zaX, zab]
theorem VwL.sound (hs : Sep H L) : ∀ {d : Nat} {xs ts : List AV}, VwL L d xs ts → xs.mapM (Dg H d) = some ts
 | _, _, _, .nil => rfl
 | _, _, _, .cons h q => Ix (h.sound hs) (q.sound hs)
 | _, _, _, .agg h q => Ix (by rw [Ni, h.sound hs]; rfl) (q.sound hs)
 | _, _, _, .aggF h q => Ix (by rw [Ni, Q6 h]; rfl) (q.sound hs)
 | _, _, _, .sl (i := i) (k := k) (w := w) (cs := cs) hp hl h q => Ix (by
   rw [Ph]
   have hb := hs.blk hp
   have e : Ax H i 0 (k * w) = some cs := by
    simp only [Ax, hb, if_true, zaA, zaw, ← hl, zak, za0]
   rw [e, zab, h.sound hs]
   rfl) (q.sound hs)
 | _, _, _, .slA (i := i) (o := o) (k := k) (w := w) (cs := cs) hp hl h q => Ix (by
   rw [Ph]
   have hb := hs.blk hp
   have e : Ax H i o (k * w) = some ((cs.drop o).take (k * w)) := by
    simp only [Ax, hb, if_true, hl]
   rw [e, zab, h.sound hs]
   rfl) (q.sound hs)
 | _, _, _, .ptr (i := i) (cs := cs) hp h q => Ix (by
   have hb := hs.blk hp
   show ((H[i]?).bind fun b => (Ax H i 0 (b.cells.length - 0)).bind fun cs => (cs.mapM (Dg H _)).bind fun vs => some (AV.rp vs)) = _
   rw [hb, zab]
   have e : Ax H i 0 (cs.length - 0) = some cs := by
    simp only [Ax, hb, if_true, zaA, zaw, Nat.sub_zero, zak, za0]
   show (Ax H i 0 (cs.length - 0)).bind _ = _
   rw [e, zab, h.sound hs]
   rfl) (q.sound hs)
 | _, _, _, .fn (d := d) (ps := ps) (cs := cs) h1 h2 q => Ix (by
   show ((ps.mapM (Dg H d)).bind fun us => (cs.mapM (Dg H d)).bind fun ws => some (AV.fn _ us ws)) = _
   rw [h1.sound hs, zab, h2.sound hs]
   rfl) (q.sound hs)
theorem Q7 {ty : Nat} {f : FuncId} {caps args vs : List AV} {t : AV} (hs : Sep H L) (hh : Gc f = false) (hv : VwL L 8 (args ++ caps) vs) (ht : Cs E0 n ty f vs = some t) (h : Gd G (KH (Bn Ar E0.tp H.length ty t).1 (H ++ (Bn Ar E0.tp H.length ty t).2))) : Gd G ((PR n β).call ty (.fn f [] caps) args H fun x H => KH x H) := Dr (V7 hh (hv.sound hs) ht) h
theorem Co {ty : Nat} {f : FuncId} {args vs : List AV} {v : Value} (hs : Sep H L) (hh : Gc f = false) (hv : VwL L 8 args vs) (ht : Cs E0 n ty f vs = some (.sc v)) (h : Gd G (KH (.sc v) H)) : Gd G ((PR n β).call ty (.fn f [] []) args H fun x H => KH x H) := by
 refine Q7 hs hh (by rw [zan]; exact hv) ht ?_
 rw [Hm, zan]
 exact h
theorem Wz {ty m : Nat} {cells : List AV} (hs : Sep H L) (hok : Gr Ar E0.tp 6 ty (.ro m cells)) : Ap (Bn Ar E0.tp H.length ty (.ro m cells)).1 = true ∧ Sep (H ++ (Bn Ar E0.tp H.length ty (.ro m cells)).2) (.own (Bn Ar E0.tp H.length ty (.ro m cells)).1 ty (.ro m cells) :: L) := by
 have hl : Ap (Bn Ar E0.tp H.length ty (.ro m cells)).1 = true := rfl
 refine ⟨hl, hs.new (J := zbk H.length (Bn Ar E0.tp H.length ty (.ro m cells)).2.length) ⟨hl, hok, Gt 6 ty _ H.length hok (Jt _ _)⟩ zbb fun i hi => ?_⟩
 rw [zaQ] at hi
 exact hi.1
theorem Aa3 {ty m : Nat} {f : FuncId} {args vs cells : List AV} (hs : Sep H L) (hh : Gc f = false) (hv : VwL L 8 args vs) (ht : Cs E0 n ty f vs = some (.ro m cells)) (hok : Gr Ar E0.tp 6 ty (.ro m cells)) (h : ∀ x H', Ap x = true → Sep H' (.own x ty (.ro m cells) :: L) → Gd G (KH x H')) : Gd G ((PR n β).call ty (.fn f [] []) args H fun x H => KH x H) := by
 refine Q7 hs hh (by rw [zan]; exact hv) ht ?_
 obtain ⟨h1, h2⟩ := Wz hs hok
 exact h _ _ h1 h2
def InsL (ts : List Nat) (cs : List AV) (Φ : List AV → List Ck → Prop) : Prop := ∀ (H : Ab) (L : List Ck), Sep H L → ∃ xs Lx, xs = (B5 Ar E0.tp H.length ts cs).1 ∧ Sep (H ++ (B5 Ar E0.tp H.length ts cs).2) (Lx ++ L) ∧ Φ xs Lx
theorem Ha {ts : List Nat} : InsL ts [] fun xs Lx => xs = [] ∧ Lx = [] := fun H L hs => ⟨[], [], rfl, by simpa [B5] using hs, rfl, rfl⟩
theorem Ds {ts : List Nat} {v : Value} {cs : List AV} {Φ : List AV → List Ck → Prop} (h : InsL ts.tail cs Φ) : InsL ts (.sc v :: cs) fun xs Lx => ∃ ys, xs = .sc v :: ys ∧ Φ ys Lx := fun H L hs => by
 obtain ⟨ys, Ly, e1, e2, e3⟩ := h H L hs
 refine ⟨.sc v :: ys, Ly, ?_, ?_, ys, rfl, e3⟩
 ·simp only [B5, Hm, zay, zbd]
  rw [e1]
 ·simpa only [B5, Hm, zay, zbd, zah] using e2
theorem Ku {ts : List Nat} {m ty : Nat} {cells cs : List AV} {Φ : List AV → List Ck → Prop} (hty : ts.headD 0 = ty) (hok : Gr Ar E0.tp 6 ty (.ro m cells)) (h : InsL ts.tail cs Φ) : InsL ts (.ro m cells :: cs) fun xs Lx => ∃ x ys Ly, Ap x = true ∧ xs = x :: ys ∧ Lx = Ly ++ [.own x ty (.ro m cells)] ∧ Φ ys Ly := fun H L hs => by
 subst hty
 obtain ⟨h1, h2⟩ := Wz hs hok
 obtain ⟨ys, Ly, e1, e2, e3⟩ := h _ _ h2
 refine ⟨_ :: ys, Ly ++ [.own _ (ts.headD 0) (.ro m cells)], ?_, ?_, _, ys, Ly, h1, rfl, rfl, e3⟩
 ·simp only [B5]
  rw [e1, zag]
 ·simp only [B5]
  rw [zag, zaj] at e2
  rw [zaj]
  exact e2
theorem G9 {ts cty : List Nat} {cs rest : List AV} {Φ Ψ : List AV → List Ck → Prop} (hty : ∃ i, Ar (ts.headD 0) = some i ∧ i.cty = cty) (h1 : InsL cty cs Ψ) (h : InsL ts.tail rest Φ) : InsL ts (.agg cs :: rest) fun xs Lx => ∃ ys zs Ly Lz, xs = .agg ys :: zs ∧ Lx = Lz ++ Ly ∧ Ψ ys Ly ∧ Φ zs Lz := fun H L hs => by
 obtain ⟨i, hi, rfl⟩ := hty
 obtain ⟨ys, Ly, a1, a2, a3⟩ := h1 H L hs
 obtain ⟨zs, Lz, b1, b2, b3⟩ := h _ _ a2
 refine ⟨.agg ys :: zs, Lz ++ Ly, ?_, ?_, ys, zs, Ly, Lz, rfl, rfl, a3, b3⟩
 ·simp only [B5, H5, hi, zaC]
  rw [a1, b1, zag]
 ·simp only [B5, H5, hi, zaC]
  rw [zag, zaj] at b2
  rw [zaj]
  exact b2
theorem Gl {ty : Nat} {f : FuncId} {args vs cs : List AV} {cty : List Nat} {Φ : List AV → List Ck → Prop} (hs : Sep H L) (hh : Gc f = false) (hv : VwL L 8 args vs) (ht : Cs E0 n ty f vs = some (.agg cs)) (hty : ∃ i, Ar ty = some i ∧ i.cty = cty) (hi : InsL cty cs Φ) (h : ∀ xs Lx H', Φ xs Lx → Sep H' (Lx ++ L) → Gd G (KH (.agg xs) H')) : Gd G ((PR n β).call ty (.fn f [] []) args H fun x H => KH x H) := by
 refine Q7 hs hh (by rw [zan]; exact hv) ht ?_
 obtain ⟨i, e1, rfl⟩ := hty
 obtain ⟨xs, Lx, a1, a2, a3⟩ := hi H L hs
 rw [H5, e1, zaC, ← a1]
 exact h _ _ _ a3 a2
theorem I7 {ty : Nat} {f : FuncId} {args vs cs : List AV} {tys : List Nat} {Φ : List AV → List Ck → Prop} (hs : Sep H L) (hh : Gc f = false) (hv : VwL L 8 args vs) (ht : Cs E0 n ty f vs = some (.tup cs)) (hty : E0.tp ty = some tys) (hi : InsL tys cs Φ) (h : ∀ xs Lx H', Φ xs Lx → Sep H' (Lx ++ L) → Gd G (KH (.tup xs) H')) : Gd G ((PR n β).call ty (.fn f [] []) args H fun x H => KH x H) := by
 refine Q7 hs hh (by rw [zan]; exact hv) ht ?_
 obtain ⟨xs, Lx, a1, a2, a3⟩ := hi H L hs
 rw [Py, hty, zaC, ← a1]
 exact h _ _ _ a3 a2
theorem Hh {ty : Nat} {f : FuncId} {caps args : List AV} (hh : E0.hm f = true) (he : E0.ext f = none) (h : Gd G (Di E0 n β f (args ++ caps) H fun x H => KH x H)) : Gd G ((PR n β).call ty (.fn f [] caps) args H fun x H => KH x H) := by
 refine Dr ?_ h
 show Kk E0 (Di E0 n) ty f ([] ++ args ++ caps) H _ = _
 simp only [Kk, he, hh, zah, if_true]
def Src (H : Ab) (L : List Ck) (sz : Nat) (cty : List Nat) (y : AV) (m : Nat) (cb : List AV) (L' : List Ck) : Prop :=
 ∀ I, SepI H L I → ∃ raw J R X, G2 y = some m ∧ Cj H sz y = some raw ∧ raw.all Ap = true ∧ raw.length = m * sz ∧ Cg (B4 Ar E0.tp H 5) (zad m cty).flatten raw = some (cb, J) ∧ SepI H L' R ∧ I.Perm (J ++ (R ++ X))
def W0 : AV → Bool
 | .sc v => Ns v
 | _ => false
theorem AbV {l : List AV} (h : l.all W0 = true) : l.all Ap = true := by
 rw [za3] at h ⊢
 intro x hx
 have := h x hx
 cases x <;> simp_all [W0, Ap]
theorem Uq {d : Nat} : ∀ {ts : List Nat} {l : List AV}, ts.length = l.length → l.all W0 = true → Cg (B4 Ar E0.tp H (d + 1)) ts l = some (l, [])
 | [], [], _, _ => rfl
 | t :: ts, x :: l, h, hl => by
  rw [zbj, zai] at hl
  cases x with
  | sc v =>
   rw [Cg, I8, zab, Uq (ts := ts) (l := l) (by simpa using h) hl.2]
   rfl
  | _ => simp [W0] at hl
 | [], _ :: _, h, _ => by simp at h
 | _ :: _, [], h, _ => by simp at h
theorem Ai1 {sz m : Nat} {cty : List Nat} {cells : List AV} (hc : cty.length = sz) (hl : cells.length = m * sz) (hf : cells.all W0 = true) : Src H L sz cty (.ro m cells) m cells L := fun I h => by
 refine ⟨cells, [], I, [], rfl, ?_, AbV hf, hl, Uq (by simp [hc, hl]) hf, h, by simp⟩
 show (if cells.length = m * sz then some cells else none) = _
 rw [if_pos hl]
theorem Rd {sz m i : Nat} {cty : List Nat} {raw cb : List AV} {a : Bool} (hp : Pk L (.blk i raw a) L1) (hl : raw.length = m * sz) (hf : raw.all Ap = true) (hr : OwnR L1 raw (zad m cty).flatten cb L2) (hok : Es (Gr Ar E0.tp 5) (zad m cty).flatten cb) : Src H L sz cty (.sl i 0 m sz) m cb L2 := fun I h => by
 obtain ⟨J, R, ⟨rfl, h1⟩, h2, h3⟩ := hp.sepI h
 obtain ⟨J', R', g1, g2, g3⟩ := hr.sound h2 5 hok
 refine ⟨raw, J', R', [i], rfl, ?_, hf, hl, g1, g2, ?_⟩
 ·show (if sz = sz then Ax H i 0 (m * sz) else none) = _
  simp only [if_true, Ax, h1, zaw, zaA, ← hl, zak, za0]
 ·refine h3.trans (List.perm_append_comm.trans ?_)
  rw [← zaj]
  exact zb1.append_right [i] g3
theorem Kq {d ty m : Nat} {x : AV} {cells : List AV} {I : List Nat} {i j : TI} (h1 : Ar ty = some i) (h2 : Ar i.elem = some j) (h : B4 Ar E0.tp H (d + 1) ty x = some (.ro m cells, I)) :
  (x = .nl ∧ m = 0 ∧ cells = [] ∧ I = []) ∨ ∃ id off raw J b, x = .sl id off m j.size ∧ I = id :: J ∧ H[id]? = some b ∧ b.live = true ∧ b.app = true ∧ Ax H id off (m * j.size) = some raw ∧ Cg (B4 Ar E0.tp H d) (zad m j.cty).flatten raw = some (cells, J) := by
 cases x with
 | sc v => simp [B4] at h
 | nl =>
  have := (Option.some.inj h)
  simp only [Prod.mk.injEq, AV.ro.injEq] at this
  obtain ⟨⟨rfl, rfl⟩, rfl⟩ := this
  exact .inl ⟨rfl, rfl, rfl, rfl⟩
 | sl id off n z =>
  rw [Gn] at h
  simp only [h1, h2, zab] at h
  split at h
  case isFalse => cases h
  rename_i hz
  split at h
  case isFalse => cases h
  rename_i ha
  simp only [zaa] at h
  obtain ⟨cs, h4, q, h5, h6⟩ := h
  simp only [Option.some.injEq, Prod.mk.injEq, AV.ro.injEq] at h6
  obtain ⟨⟨rfl, rfl⟩, rfl⟩ := h6
  subst hz
  obtain ⟨hl, b, hb, hlv, _, _⟩ := Gy h4
  have ha' : b.app = true := by simpa only [Ga, hb] using ha
  exact .inr ⟨id, off, cs, q.2, b, rfl, rfl, hb, hlv, ha', h4, h5⟩
 | agg cs =>
  rw [E4] at h
  simp only [zaa] at h
  obtain ⟨i, h1, q, h2, h3⟩ := h
  simp at h3
 | tup cs =>
  rw [Gb] at h
  simp only [zaa] at h
  obtain ⟨i, h1, q, h2, h3⟩ := h
  simp at h3
 | _ => simp [B4] at h
theorem Nb {f : Nat → AV → Option (AV × List Nat)} : ∀ {ts : List Nat} {xs : List AV} {p : List AV × List Nat}, (∀ t x a I, f t x = some (a, I) → Iq a = true → Ap x = true) → Cg f ts xs = some p → p.1.all Iq = true → xs.all Ap = true
 | ts, [], p, _, h, _ => rfl
 | [], _ :: _, p, _, h, _ => by simp [Cg] at h
 | t :: ts, x :: xs, p, hf, h, hl => by
  obtain ⟨a, b, h1, h2, rfl⟩ := Fc h
  rw [zbj, zai] at hl
  rw [zbj, zai]
  exact ⟨hf t x a.1 a.2 h1 hl.1, Nb hf h2 hl.2⟩
theorem S4 {d ty : Nat} {x a : AV} {I : List Nat} (h : B4 Ar E0.tp H d ty x = some (a, I)) (hl : Iq a = true) : Ap x = true := by
 cases d with
 | zero => simp [B4] at h
 | succ d =>
  cases x with
  | sc v =>
   obtain ⟨rfl, _⟩ : AV.sc v = a ∧ [] = I := by simpa [B4] using h
   exact hl
  | nl => rfl
  | sl id off n z => rfl
  | agg cs =>
   rw [E4] at h
   simp only [zaa] at h
   obtain ⟨i, h1, q, h2, h3⟩ := h
   obtain ⟨rfl, _⟩ : AV.agg q.1 = a ∧ q.2 = I := by simpa using h3
   cases hl
  | tup cs =>
   rw [Gb] at h
   simp only [zaa] at h
   obtain ⟨i, h1, q, h2, h3⟩ := h
   obtain ⟨rfl, _⟩ : AV.tup q.1 = a ∧ q.2 = I := by simpa using h3
   cases hl
  | _ => simp [B4] at h
theorem Aee {sz bytes k m ty : Nat} {cty : List Nat} {x y : AV} {ca cb : List AV} (hs : Sep H L) (hty : ∃ i j, Ar ty = some i ∧ Ar i.elem = some j ∧ j.size = sz ∧ j.cty = cty) (hx : Pk L (.own x ty (.ro k ca)) L1) (hy : Src H L1 sz cty y m cb L2) (hok : Es (Gr Ar E0.tp 5) (zad m cty).flatten cb) (hb : (k + m) * bytes ≤ 140737488355328)
  (h : ∀ x' H', Ap x' = true → Sep H' (.own x' ty (.ro (k + m) (ca ++ cb)) :: L2) → (∃ id cx cy, x' = .sl id 0 (k + m) sz ∧ H'[id]? = some ⟨cx ++ cy, true, true⟩ ∧ Cj H sz y = some cy ∧ cx.length = k * sz) → Gd G (KH x' H')) : Gd G (Ic sz bytes x y H fun x H => KH x H) := by
 obtain ⟨i, j, e1, e2, rfl, rfl⟩ := hty
 obtain ⟨I, hI, hn⟩ := hs
 obtain ⟨J, R, ⟨hlx, hox, h1⟩, h2, h3⟩ := hx.sepI hI
 obtain ⟨raw, Jy, Ry, X, q1, q2, q3, q4, q5, q6, q7⟩ := hy R h2
 have hn' : (J ++ (Jy ++ (Ry ++ X))).Nodup := (h3.trans (zb1.append_left J q7)).nodup_iff.1 hn
 have hRlt : ∀ i ∈ Jy ++ Ry, i < H.length := fun z hz => by
  refine h2.lt z ?_
  refine q7.symm.mem_iff.1 ?_
  rw [← zaj]
  exact zas _ hz
 have hok' : Gr Ar E0.tp 6 ty (.ro (k + m) (ca ++ cb)) := by
  obtain ⟨i', j', g1, g2, g3, g4⟩ := hox
  rw [e1] at g1
  cases g1
  rw [e2] at g2
  cases g2
  refine ⟨i, j, e1, e2, ?_, ?_⟩
  ·have := Xd hok
   have hq := S2 q5
   rw [zag, g3, hq.2, q4, zaM]
  ·rw [← zaB, zax]
   exact G4 g4 hok
 have fin : ∀ (H1 : Ab) (cx : List AV) (Jx : List Nat), H1.length = H.length → cx.all Ap = true ∨ True → Cg (B4 Ar E0.tp H1 5) (zad k j.cty).flatten cx = some (ca, Jx) → Cg (B4 Ar E0.tp H1 5) (zad m j.cty).flatten raw = some (cb, Jy) → SepI H1 L2 Ry → (Jx ++ (Jy ++ (Ry ++ X))).Nodup → (∀ i ∈ Jx, i < H1.length) → cx.length = k * j.size →
   Sep (H1 ++ [⟨cx ++ raw, true, true⟩]) (.own (.sl H1.length 0 (k + m) j.size) ty (.ro (k + m) (ca ++ cb)) :: L2) := by
  intro H1 cx Jx hl1 _ a1 a2 a3 a4 a5 a6
  have hg : (H1 ++ [(⟨cx ++ raw, true, true⟩ : Hf)])[H1.length]? = some ⟨cx ++ raw, true, true⟩ := by
   rw [zae (zak _), zaO]
   rfl
  have fr : ∀ z, z < H1.length → (H1 ++ [(⟨cx ++ raw, true, true⟩ : Hf)])[z]? = H1[z]? := fun z hz => zaf hz
  have b1 := Eg (f' := B4 Ar E0.tp (H1 ++ [⟨cx ++ raw, true, true⟩]) 5) (fun t x a h hi => C7 5 t x a h fun z hz => fr z (a5 z (hi z hz))) a1
  have b2 := Eg (f' := B4 Ar E0.tp (H1 ++ [⟨cx ++ raw, true, true⟩]) 5) (fun t x a h hi => C7 5 t x a h fun z hz => fr z (by rw [hl1]; exact hRlt z (zas _ (hi z hz)))) a2
  have b3 := a3.grow [⟨cx ++ raw, true, true⟩]
  have b4 := H7 b1 b2
  rw [← zax, zaB] at b4
  refine ⟨(H1.length :: (Jx ++ Jy)) ++ Ry, ⟨H1.length :: (Jx ++ Jy), Ry, rfl, ⟨rfl, hok', ?_⟩, b3⟩, ?_⟩
  ·rw [Gn]
   have ha : Ga (H1 ++ [⟨cx ++ raw, true, true⟩]) H1.length = true := by simp only [Ga, hg]
   have hrd : Ax (H1 ++ [⟨cx ++ raw, true, true⟩]) H1.length 0 ((k + m) * j.size) = some (cx ++ raw) := by
    have : (cx ++ raw).length = (k + m) * j.size := by rw [zag, a6, q4, zaM]
    simp only [Ax, hg, if_true, zaw, zaA, ← this, zak, za0]
   simp only [e1, e2, zab, if_true, ha, hrd, b4]
  ·rw [zar, zaH]
   have hn3 : (Jx ++ Jy ++ Ry).Nodup := by
    rw [zaj]
    have : (Jx ++ (Jy ++ Ry) ++ X).Nodup := by simpa only [zaj] using a4
    exact (zaP.1 this).1
   refine ⟨fun hm => ?_, hn3⟩
   rcases zaJ.1 hm with hm | hm
   ·rcases zaJ.1 hm with hm | hm
    ·exact Nat.lt_irrefl _ (a5 _ hm)
    ·have := hRlt _ (zas _ hm)
     omega
   ·have := hRlt _ (zap _ hm)
    omega
 rcases Kq e1 e2 h1 with ⟨rfl, rfl, rfl, rfl⟩ | ⟨id, off, cx, J', b, rfl, rfl, hb1, hlv, hap, h4, h5⟩
 ·have hc : Cj H j.size .nl = some [] := rfl
  refine Dr (b := KH (.sl H.length 0 (0 + m) j.size) (H ++ [⟨[] ++ raw, true, true⟩])) ?_ (h _ _ rfl (fin H [] [] rfl (.inr trivial) (by simp [Cg]) q5 q6 (by simpa using hn') (by simp) (by simp)) ⟨_, [], raw, rfl, by rw [zae (zak _), zaO]; rfl, q2, by simp⟩)
  have hl0 : G2 .nl = some 0 := rfl
  have hk0 : L5 H .nl = some H := rfl
  simp only [Ic, hl0, zab, q1, q2, hc, hk0]
  rw [if_pos hb, if_pos q3]
  rfl
 ·have hc : Cj H j.size (.sl id off k j.size) = some cx := by
   show (if j.size = j.size then Ax H id off (k * j.size) else none) = _
   rw [if_pos rfl, h4]
  have hk : L5 H (.sl id off k j.size) = some (H.set id { b with live := false }) := by
   show (H[id]?).bind (fun b => if b.app then some (H.set id { b with live := false }) else none) = _
   rw [hb1, zab, if_pos hap]
  have hn2 : (id :: (J' ++ (Jy ++ (Ry ++ X)))).Nodup := hn'
  have hnid := (zaH.1 hn2).1
  have hset : ∀ z, z ≠ id → (H.set id { b with live := false })[z]? = H[z]? := fun z hz => za1 (fun e => hz e.symm)
  have c1 := Eg (f' := B4 Ar E0.tp (H.set id { b with live := false }) 5) (fun t x a h hi => C7 5 t x a h fun z hz => hset z (fun e => hnid (e ▸ zas _ (hi z hz)))) h5
  have c2 := Eg (f' := B4 Ar E0.tp (H.set id { b with live := false }) 5) (fun t x a h hi => C7 5 t x a h fun z hz => hset z (fun e => hnid (e ▸ zap _ (zas _ (hi z hz))))) q5
  have c3 := q6.frame (H' := H.set id { b with live := false }) fun z hz => hset z (fun e => hnid (e ▸ zap _ (zap _ (zas _ hz))))
  have hJlt : ∀ z ∈ J', z < H.length := fun z hz => Kx 6 ty _ _ h1 z (zat _ hz)
  refine Dr (b := KH (.sl (H.set id { b with live := false }).length 0 (k + m) j.size) (H.set id { b with live := false } ++ [⟨cx ++ raw, true, true⟩])) ?_ (h _ _ rfl (fin _ cx J' (by simp) (.inr trivial) c1 c2 c3 (zaH.1 hn2).2 (fun z hz => by rw [zbh]; exact hJlt z hz) (Gy h4).1) ⟨_, cx, raw, rfl, by rw [zae (zak _), zaO]; rfl, q2, (Gy h4).1⟩)
  have hl0 : G2 (.sl id off k j.size) = some k := rfl
  simp only [Ic, hl0, zab, q1, q2, hc, hk]
  rw [if_pos hb, if_pos q3]
  rfl
theorem Aa2 {sz bytes k m ty : Nat} {cty : List Nat} {x y : AV} {ca cb : List AV} (hs : Sep H L) (hty : ∃ i j, Ar ty = some i ∧ Ar i.elem = some j ∧ j.size = sz ∧ j.cty = cty) (hx : Pk L (.own x ty (.ro k ca)) L1) (hy : Src H L1 sz cty y m cb L2) (hok : Es (Gr Ar E0.tp 5) (zad m cty).flatten cb) (hb : (k + m) * bytes ≤ 140737488355328)
  (h : ∀ x' H', Ap x' = true → Sep H' (.own x' ty (.ro (k + m) (ca ++ cb)) :: L2) → Gd G (KH x' H')) : Gd G (Ic sz bytes x y H fun x H => KH x H) := Aee hs hty hx hy hok hb fun x' H' h1 h2 _ => h x' H' h1 h2
theorem G0 {G : Option AV → Prop} {o : Option AV} (h : Gd G o) : G o := h
theorem Dt {ty : Nat} {tys : List Nat} {raw cells : List AV} (hs : Sep H L) (hts : E0.tp ty = some tys) (hr : OwnR L raw tys cells L') (hok : Es (Gr Ar E0.tp 7) tys cells) : Ba Ar E0.tp ty H (.tup raw) = some (.tup cells) := by
 obtain ⟨I, h1, h2⟩ := hs
 obtain ⟨J, R, g1, g2, g3⟩ := hr.sound h1 7 hok
 have hn := (zaP.1 (g3.nodup_iff.1 h2)).1
 rw [Ba, Gb, hts, zab, g1, zab, zab, if_pos hn]
theorem Nf {ty : Nat} {cty : List Nat} {raw cells : List AV} (hs : Sep H L) (hty : ∃ i, Ar ty = some i ∧ i.cty = cty) (hr : OwnR L raw cty cells L') (hok : Es (Gr Ar E0.tp 7) cty cells) : Ba Ar E0.tp ty H (.agg raw) = some (.agg cells) := by
 obtain ⟨i, e1, rfl⟩ := hty
 obtain ⟨I, h1, h2⟩ := hs
 obtain ⟨J, R, g1, g2, g3⟩ := hr.sound h1 7 hok
 have hn := (zaP.1 (g3.nodup_iff.1 h2)).1
 rw [Ba, E4, e1, zab, g1, zab, zab, if_pos hn]
theorem AaO {ty : Nat} {x t : AV} (hs : Sep H L) (hp : Pk L (.own x ty t) L') : Ba Ar E0.tp ty H x = some t := by
 obtain ⟨_, h1, I, h2, h3⟩ := hs.own hp
 rw [Ba, Ht 6 8 ty x t I h2 (At h1 (by decide)), zab, if_pos h3]
theorem Dn {G : Option AV → Prop} {ty : Nat} {x t : AV} (e : Ba Ar E0.tp ty H x = some t) (h : G (some t)) : Gd G (Ba Ar E0.tp ty H x) := by
 rw [e]
 exact h
end
theorem Hz {L : List Ck} {d : Nat} {a0 a1 : Value} {xs ts : List AV} (h : VwL L (d + 1) xs ts) : VwL L (d + 1) (.sc a0 :: .sc a1 :: xs) (.sc a0 :: .sc a1 :: ts) := (.cons .sc (.cons .sc h))
theorem vS3 {L : List Ck} {d : Nat} {a0 a1 a2 : Value} {xs ts : List AV} (h : VwL L (d + 1) xs ts) : VwL L (d + 1) (.sc a0 :: .sc a1 :: .sc a2 :: xs) (.sc a0 :: .sc a1 :: .sc a2 :: ts) := (.cons .sc (.cons .sc (.cons .sc h)))
theorem K5 {L : List Ck} {d : Nat} {a0 a1 a2 a3 a4 : Value} {xs ts : List AV} (h : VwL L (d + 1) xs ts) : VwL L (d + 1) (.sc a0 :: .sc a1 :: .sc a2 :: .sc a3 :: .sc a4 :: xs) (.sc a0 :: .sc a1 :: .sc a2 :: .sc a3 :: .sc a4 :: ts) := (.cons .sc (.cons .sc (.cons .sc (.cons .sc (.cons .sc h)))))
theorem F6 {L : List Ck} {d : Nat} {a0 a1 a2 a3 a4 a5 : Value} {xs ts : List AV} (h : VwL L (d + 1) xs ts) : VwL L (d + 1) (.sc a0 :: .sc a1 :: .sc a2 :: .sc a3 :: .sc a4 :: .sc a5 :: xs) (.sc a0 :: .sc a1 :: .sc a2 :: .sc a3 :: .sc a4 :: .sc a5 :: ts) := (.cons .sc (.cons .sc (.cons .sc (.cons .sc (.cons .sc (.cons .sc h))))))
theorem oS3 {L L' : List Ck} {a0 a1 a2 : Value} {t0 t1 t2 : Nat} {xs cs : List AV} {ts : List Nat} (h : OwnR L xs ts cs L') : OwnR L (.sc a0 :: .sc a1 :: .sc a2 :: xs) (t0 :: t1 :: t2 :: ts) (.sc a0 :: .sc a1 :: .sc a2 :: cs) L' := (.sc (.sc (.sc h)))
theorem Mk {L L' : List Ck} {a0 a1 a2 a3 a4 : Value} {t0 t1 t2 t3 t4 : Nat} {xs cs : List AV} {ts : List Nat} (h : OwnR L xs ts cs L') : OwnR L (.sc a0 :: .sc a1 :: .sc a2 :: .sc a3 :: .sc a4 :: xs) (t0 :: t1 :: t2 :: t3 :: t4 :: ts) (.sc a0 :: .sc a1 :: .sc a2 :: .sc a3 :: .sc a4 :: cs) L' := (.sc (.sc (.sc (.sc (.sc h)))))
theorem G6 {L L' : List Ck} {a0 a1 a2 a3 a4 a5 : Value} {t0 t1 t2 t3 t4 t5 : Nat} {xs cs : List AV} {ts : List Nat} (h : OwnR L xs ts cs L') : OwnR L (.sc a0 :: .sc a1 :: .sc a2 :: .sc a3 :: .sc a4 :: .sc a5 :: xs) (t0 :: t1 :: t2 :: t3 :: t4 :: t5 :: ts) (.sc a0 :: .sc a1 :: .sc a2 :: .sc a3 :: .sc a4 :: .sc a5 :: cs) L' := (.sc (.sc (.sc (.sc (.sc (.sc h))))))
theorem K4 {P : Prop} (h : P) : True ∧ True ∧ P := ⟨trivial, trivial, h⟩
theorem tK3 {P : Prop} (h : P) : True ∧ True ∧ True ∧ P := ⟨trivial, trivial, trivial, h⟩
theorem Mi {P : Prop} (h : P) : True ∧ True ∧ True ∧ True ∧ True ∧ P := ⟨trivial, trivial, trivial, trivial, trivial, h⟩
theorem G7 {P : Prop} (h : P) : True ∧ True ∧ True ∧ True ∧ True ∧ True ∧ P := ⟨trivial, trivial, trivial, trivial, trivial, trivial, h⟩
theorem V2 {j o : Nat} {ds : List AV} {b : Bool} {L1 L2 : List Ck} (h : Pk L1 (.blk j ds b) L2) : ∀ y ∈ [AV.ptr j o], ∃ j' o' ds' b', y = .ptr j' o' ∧ ∃ L2, Pk L1 (.blk j' ds' b') L2 := fun y hy => by
 cases zb6.1 hy
 exact ⟨_, _, _, _, rfl, _, h⟩
theorem B0 {β : Type} {G : Option β → Prop} {H : Ab} {L L1 : List Ck} {i o : Nat} {cs : List AV} {a : Bool} {y : AV} {KS : Ab → Option β} (hs : Sep H L) (hp : Pk L (.blk i cs a) L1) (hy : Ap y = true) (hl : Nat.ble (o + 1) cs.length = true) (h : ∀ H', Sep H' (.blk i (cs.set o y) a :: L1) → Gd G (KS H')) : Gd G (Ew 1 (.ptr i o) y H fun H => KS H) := Bg hs hp (Cw hy) rfl (A9 hl) (by
 unfold Cl
 have := A9 hl
 rw [List.set_eq_take_append_cons_drop, if_pos (by omega)]
 simp) h
end
section
open Go
variable {β : Type}
theorem Er {d ty : Nat} {cty : List Nat} {cs : List AV} (hty : ∃ i, Ar ty = some i ∧ i.cty = cty) (h : Es (Gr Ar E0.tp d) cty cs) : Gr Ar E0.tp (d + 1) ty (.agg cs) := by
 obtain ⟨i, hi, rfl⟩ := hty
 exact ⟨i, hi, h⟩
theorem Akr {d ty : Nat} (h : ∃ i j, Ar ty = some i ∧ Ar i.elem = some j) : Gr Ar E0.tp (d + 1) ty (.ro 0 []) := by
 obtain ⟨i, j, h1, h2⟩ := h
 exact ⟨i, j, h1, h2, by simp, by simp [Es]⟩
theorem Dp {d ty : Nat} (h : ∃ i j, Ar ty = some i ∧ Ar i.elem = some j := by exact ⟨_, _, rfl, rfl⟩) : Gr Ar E0.tp (d + 1) ty (.ro 0 []) := Akr h
theorem Gd.both {G : Option β → Prop} {a b : Option β} (h1 : Gd G a) (h2 : a = b) : Gd G (M0 a b) := by
 rw [O5 rfl h2.symm]
 exact h1
theorem Gq (s : ByteArray) : Gr Ar E0.tp 6 22 (A3 s) := Jp (d := 4) Jk s
theorem Sy (s : ByteArray) : Gr Ar E0.tp 5 22 (A3 s) := Jp (d := 3) Jk s
theorem Sz (l : List Int) : Gr Ar E0.tp 6 39 (Fz l) := J9 (d := 4) (fun z : Int => .int .i64 z) Z6 l
theorem AjF (l : List Int) : Gr Ar E0.tp 5 39 (Fz l) := J9 (d := 3) (fun z : Int => .int .i64 z) Z6 l
theorem S0 (l : List ByteArray) : Gr Ar E0.tp 6 38 (Is l) := J9 (d := 4) (fun z : ByteArray => .string z) Qe l
theorem AjG (l : List ByteArray) : Gr Ar E0.tp 5 38 (Is l) := J9 (d := 3) (fun z : ByteArray => .string z) Qe l
theorem Ef (l : List Cd) : Gr Ar E0.tp 6 25 (Ai Aj l) := Gs (d := 5) Ec ⟨_, _, rfl, rfl, rfl, rfl⟩ (Io 3) l
theorem Cm (l : List Ad) : Gr Ar E0.tp 6 24 (Ai Aq l) := Gs (d := 5) A5 ⟨_, _, rfl, rfl, rfl, rfl⟩ (P2 3) l
theorem Im (l : List Np) : Gr Ar E0.tp 6 37 (Ai Dh l) := Gs (d := 5) L7 ⟨_, _, rfl, rfl, rfl, rfl⟩ (Vu 4) l
theorem Xg (l : List Np) : Gr Ar E0.tp 5 37 (Ai Dh l) := Gs (d := 4) L7 ⟨_, _, rfl, rfl, rfl, rfl⟩ (Vu 3) l
theorem AbZ (l : List Az) : Gr Ar E0.tp 6 29 (Ai Bd l) := Gs (d := 5) H6 ⟨_, _, rfl, rfl, rfl, rfl⟩ (Acb 3) l
theorem InsL.mono {ts : List Nat} {cs : List AV} {Φ Ψ : List AV → List Ck → Prop} (h : InsL ts cs Φ) (m : ∀ xs Lx, Φ xs Lx → Ψ xs Lx) : InsL ts cs Ψ := fun H L hs => by
 obtain ⟨xs, Lx, a, b, c⟩ := h H L hs
 exact ⟨xs, Lx, a, b, m _ _ c⟩
theorem Aih (p : Cd) : InsL Hg (Aj p) fun xs Lx => ∃ x1 : AV, Ap x1 = true ∧ xs = [.sc (.string p.fTopic), x1, .sc (.int .i64 p.fQos), .sc (.bool p.fRetain)] ∧ Lx = [.own x1 22 (A3 p.fBody)] :=
 InsL.mono (Ds (Ku (ty := 22) rfl (Gq p.fBody) (Ds (Ds Ha)))) (by
  rintro _ _ ⟨_, rfl, ⟨x1, _, _, l1, rfl, rfl, ⟨_, rfl, ⟨_, rfl, ⟨rfl, rfl⟩⟩⟩⟩⟩
  exact ⟨x1, l1, rfl, rfl⟩)
theorem J7 (p : A7) : InsL Rq (Bf p) fun xs Lx => ∃ x1 x2 : AV, Ap x1 = true ∧ Ap x2 = true ∧ xs = [.sc (.int .i64 p.fLast), x1, x2] ∧ Lx = [.own x2 25 (Ai Aj p.fQ), .own x1 24 (Ai Aq p.fFl)] :=
 InsL.mono (Ds (Ku (ty := 24) rfl (Cm p.fFl) (Ku (ty := 25) rfl (Ef p.fQ) Ha))) (by
  rintro _ _ ⟨_, rfl, ⟨x1, _, _, l1, rfl, rfl, ⟨x2, _, _, l2, rfl, rfl, ⟨rfl, rfl⟩⟩⟩⟩
  exact ⟨x1, x2, l1, l2, rfl, rfl⟩)
theorem Eh (p : Az) : InsL T8 (Bd p) fun xs Lx => ∃ x6 x13 x19 x22 x23 x24 : AV, Ap x6 = true ∧ Ap x13 = true ∧ Ap x19 = true ∧ Ap x22 = true ∧ Ap x23 = true ∧ Ap x24 = true ∧ xs = [.sc (.int .i64 p.fType), .sc (.bool p.fDup), .sc (.int .i64 p.fQos), .sc (.bool p.fRetain), .sc (.int .i64 p.fId), .sc (.string p.fTopic), x6, .sc (.string p.fClient), .sc (.int .i64 p.fLevel), .sc (.bool p.fClean), .sc (.int .i64 p.fKeep), .sc (.bool p.fHasWill), .sc (.string p.fWTopic), x13, .sc (.int .i64 p.fWQos), .sc (.bool p.fWRetain), .sc (.bool p.fHasUser), .sc (.string p.fUser), .sc (.bool p.fHasPass), x19, .sc (.int .i64 p.fCode), .sc (.bool p.fPresent), x22, x23, x24] ∧ Lx = [.own x24 39 (Fz p.fCodes), .own x23 38 (Is p.fNames), .own x22 37 (Ai Dh p.fWants), .own x19 22 (A3 p.fPass), .own x13 22 (A3 p.fWBody), .own x6 22 (A3 p.fBody)] :=
 InsL.mono (Ds (Ds (Ds (Ds (Ds (Ds (Ku (ty := 22) rfl (Gq p.fBody) (Ds (Ds (Ds (Ds (Ds (Ds (Ku (ty := 22) rfl (Gq p.fWBody) (Ds (Ds (Ds (Ds (Ds (Ku (ty := 22) rfl (Gq p.fPass) (Ds (Ds (Ku (ty := 37) rfl (Im p.fWants) (Ku (ty := 38) rfl (S0 p.fNames) (Ku (ty := 39) rfl (Sz p.fCodes) Ha))))))))))))))))))))))))) (by
  rintro _ _ ⟨_, rfl, ⟨_, rfl, ⟨_, rfl, ⟨_, rfl, ⟨_, rfl, ⟨_, rfl, ⟨x6, _, _, l6, rfl, rfl, ⟨_, rfl, ⟨_, rfl, ⟨_, rfl, ⟨_, rfl, ⟨_, rfl, ⟨_, rfl, ⟨x13, _, _, l13, rfl, rfl, ⟨_, rfl, ⟨_, rfl, ⟨_, rfl, ⟨_, rfl, ⟨_, rfl, ⟨x19, _, _, l19, rfl, rfl, ⟨_, rfl, ⟨_, rfl, ⟨x22, _, _, l22, rfl, rfl, ⟨x23, _, _, l23, rfl, rfl, ⟨x24, _, _, l24, rfl, rfl, ⟨rfl, rfl⟩⟩⟩⟩⟩⟩⟩⟩⟩⟩⟩⟩⟩⟩⟩⟩⟩⟩⟩⟩⟩⟩⟩⟩⟩⟩
  exact ⟨x6, x13, x19, x22, x23, x24, l6, l13, l19, l22, l23, l24, rfl, rfl⟩)
theorem H0 {raw : List AV} {y : Ad} (hl : raw.length = 6) (hlf : raw.all Ap = true) (hs : ∀ (k : Nat) (v : Value), (Aq y)[k]? = some (AV.sc v) → raw[k]? = some (AV.sc v)) : ∃ r2 : AV, Ap r2 = true ∧ raw = [.sc (.int .i64 y.fId), .sc (.string y.fM.fTopic), r2, .sc (.int .i64 y.fM.fQos), .sc (.bool y.fM.fRetain), .sc (.int .i64 y.fSt)] := by
 match raw, hl with
 | [r0, r1, r2, r3, r4, r5], _ =>
  obtain rfl : r0 = _ := Option.some.inj (hs 0 _ rfl)
  obtain rfl : r1 = _ := Option.some.inj (hs 1 _ rfl)
  obtain rfl : r3 = _ := Option.some.inj (hs 3 _ rfl)
  obtain rfl : r4 = _ := Option.some.inj (hs 4 _ rfl)
  obtain rfl : r5 = _ := Option.some.inj (hs 5 _ rfl)
  simp only [zbj, zai] at hlf
  exact ⟨r2, hlf.2.2.1, rfl⟩
theorem Iu {raw : List AV} {y : Az} (hl : raw.length = 25) (hlf : raw.all Ap = true) (hs : ∀ (k : Nat) (v : Value), (Bd y)[k]? = some (AV.sc v) → raw[k]? = some (AV.sc v)) : ∃ r6 r13 r19 r22 r23 r24 : AV, Ap r6 = true ∧ Ap r13 = true ∧ Ap r19 = true ∧ Ap r22 = true ∧ Ap r23 = true ∧ Ap r24 = true ∧ raw = [.sc (.int .i64 y.fType), .sc (.bool y.fDup), .sc (.int .i64 y.fQos), .sc (.bool y.fRetain), .sc (.int .i64 y.fId), .sc (.string y.fTopic), r6, .sc (.string y.fClient), .sc (.int .i64 y.fLevel), .sc (.bool y.fClean), .sc (.int .i64 y.fKeep), .sc (.bool y.fHasWill), .sc (.string y.fWTopic), r13, .sc (.int .i64 y.fWQos), .sc (.bool y.fWRetain), .sc (.bool y.fHasUser), .sc (.string y.fUser), .sc (.bool y.fHasPass), r19, .sc (.int .i64 y.fCode), .sc (.bool y.fPresent), r22, r23, r24] := by
 match raw, hl with
 | [r0, r1, r2, r3, r4, r5, r6, r7, r8, r9, r10, r11, r12, r13, r14, r15, r16, r17, r18, r19, r20, r21, r22, r23, r24], _ =>
  obtain rfl : r0 = _ := Option.some.inj (hs 0 _ rfl)
  obtain rfl : r1 = _ := Option.some.inj (hs 1 _ rfl)
  obtain rfl : r2 = _ := Option.some.inj (hs 2 _ rfl)
  obtain rfl : r3 = _ := Option.some.inj (hs 3 _ rfl)
  obtain rfl : r4 = _ := Option.some.inj (hs 4 _ rfl)
  obtain rfl : r5 = _ := Option.some.inj (hs 5 _ rfl)
  obtain rfl : r7 = _ := Option.some.inj (hs 7 _ rfl)
  obtain rfl : r8 = _ := Option.some.inj (hs 8 _ rfl)
  obtain rfl : r9 = _ := Option.some.inj (hs 9 _ rfl)
  obtain rfl : r10 = _ := Option.some.inj (hs 10 _ rfl)
  obtain rfl : r11 = _ := Option.some.inj (hs 11 _ rfl)
  obtain rfl : r12 = _ := Option.some.inj (hs 12 _ rfl)
  obtain rfl : r14 = _ := Option.some.inj (hs 14 _ rfl)
  obtain rfl : r15 = _ := Option.some.inj (hs 15 _ rfl)
  obtain rfl : r16 = _ := Option.some.inj (hs 16 _ rfl)
  obtain rfl : r17 = _ := Option.some.inj (hs 17 _ rfl)
  obtain rfl : r18 = _ := Option.some.inj (hs 18 _ rfl)
  obtain rfl : r20 = _ := Option.some.inj (hs 20 _ rfl)
  obtain rfl : r21 = _ := Option.some.inj (hs 21 _ rfl)
  simp only [zbj, zai] at hlf
  exact ⟨r6, r13, r19, r22, r23, r24, hlf.2.2.2.2.2.2.1, hlf.2.2.2.2.2.2.2.2.2.2.2.2.2.1, hlf.2.2.2.2.2.2.2.2.2.2.2.2.2.2.2.2.2.2.2.1, hlf.2.2.2.2.2.2.2.2.2.2.2.2.2.2.2.2.2.2.2.2.2.2.1, hlf.2.2.2.2.2.2.2.2.2.2.2.2.2.2.2.2.2.2.2.2.2.2.2.1, hlf.2.2.2.2.2.2.2.2.2.2.2.2.2.2.2.2.2.2.2.2.2.2.2.2.1, rfl⟩
end
section
open Go
inductive Sel : List Ck → List Ck → Prop
 | nil {L : List Ck} : Sel L []
 | cons {L L1 L' : List Ck} {c : Ck} : Pk L c L1 → Sel L1 L' → Sel L (c :: L')
 | rest {L : List Ck} : Sel L L
 | skip {L L' : List Ck} {c : Ck} : Sel L L' → Sel (c :: L) L'
theorem V1 {a0 a1 : Ck} {L : List Ck} : Sel (a0 :: a1 :: L) L := .skip (.skip (.rest))
theorem Yb {a0 a1 a2 : Ck} {L : List Ck} : Sel (a0 :: a1 :: a2 :: L) L := .skip (.skip (.skip (.rest)))
theorem zS4 {a0 a1 a2 a3 : Ck} {L : List Ck} : Sel (a0 :: a1 :: a2 :: a3 :: L) L := .skip (.skip (.skip (.skip (.rest))))
theorem zS8 {a0 a1 a2 a3 a4 a5 a6 a7 : Ck} {L : List Ck} : Sel (a0 :: a1 :: a2 :: a3 :: a4 :: a5 :: a6 :: a7 :: L) L := .skip (.skip (.skip (.skip (.skip (.skip (.skip (.skip (.rest))))))))
theorem Iz {a0 a1 a2 a3 a4 a5 a6 a7 a8 : Ck} {L : List Ck} : Sel (a0 :: a1 :: a2 :: a3 :: a4 :: a5 :: a6 :: a7 :: a8 :: L) L := .skip (.skip (.skip (.skip (.skip (.skip (.skip (.skip (.skip (.rest)))))))))
section
variable {β : Type} {n : Nat} {H : Ab} {L L' L1 L2 : List Ck} {G : Option β → Prop} {K : AV → Option β} {KH : KO β}
theorem Sep.none (h : Sep H L) : Sep H [] := by
 induction L with
 | nil => exact h
 | cons c L ih => exact ih h.tail
theorem Sel.sepI : ∀ {L L' : List Ck} {I : List Nat}, Sel L L' → SepI H L I → ∃ J X, SepI H L' J ∧ I.Perm (J ++ X)
 | _, _, I, .nil, h => ⟨[], I, rfl, zb1.refl _⟩
 | _, _, I, .rest, h => ⟨I, [], h, by simp⟩
 | _, _, I, .skip q, h => by
  obtain ⟨J, R, rfl, g1, g2⟩ := h
  obtain ⟨J', X, e1, e2⟩ := q.sepI g2
  refine ⟨J', J ++ X, e1, ?_⟩
  refine (zb1.append_left J e2).trans ?_
  rw [← zaj, ← zaj]
  exact zb1.append_right X List.perm_append_comm
 | _, _, I, .cons p q, h => by
  obtain ⟨J, R, g1, g2, g3⟩ := p.sepI h
  obtain ⟨J', X, e1, e2⟩ := q.sepI g2
  refine ⟨J ++ J', X, ⟨J, J', rfl, g1, e1⟩, ?_⟩
  rw [zaj]
  exact g3.trans (zb1.append_left J e2)
theorem Sep.sel (h : Sep H L) (q : Sel L L') : Sep H L' := by
 obtain ⟨I, h1, h2⟩ := h
 obtain ⟨J, X, g1, g2⟩ := q.sepI h1
 exact ⟨J, g1, (zaP.1 (g2.nodup_iff.1 h2)).1⟩
theorem Fk {x off : Nat} {ts : List AV} {cs : List AV} {a : Bool} {m : Option β} (hs : Sep H L) (hp : Pk L (.blk x cs a) L1) (ht : ∀ y ∈ ts, ∃ j o ds b, y = .ptr j o ∧ ∃ L2, Pk L1 (.blk j ds b) L2) (h : Gd G m) : Gd G (Ob (.ptr x off) ts H m) := by
 have e : Rj (.ptr x off) ts H = true := by
  have hb := hs.blk hp
  simp only [Rj, hb, Bool.true_and, za3]
  intro y hy
  obtain ⟨j, o, ds, b, rfl, L2, hq⟩ := ht y hy
  obtain ⟨I, ⟨J, R, rfl, ⟨rfl, h1⟩, h2⟩, h3⟩ := hs.pick hp
  obtain ⟨J', R', ⟨rfl, g1⟩, g2, g3⟩ := hq.sepI h2
  have hne : x ≠ j := by
   rintro rfl
   have hn := (zaH.1 h3).1
   exact hn (g3.symm.mem_iff.1 (by simp))
  simp [g1, hne]
 unfold Ob
 rw [if_pos e]
 exact h
theorem Gd.bothE {r a b : Option β} (h1 : Gd (· = r) a) (h2 : Gd (· = r) b) : Gd (· = r) (M0 a b) := O5 h1 h2
theorem Gw {x o o' : Nat} {m : Option β} (h : Gd G m) : Gd G (O9 (.ptr x o) (.ptr x o') m) := by
 simp only [O9, if_true]
 exact h
theorem Sc {α : Type} {w : Nat} {enc : α → List AV} {l pre t : List α} {x : α} {i : Int} (hi : i = (pre.length : Nat)) (hw : ∀ x, (enc x).length = w) (h0 : 0 < w) (hl : l = pre ++ x :: t) (h : Gd G (K (.rp (enc x ++ (t.map enc).flatten)))) : Gd G (Fa w (Ai enc l) (.sc (.int .i64 i)) fun t => K t) := by
 subst hl
 subst hi
 exact Dr (Nr hw h0 pre x t _) h
theorem AfM {α : Type} {w : Nat} {enc : α → List AV} {l : List α} {i : Int} (hw : ∀ x, (enc x).length = w) (h0 : 0 < w) (hi : 0 ≤ i) (hl : i < (l.length : Nat)) (h : ∀ x rest, l[i.toNat]? = some x → Gd G (K (.rp (enc x ++ rest)))) : Gd G (Fa w (Ai enc l) (.sc (.int .i64 i)) fun t => K t) := by
 have hlt : i.toNat < l.length := by omega
 refine Sc (pre := l.take i.toNat) (x := l[i.toNat]) (t := l.drop (i.toNat + 1)) (by simp; omega) hw h0 ?_ (h _ _ (zam hlt))
 rw [← zbc hlt, zaL]
theorem AbU {l pre t : List Int} {x i : Int} (hi : i = (pre.length : Nat)) (hl : l = pre ++ x :: t) (h : Gd G (K (.rp (Rt x ++ (t.map Rt).flatten)))) : Gd G (Fa 1 (Fz l) (.sc (.int .i64 i)) fun t => K t) := by
 rw [Jo]
 exact Sc hi (fun _ => rfl) (by decide) hl h
theorem S8 {α : Type} {enc : α → List AV} (l q : List α) : Ai enc (l ++ q) = .ro (l.length + q.length) ((l.map enc).flatten ++ (q.map enc).flatten) := by
 show AV.ro _ _ = _
 rw [zag, za5, zax]
theorem Sb {α : Type} {enc : α → List AV} {sz bytes ty : Nat} {cty : List Nat} {x : AV} {l : List α} {i : Nat} {raw cb : List AV} {a : Bool} {e : α} {L3 : List Ck} (hs : Sep H L) (hty : ∃ i j, Ar ty = some i ∧ Ar i.elem = some j ∧ j.size = sz ∧ j.cty = cty) (hx : Pk L (.own x ty (Ai enc l)) L1) (hp : Pk L1 (.blk i raw a) L2) (hl : raw.length = sz) (hf : raw.all Ap = true) (hr : OwnR L2 raw cty cb L3) (hok : Es (Gr Ar E0.tp 5) cty cb) (he : cb = enc e) (hb : (l.length + 1) * bytes ≤ 140737488355328)
  (h : ∀ x' H', Ap x' = true → Sep H' (.own x' ty (Ai enc (l ++ [e])) :: L3) → Gd G (KH x' H')) : Gd G (Ic sz bytes x (.sl i 0 1 sz) H fun x H => KH x H) := by
 have e1 : (zad 1 cty).flatten = cty := by simp
 refine Aa2 hs hty hx (Rd hp (by omega) hf (by rw [e1]; exact hr) (by rw [e1]; exact hok)) (by rw [e1]; exact hok) hb fun x' H' lx hs' => h x' H' lx ?_
 rw [S8]
 simpa [he] using hs'
theorem AfJ {ty : Nat} {cty : List Nat} {x : AV} {l : List Int} {i : Nat} {z : Int} {a : Bool} (hs : Sep H L) (hx : Pk L (.own x ty (Fz l)) L1) (hp : Pk L1 (.blk i [.sc (.int .i64 z)] a) L2) (hty : ∃ i j, Ar ty = some i ∧ Ar i.elem = some j ∧ j.size = 1 ∧ j.cty = cty) (hc : cty.length = 1) (hb : (l.length + 1) * 8 ≤ 140737488355328)
  (h : ∀ x' H', Ap x' = true → Sep H' (.own x' ty (Fz (l ++ [z])) :: L2) → Gd G (KH x' H')) : Gd G (Ic 1 8 x (.sl i 0 1 1) H fun x H => KH x H) := by
 obtain ⟨c, rfl⟩ := zb4.1 hc
 rw [Jo] at hx h
 exact Sb hs hty hx hp rfl rfl (.sc .nil) ⟨trivial, trivial⟩ rfl hb h
theorem AaI {f : Nat → AV → Option (AV × List Nat)} : ∀ {ts : List Nat} {xs cells : List AV} {I : List Nat} {k ty : Nat} {y t : AV}, Cg f ts xs = some (cells, I) → xs[k]? = some y → ts[k]? = some ty → cells[k]? = some t → ∃ J, f ty y = some (t, J) ∧ ∀ i ∈ J, i ∈ I
 | ts, [], cells, I, k, ty, y, t, h, hy, _, _ => by simp at hy
 | [], _ :: _, _, _, _, _, _, _, h, _, _, _ => by simp [Cg] at h
 | t0 :: ts, x :: xs, cells, I, k, ty, y, t, h, hy, ht, hc => by
  obtain ⟨a, b, h1, h2, e⟩ := Fc h
  cases e
  cases k with
  | zero =>
   simp only [zbp, Option.some.injEq] at hy ht hc
   subst hy
   subst ht
   subst hc
   exact ⟨a.2, h1, fun i hi => zas _ hi⟩
  | succ k =>
   obtain ⟨J, g1, g2⟩ := AaI (cells := b.1) (I := b.2) h2 (by simpa using hy) (by simpa using ht) (by simpa using hc)
   exact ⟨J, g1, fun i hi => zap _ (g2 i hi)⟩
theorem AfK {α : Type} {enc : α → List AV} {sz bytes ty : Nat} {cty : List Nat} {x : AV} {l : List α} {i k ty' : Nat} {y t' : AV} {raw cb : List AV} {a : Bool} {e : α} {L3 : List Ck} (hs : Sep H L) (hty : ∃ i j, Ar ty = some i ∧ Ar i.elem = some j ∧ j.size = sz ∧ j.cty = cty) (hx : Pk L (.own x ty (Ai enc l)) L1) (hp : Pk L1 (.blk i raw a) L2) (hl : raw.length = sz) (hf : raw.all Ap = true) (hr : OwnR L2 raw cty cb L3) (hok : Es (Gr Ar E0.tp 5) cty cb) (he : cb = enc e) (hb : (l.length + 1) * bytes ≤ 140737488355328)
  (hw : ∀ x, (enc x).length = sz) (hc : cty.length = sz) (hk : raw[k]? = some y) (hk2 : cty[k]? = some ty') (hk3 : cb[k]? = some t') (hok5 : Gr Ar E0.tp 6 ty' t')
  (h : ∀ x' H', Ap x' = true → Sep H' (.shr x' ty (Ai enc (l ++ [e])) y ty' t' :: L3) → Gd G (KH x' H')) : Gd G (Ic sz bytes x (.sl i 0 1 sz) H fun x H => KH x H) := by
 have e1 : (zad 1 cty).flatten = cty := by simp
 have hblk := (hs.pick hx).tail.blk hp
 obtain ⟨ti, tj, t1, t2, t3, t4⟩ := hty
 refine Aee hs ⟨ti, tj, t1, t2, t3, t4⟩ hx (Rd hp (by omega) hf (by rw [e1]; exact hr) (by rw [e1]; exact hok)) (by rw [e1]; exact hok) hb fun x' H' lx hs' ⟨id, cx, cy, q1, q2, q3, q4⟩ => h x' H' lx ?_
 have hcy : cy = raw := by
  have : Cj H sz (.sl i 0 1 sz) = some raw := by
   show (if sz = sz then Ax H i 0 (1 * sz) else none) = _
   simp only [if_true, Ax, hblk, zbt, zaw, zaA, ← hl, zak, za0]
  rw [this] at q3
  exact (Option.some.inj q3).symm
 subst hcy
 obtain ⟨I, ⟨J, R, rfl, ⟨h0, h1, h2⟩, h3⟩, h4⟩ := hs'
 have hrow : AV.ro (l.length + 1) ((l.map enc).flatten ++ cb) = Ai enc (l ++ [e]) := by
  rw [S8]
  simp [he]
 rw [hrow] at h1 h2
 refine ⟨J ++ R, ⟨J, R, rfl, ⟨⟨h0, h1, h2⟩, hok5, ?_⟩, h3⟩, h4⟩
 rw [← hrow] at h2
 rcases Kq t1 t2 h2 with ⟨rfl, _⟩ | ⟨id', off, raw', J', b, p1, p2, p3, p4, p5, p6, p7⟩
 ·cases q1
 ·rw [q1] at p1
  cases p1
  rw [q2] at p3
  cases p3
  have hraw : raw' = cx ++ cy := by
   have hlen : (cx ++ cy).length = (l.length + 1) * tj.size := by rw [zag, q4, hl, t3, zaM, zbt]
   simp only [Ax, q2, if_true, zaw, zaA] at p6
   rw [if_pos (by rw [hlen]; exact zak _), ← hlen, za0] at p6
   exact (Option.some.inj p6).symm
  subst hraw
  have hlk : k < cy.length := (zac.1 hk).1
  obtain ⟨J2, g1, g2⟩ := AaI (k := l.length * tj.size + k) (ty := ty') (y := y) (t := t') p7 (by
   rw [zae (by omega), q4, zbr]
   exact hk) (by
   rw [List.replicate_succ', zax, zae (by simp [t4, hc])]
   simp [t4, hc, hk2]) (by
   have hlr := Fh hw l
   rw [zae (by omega), hlr, zbr]
   exact hk3)
  exact ⟨J2, Ht 5 6 ty' y t' J2 g1 hok5, fun z hz => by rw [p2]; exact zat _ (g2 z hz)⟩
theorem Aie {α : Type} {enc : α → List AV} {sz bytes ty : Nat} {cty : List Nat} {x y : AV} {l q : List α} (hs : Sep H L) (hty : ∃ i j, Ar ty = some i ∧ Ar i.elem = some j ∧ j.size = sz ∧ j.cty = cty) (hx : Pk L (.own x ty (Ai enc l)) L1) (hy : Src H L1 sz cty y q.length (q.map enc).flatten L2) (hok : Es (Gr Ar E0.tp 5) (zad q.length cty).flatten (q.map enc).flatten) (hb : (l.length + q.length) * bytes ≤ 140737488355328)
  (h : ∀ x' H', Ap x' = true → Sep H' (.own x' ty (Ai enc (l ++ q)) :: L2) → Gd G (KH x' H')) : Gd G (Ic sz bytes x y H fun x H => KH x H) := by
 refine Aa2 hs hty hx hy hok hb fun x' H' lx hs' => h x' H' lx ?_
 rw [S8]
 exact hs'
theorem Aid {sz bytes m ty : Nat} {cty : List Nat} {y : AV} {cb : List AV} (hs : Sep H L) (hty : ∃ i j, Ar ty = some i ∧ Ar i.elem = some j ∧ j.size = sz ∧ j.cty = cty) (hy : Src H L sz cty y m cb L2) (hok : Es (Gr Ar E0.tp 5) (zad m cty).flatten cb) (hb : m * bytes ≤ 140737488355328)
  (h : ∀ x' H', Ap x' = true → Sep H' (.own x' ty (.ro m cb) :: L2) → Gd G (KH x' H')) : Gd G (Ic sz bytes .nl y H fun x H => KH x H) := by
 obtain ⟨i, j, e1, e2, e3, e4⟩ := hty
 refine Aa2 (hs.nl (ty := ty) ⟨i, j, e1, e2⟩) ⟨i, j, e1, e2, e3, e4⟩ .here hy hok (by rw [zaw]; exact hb) fun x' H' lx hs' => h x' H' lx ?_
 rw [zaw, zah] at hs'
 exact hs'
theorem Xe {d : Nat} : ∀ {ts : List Nat} {l : List AV}, ts.length = l.length → l.all W0 = true → Es (Gr Ar E0.tp (d + 1)) ts l
 | [], [], _, _ => trivial
 | t :: ts, x :: l, h, hl => by
  rw [zbj, zai] at hl
  refine ⟨?_, Xe (by simpa using h) hl.2⟩
  cases x with
  | sc v => trivial
  | _ => simp [W0] at hl
 | [], _ :: _, h, _ => by simp at h
 | _ :: _, [], h, _ => by simp at h
theorem Xr (s : ByteArray) : (Be s).all W0 = true := by
 simp only [Be, List.all_map, za3]
 intro b _
 rfl
theorem Age {cty : List Nat} {w m : Nat} (h : cty.length = w) : ((zad m cty).flatten).length = m * w := by simp [h]
theorem AfL {s : ByteArray} (hs : Sep H L) (hb : s.size ≤ 140737488355328) (h : ∀ x' H', Ap x' = true → Sep H' (.own x' 22 (A3 s) :: L) → Gd G (KH x' H')) : Gd G (Ic 1 1 .nl (A3 s) H fun x H => KH x H) :=
 Aid hs ⟨_, _, rfl, rfl, rfl, rfl⟩ (Ai1 rfl (by rw [Ei]; omega) (Xr s)) (Xe (by rw [Age (w := 1) rfl, Ei, Nat.mul_one]) (Xr s)) (by omega) h
end
end
section
open Go
section
variable {β : Type} {n : Nat} {H : Ab} {L L' L1 L2 : List Ck} {G : Option β → Prop} {K : AV → Option β} {KH : KO β}
theorem Or {w m o d : Nat} {z : Int} {K : AV → Option β} (h0 : 0 ≤ z) (h1 : z < m) (hk : Gd G (K (.ptr d (o + z.toNat * w)))) : Gd G (Fa w (.sl d o m w) (.sc (.int .i64 z)) fun t => K t) := by
 have e := AfW w m d o z.toNat (fun t => K t) (by omega)
 rw [show ((z.toNat : Nat) : Int) = z by omega] at e
 exact Dr e hk
end
end
section
open Go
section
variable {β : Type} {n : Nat} {H : Ab} {L L' L1 L2 : List Ck} {G : Option β → Prop} {K : AV → Option β} {KH : KO β}
theorem Ur {d : Nat} : ∀ {ts : List Nat} {xs cells : List AV} {I : List Nat} {k : Nat} {v : Value}, Cg (B4 Ar E0.tp H d) ts xs = some (cells, I) → cells[k]? = some (.sc v) → xs[k]? = some (.sc v)
 | ts, [], cells, I, k, v, h, hk => by
  obtain ⟨_, e⟩ := I9 h
  cases e
  simp at hk
 | [], _ :: _, _, _, _, _, h, _ => by simp [Cg] at h
 | t :: ts, x :: xs, cells, I, k, v, h, hk => by
  obtain ⟨a, b, h1, h2, e⟩ := Fc h
  cases e
  cases k with
  | zero =>
   obtain ⟨a1, a2⟩ := a
   have : a1 = .sc v := by simpa using hk
   subst this
   rw [Zu h1]
   rfl
  | succ k => simpa using Ur h2 (by simpa using hk)
theorem Aj3 {id o : Nat} {c : AV} (e : Ax H id o 1 = some [c]) (h : Gd G (K c)) : Gd G (Ct false 1 (.ptr id o) H fun x => K x) := Dr (ldF e _) h
end
end
section
open Go
section
variable {β : Type} {n : Nat} {H : Ab} {L L' L1 L2 : List Ck} {G : Option β → Prop} {K : AV → Option β} {KH : KO β}
def Ai6 : List AV → List Nat → List AV → List (AV × Nat × AV)
 | x :: xs, t :: ts, c :: cs => (x, t, c) :: Ai6 xs ts cs
 | _, _, _ => []
theorem Ka {f : Nat → AV → Option (AV × List Nat)} : ∀ {ts1 ts2 : List Nat} {xs cells : List AV} {I : List Nat}, Cg f (ts1 ++ ts2) xs = some (cells, I) → ts1.length ≤ xs.length → ∃ I1 I2, Cg f ts1 (xs.take ts1.length) = some (cells.take ts1.length, I1) ∧ Cg f ts2 (xs.drop ts1.length) = some (cells.drop ts1.length, I2) ∧ (∀ i ∈ I1, i ∈ I) ∧ ∀ i ∈ I2, i ∈ I
 | [], ts2, xs, cells, I, h, _ => ⟨[], I, by simp [Cg], by simpa using h, by simp, fun i hi => hi⟩
 | t :: ts1, ts2, [], cells, I, h, hl => by simp at hl
 | t :: ts1, ts2, x :: xs, cells, I, h, hl => by
  obtain ⟨a, b, h1, h2, e⟩ := Fc h
  cases e
  obtain ⟨I1, I2, g1, g2, g3, g4⟩ := Ka (ts1 := ts1) (ts2 := ts2) h2 (by simpa using hl)
  refine ⟨a.2 ++ I1, I2, ?_, ?_, ?_, ?_⟩
  show Cg f (t :: ts1) (x :: xs.take ts1.length) = some (a.1 :: b.1.take ts1.length, a.2 ++ I1)
  rw [Cg, h1, zab, g1]
  rfl
  simpa using g2
  intro i hi
  rcases zaJ.1 hi with hi | hi
  exact zas _ hi
  exact zap _ (g3 i hi)
  intro i hi
  exact zap _ (g4 i hi)
theorem Ut {d : Nat} {I0 : List Nat} : ∀ {ts : List Nat} {xs cells : List AV} {I : List Nat}, Cg (B4 Ar E0.tp H d) ts xs = some (cells, I) → Es (Gr Ar E0.tp 6) ts cells → (∀ i ∈ I, i ∈ I0) → ∀ q ∈ Ai6 xs ts cells, Gr Ar E0.tp 6 q.2.1 q.2.2 ∧ ∃ J, B4 Ar E0.tp H 6 q.2.1 q.1 = some (q.2.2, J) ∧ ∀ i ∈ J, i ∈ I0
 | ts, [], cells, I, h, _, _ => by intro q hq; cases ts <;> cases hq
 | [], _ :: _, _, _, h, _, _ => by simp [Cg] at h
 | t :: ts, x :: xs, cells, I, h, ho, hI => by
  obtain ⟨a, b, h1, h2, e⟩ := Fc h
  cases e
  intro q hq
  rcases za2.1 hq with rfl | hq
  exact ⟨ho.1, a.2, Ht d 6 t x a.1 a.2 h1 ho.1, fun i hi => hI i (zas _ hi)⟩
  exact Ut h2 ho.2 (fun i hi => hI i (zap _ hi)) q hq
theorem Gm {f : Nat → AV → Prop} : ∀ {ts1 ts2 : List Nat} {cs : List AV}, Es f (ts1 ++ ts2) cs → Es f ts1 (cs.take ts1.length) ∧ Es f ts2 (cs.drop ts1.length)
 | [], ts2, cs, h => ⟨by simp [Es], by simpa using h⟩
 | t :: ts1, ts2, [], h => by cases h
 | t :: ts1, ts2, c :: cs, h => by
  obtain ⟨g1, g2⟩ := Gm (ts1 := ts1) h.2
  exact ⟨⟨h.1, g1⟩, by simpa using g2⟩
theorem J6 {α : Type} {enc : α → List AV} {w ty : Nat} {cty : List Nat} {x : AV} {l : List α} {y : α} {i : Int} {ys : List (AV × Nat × AV)} (hs : Sep H L) (hty : ∃ i j, Ar ty = some i ∧ Ar i.elem = some j ∧ j.size = w ∧ j.cty = cty) (hp : Pk L (.shs x ty (Ai enc l) ys) L1)
  (hi : 0 ≤ i) (hy : l[i.toNat]? = some y) (hw : ∀ x, (enc x).length = w) (hf : ∀ x, (enc x).all Iq = true) (hc : cty.length = w)
  (h : ∀ id off raw, raw.length = w → raw.all Ap = true → Ax H id off w = some raw → (∀ (k : Nat) (v : Value), (enc y)[k]? = some (AV.sc v) → raw[k]? = some (AV.sc v)) → Sep H (.shs x ty (Ai enc l) (Ai6 raw cty (enc y) ++ ys) :: L1) → Gd G (K (.ptr id off))) : Gd G (Fa w x (si i) fun t => K t) := by
 obtain ⟨ti, tj, e1, e2, rfl, rfl⟩ := hty
 obtain ⟨I, ⟨J, R, rfl, ⟨⟨hlf, hok, e⟩, hys⟩, h2⟩, h3⟩ := hs.pick hp
 have hlt : i.toNat < l.length := (zac.1 hy).1
 rcases Kq e1 e2 e with ⟨rfl, h0, _, _⟩ | ⟨id, off, raw, J', b, rfl, rfl, hb, hlv, ha, h4, h5⟩
 omega
 obtain ⟨hl, b', hb', _, hle, hcs⟩ := Gy h4
 rw [hb] at hb'
 cases hb'
 have hm : (i.toNat + 1) * tj.size ≤ l.length * tj.size := za7 _ hlt
 have hrep : (zad l.length tj.cty).flatten = (zad i.toNat tj.cty).flatten ++ (tj.cty ++ (zad (l.length - i.toNat - 1) tj.cty).flatten) := by
  rw [show l.length = i.toNat + (1 + (l.length - i.toNat - 1)) by omega, ← zaB, ← zaB, zax, zax]
  simp
 have hl1 : ((zad i.toNat tj.cty).flatten).length = i.toNat * tj.size := by simp [hc]
 rw [hrep] at h5
 obtain ⟨I1, I2, g1, g2, g3, g4⟩ := Ka h5 (by rw [hl1, hl, zaM] at *; omega)
 obtain ⟨I3, I4, k1, k2, k3, k4⟩ := Ka g2 (by rw [zaF, hl1, hl, hc]; rw [zaM] at hm; omega)
 rw [hl1, hc] at k1
 have hcell : (((l.map enc).flatten).drop (i.toNat * tj.size)).take tj.size = enc y := by
  obtain ⟨_, hey⟩ := zac.1 hy
  have hsplit : l = l.take i.toNat ++ y :: l.drop (i.toNat + 1) := by
   rw [← hey, ← zbc hlt, zaL]
  have hpre : ((l.take i.toNat).map enc).flatten.length = i.toNat * tj.size := by
   rw [Fh hw, za6, zaK (Nat.le_of_lt hlt)]
  rw [hsplit, za5, zax, zau, zaE]
  have e0 : (l.take i.toNat ++ y :: l.drop (i.toNat + 1)).take i.toNat = l.take i.toNat := by rw [← hsplit]
  rw [zbo (by omega), ← hpre, List.drop_length, zah, zb2 (by rw [hw]; exact zak _), ← hw y, za0]
 rw [hcell] at k1
 have hokE : Es (Gr Ar E0.tp 6) tj.cty (enc y) := by
  obtain ⟨i', j', q1, q2, q3, q4⟩ := hok
  rw [e1] at q1
  cases q1
  rw [e2] at q2
  cases q2
  rw [hrep] at q4
  have q5 := (Gm (Gm q4).2).1
  rw [hl1, hc] at q5
  show Es (Gr Ar E0.tp 6) tj.cty (enc y)
  have hcell' : (((Ai enc l |> fun _ => (l.map enc).flatten)).drop (i.toNat * tj.size)).take tj.size = enc y := hcell
  rw [← hcell]
  exact AaC q5 (by decide)
 have hrd : Ax H id (off + i.toNat * tj.size) tj.size = some ((raw.drop (i.toNat * tj.size)).take tj.size) := by
  simp only [Ax, hb, hlv, if_true]
  rw [zaM] at hm
  rw [if_pos (by omega), hcs, zbH, zbI, zaV, zaK (by omega)]
 have hrl : ((raw.drop (i.toNat * tj.size)).take tj.size).length = tj.size := by
  rw [za6, zaF, hl]
  rw [zaM] at hm
  omega
 refine Or hi (by omega) (h id _ _ hrl (Nb (fun t x a I h hl => S4 h hl) k1 (hf y)) hrd (fun k v hk => Ur k1 hk) ⟨(id :: J') ++ R, ⟨id :: J', R, rfl, ⟨⟨hlf, hok, e⟩, fun q hq => ?_⟩, h2⟩, h3⟩)
 rcases zaJ.1 hq with hq | hq
 exact Ut k1 hokE (fun i hi => zat _ (g4 i (k3 i hi))) q hq
 exact hys q hq
theorem N7 {id o w : Nat} {cs : List AV} (e : Ax H id o w = some cs) (h : Gd G (K (.agg cs))) : Gd G (Ct true w (.ptr id o) H fun x => K x) := Dr (ldT e _) h
theorem Ags {id o w k v : Nat} {cs : List AV} (e : Ax H id o w = some cs) (hk : k + v ≤ w) : Ax H id (o + k) v = some ((cs.drop k).take v) := by
 obtain ⟨hl, b, hb, hlv, hle, hcs⟩ := Gy e
 simp only [Ax, hb, hlv, if_true]
 rw [if_pos (by omega), hcs, zbH, zbI, zaV, zaK (by omega)]
theorem Mt {id o k : Nat} {c : AV} {w : Nat} {cs : List AV} (e : Ax H id o w = some cs) (hk : k < w) (hc : cs[k]? = some c) (h : Gd G (K c)) : Gd G (Ct false 1 (.ptr id (o + k)) H fun x => K x) := by
 have e2 := Ags (k := k) (v := 1) e (by omega)
 obtain ⟨hlt, he⟩ := zac.1 hc
 rw [zbc hlt, he] at e2
 exact Aj3 e2 h
def Pa (s : ByteArray) (b : Int) : ByteArray := s.push (UInt8.ofNat b.toNat)
theorem Br (s : ByteArray) (b : Int) : (Pa s b).size = s.size + 1 := by
 unfold Pa
 exact ByteArray.size_push
theorem Yp (s : ByteArray) (b : Int) (h0 : 0 ≤ b) (h1 : b < 256) : A3 (Pa s b) = .ro (s.size + 1) (Be s ++ [.sc (.int .u8 b)]) := by
 show AV.ro (Pa s b).size (Be (Pa s b)) = _
 rw [Br]
 congr 1
 have e : ((UInt8.ofNat b.toNat).toNat : Int) = b := by
  rw [UInt8.toNat_ofNat']
  omega
 unfold Be Pa
 rw [ByteArray.data_push, Array.toList_push, za5, zau, zbs, e]
theorem AfI {ty : Nat} {cty : List Nat} {x : AV} {s : ByteArray} {i : Nat} {z : Int} {a : Bool} (hs : Sep H L) (hx : Pk L (.own x ty (A3 s)) L1) (hp : Pk L1 (.blk i [.sc (.int .u8 z)] a) L2) (hty : ∃ i j, Ar ty = some i ∧ Ar i.elem = some j ∧ j.size = 1 ∧ j.cty = cty) (hc : cty.length = 1) (hb : 0 ≤ z ∧ z < 256 ∧ s.size + 1 ≤ 140737488355328)
  (h : ∀ x' H', Ap x' = true → Sep H' (.own x' ty (A3 (Pa s z)) :: L2) → Gd G (KH x' H')) : Gd G (Ic 1 1 x (.sl i 0 1 1) H fun x H => KH x H) := by
 obtain ⟨c, rfl⟩ := zb4.1 hc
 have e1 : (zad 1 [c]).flatten = [c] := by simp
 rw [Yp s z hb.1 hb.2.1] at h
 exact Aa2 (m := 1) (cb := [.sc (.int .u8 z)]) hs hty hx (Rd hp rfl rfl (by rw [e1]; exact .sc .nil) (by rw [e1]; exact ⟨trivial, trivial⟩)) (by rw [e1]; exact ⟨trivial, trivial⟩) (by omega) fun x' H' lx hs' => h x' H' lx hs'
theorem Aj1 {k k' : IntKind} {a z : Int} {K : AV → Option β} (hz : k.wrap a = z) (h : Gd G (K (.sc (.int k z)))) : Gd G (Xm k (.sc (.int k' a)) fun t => K t) := by
 subst hz
 exact h
theorem AeM {a : Int} (h0 : 0 ≤ a) (h1 : a < 256) : IntKind.u8.wrap a = a := by
 simp only [IntKind.wrap, IntKind.bits, IntKind.signed]
 simp
 omega
end
end
section
open Go
section
variable {β : Type} {n : Nat} {H : Ab} {L L' L1 L2 : List Ck} {G : Option β → Prop} {K : AV → Option β} {KH : KO β}
theorem Vy {cty : List Nat} {m a b : Nat} (ha : a ≤ b) (hb : b ≤ m) : (zad m cty).flatten = (zad a cty).flatten ++ ((zad (b - a) cty).flatten ++ (zad (m - b) cty).flatten) := by
 rw [show m = a + ((b - a) + (m - b)) by omega, ← zaB, ← zaB, zax, zax]
 congr 4
 omega
def Acr (w : Nat) (x : AV) (a b : Nat) (y : AV) : Prop := (x = .nl ∧ y = .nl) ∨ ∃ id off m, x = .sl id off m w ∧ y = .sl id (off + a * w) (b - a) w
theorem Aei {sz m ty a b : Nat} {cty : List Nat} {x : AV} {cells : List AV} {ys : List (AV × Nat × AV)} {lo hi : Option AV} (hs : Sep H L) (hty : ∃ i j, Ar ty = some i ∧ Ar i.elem = some j ∧ j.size = sz ∧ j.cty = cty) (hp : Pk L (.shs x ty (.ro m cells) ys) L1)
  (hlo : Jz lo 0 = some ((a : Nat) : Int)) (hhi : Jz hi m = some ((b : Nat) : Int)) (hab : a ≤ b) (hb : b ≤ m) (hc : cty.length = sz)
  (h : ∀ y, Ap y = true → Acr sz x a b y → Sep H (.shs x ty (.ro m cells) ((y, ty, .ro (b - a) ((cells.drop (a * sz)).take ((b - a) * sz))) :: ys) :: L1) → Gd G (K y)) : Gd G (Jc sz x lo hi fun t => K t) := by
 obtain ⟨ti, tj, e1, e2, rfl, rfl⟩ := hty
 obtain ⟨I, ⟨J, R, rfl, ⟨⟨hlf, hok, e⟩, hys⟩, h2⟩, h3⟩ := hs.pick hp
 have hcl : cells.length = m * tj.size ∧ Es (Gr Ar E0.tp 5) (zad m tj.cty).flatten cells := by
  obtain ⟨i', j', q1, q2, q3, q4⟩ := hok
  rw [e1] at q1
  cases q1
  rw [e2] at q2
  cases q2
  exact ⟨q3, q4⟩
 have hrl : ∀ k, ((zad k tj.cty).flatten).length = k * tj.size := fun k => by simp [hc]
 have hm1 : a * tj.size ≤ b * tj.size := za7 _ hab
 have hm2 : b * tj.size ≤ m * tj.size := za7 _ hb
 have hm3 : (b - a) * tj.size = b * tj.size - a * tj.size := Nat.sub_mul ..
 have hokP : Gr Ar E0.tp 6 ty (.ro (b - a) ((cells.drop (a * tj.size)).take ((b - a) * tj.size))) := by
  refine ⟨ti, tj, e1, e2, ?_, ?_⟩
  rw [za6, zaF, hcl.1]
  omega
  have q := hcl.2
  rw [Vy hab hb] at q
  have q2 := (Gm (Gm q).2).1
  rw [hrl, hrl] at q2
  exact q2
 have fin : ∀ y JP, Ap y = true → Acr tj.size x a b y → B4 Ar E0.tp H 6 ty y = some (.ro (b - a) ((cells.drop (a * tj.size)).take ((b - a) * tj.size)), JP) → (∀ i ∈ JP, i ∈ J) → Gd G (K y) := by
  intro y JP hy1 hq hy hJ
  refine h y hy1 hq ⟨J ++ R, ⟨J, R, rfl, ⟨⟨hlf, hok, e⟩, fun q hq => ?_⟩, h2⟩, h3⟩
  rcases za2.1 hq with rfl | hq
  exact ⟨hokP, JP, hy, hJ⟩
  exact hys q hq
 rcases Kq e1 e2 e with ⟨rfl, rfl, rfl, rfl⟩ | ⟨id, off, raw, J', bb, rfl, rfl, hbb, hlv, ha, h4, h5⟩
 have hb0 : b = 0 := by omega
 have ha0 : a = 0 := by omega
 subst hb0
 subst ha0
 refine Dr (b := K .nl) ?_ (fin .nl [] rfl (.inl ⟨rfl, rfl⟩) (by simp [B4]) (by simp))
 have hl0 : G2 .nl = some 0 := rfl
 simp only [Jc, hl0, hlo, hhi, zab]
 rfl
 obtain ⟨hl, b', hb', _, hle, hcs⟩ := Gy h4
 rw [hbb] at hb'
 cases hb'
 rw [Vy hab hb] at h5
 obtain ⟨I1, I2, g1, g2, g3, g4⟩ := Ka h5 (by rw [hrl, hl]; omega)
 obtain ⟨I3, I4, k1, k2, k3, k4⟩ := Ka g2 (by rw [hrl, zaF, hrl, hl]; omega)
 rw [hrl, hrl] at k1
 refine Dr (b := K (.sl id (off + a * tj.size) (b - a) tj.size)) ?_ (fin _ (id :: I3) rfl (.inr ⟨id, off, m, rfl, rfl⟩) ?_ ?_)
 have hl0 : G2 (.sl id off m tj.size) = some m := rfl
 simp only [Jc, hl0, hlo, hhi, zab, if_true]
 rw [if_pos (by omega)]
 congr 2
 omega
 rw [Gn]
 have hap : Ga H id = true := by simp only [Ga, hbb]; exact ha
 have hrd : Ax H id (off + a * tj.size) ((b - a) * tj.size) = some ((raw.drop (a * tj.size)).take ((b - a) * tj.size)) := by
  simp only [Ax, hbb, hlv, if_true]
  rw [if_pos (by omega), hcs, zbH, zbI, zaV, zaK (by omega)]
 simp only [e1, e2, zab, if_true, hap, hrd, k1]
 intro i hi
 rcases za2.1 hi with rfl | hi
 exact za8
 exact zat _ (g4 i (k3 i hi))
theorem S9 {α : Type} {enc : α → List AV} {w : Nat} (hw : ∀ x, (enc x).length = w) (l : List α) (a b : Nat) (hab : a ≤ b) (hb : b ≤ l.length) : (AV.ro (b - a) ((((l.map enc).flatten).drop (a * w)).take ((b - a) * w))) = Ai enc ((l.drop a).take (b - a)) := by
 have h1 : (((l.map enc).flatten).drop (a * w)) = ((l.drop a).map enc).flatten := by
  have e : l = l.take a ++ l.drop a := (zaL a l).symm
  have hp : ((l.take a).map enc).flatten.length = a * w := by rw [Fh hw, za6, zaK (by omega)]
  rw [e, za5, zax]
  have e0 : (l.take a ++ l.drop a).drop a = l.drop a := by rw [← e]
  rw [e0, zbo (by omega), ← hp, List.drop_length, zah]
 have h2 : (((l.drop a).map enc).flatten).take ((b - a) * w) = (((l.drop a).take (b - a)).map enc).flatten := by
  have e : l.drop a = (l.drop a).take (b - a) ++ (l.drop a).drop (b - a) := (zaL _ _).symm
  have hp : (((l.drop a).take (b - a)).map enc).flatten.length = (b - a) * w := by rw [Fh hw, za6, zaF, zaK (by omega)]
  have e0 : ((l.drop a).take (b - a) ++ (l.drop a).drop (b - a)).take (b - a) = (l.drop a).take (b - a) := by rw [← e]
  rw [e, za5, zax, e0, zb2 (by omega), ← hp, za0]
 rw [h1, h2]
 show _ = AV.ro _ _
 rw [za6, zaF, zaK (by omega)]
theorem La {α : Type} {enc : α → List AV} {w ty : Nat} {a b : Int} {cty : List Nat} {x : AV} {l : List α} {ys : List (AV × Nat × AV)} {lo hi : Option AV} (hs : Sep H L) (hty : ∃ i j, Ar ty = some i ∧ Ar i.elem = some j ∧ j.size = w ∧ j.cty = cty) (hp : Pk L (.shs x ty (Ai enc l) ys) L1)
  (hlo : Jz lo 0 = some a) (hhi : Jz hi l.length = some b) (h0 : 0 ≤ a) (hab : a ≤ b) (hb : b ≤ (l.length : Nat)) (hw : ∀ x, (enc x).length = w) (hc : cty.length = w)
  (h : ∀ y, Ap y = true → Acr w x a.toNat b.toNat y → Sep H (.shs x ty (Ai enc l) ((y, ty, Ai enc ((l.drop a.toNat).take (b.toNat - a.toNat))) :: ys) :: L1) → Gd G (K y)) : Gd G (Jc w x lo hi fun t => K t) := by
 obtain ⟨a', rfl⟩ : ∃ a' : Nat, a = a' := ⟨a.toNat, by omega⟩
 obtain ⟨b', rfl⟩ : ∃ b' : Nat, b = b' := ⟨b.toNat, by omega⟩
 refine Aei (cells := (l.map enc).flatten) hs hty hp hlo hhi (by omega) (by omega) hc fun y hy hq hs' => h y hy (by simpa using hq) ?_
 rw [S9 hw l a' b' (by omega) (by omega)] at hs'
 exact hs'
end
end
section
open Go
section
variable {β : Type} {n : Nat} {H : Ab} {L L' L1 L2 : List Ck} {G : Option β → Prop} {K : AV → Option β} {KH : KO β} {c : Nat} {code : ByteArray} {i : Nat} {h : Int}
abbrev Cr (c : Nat) (code : ByteArray) (i : Nat) (h : Int) : Ck := .blk c (cur code i h) true
theorem Ag8 (s : Sep H L) (p : Pk L (Cr c code i h) L1) : H[c]? = some (N0 code i h) := s.blk p
theorem Aah {ty : Nat} (hs : code.size ≤ 1048576) (s : Sep H L) (p : Pk L (Cr c code i h) L1)
  (hk : ∀ (x : Int) (i' : Nat) (h' : Int) (H' : Ab), 0 ≤ x ∧ x < 256 → Sep H' (Cr c code i' h' :: L1) → Gd G (KH (si x) H')) :
  Gd G ((PR (n + 1) β).call ty (.fn 97 [] []) [.ptr c 0] H fun x H => KH x H) := by
 obtain ⟨x, i', h', hx, hr⟩ := We (β := β) (n := n) c code hs i h (Ag8 s p) ty
 rw [hr]
 exact hk x i' h' _ (by omega) (s.put p (cur code i' h') true)
theorem Gj {ty : Nat} {m : Int} (hs : code.size ≤ 1048576) (hm : m ≤ 4294967296) (s : Sep H L) (p : Pk L (Cr c code i h) L1)
  (hk : ∀ (x : Int) (i' : Nat) (h' : Int) (H' : Ab), 0 ≤ x ∧ (0 < m → x < m) ∧ (m ≤ 0 → x = 0) → Sep H' (Cr c code i' h' :: L1) → Gd G (KH (si x) H')) :
  Gd G ((PR (n + 2) β).call ty (.fn 59 [] []) [.ptr c 0, si m] H fun x H => KH x H) := by
 by_cases h0 : m ≤ 0
 rw [Ln rfl rfl, Za, f59]
 simp only [Bh, A2]
 exact Ud (Ci (by simp; omega) (hk 0 i h H ⟨by omega, by omega, fun _ => rfl⟩ (s.pick p)))
 by_cases h1 : m ≤ 256
 obtain ⟨x, i', h', hx, hr⟩ := AaW (β := β) (n := n) c code hs i h (Ag8 s p) ty m.toNat (by omega) (by omega)
 rw [show ((m.toNat : Nat) : Int) = m by omega] at hr
 rw [hr]
 exact hk x i' h' _ ⟨by omega, by omega, by omega⟩ (s.put p (cur code i' h') true)
 rw [Ln rfl rfl, Za, f59]
 simp only [Bh, A2]
 refine Ud (Bt (by simp; omega) (Ud (Bt (by simp; omega) (Aah hs s p fun x i1 k1 H1 hx s1 => Aah hs s1 .here fun y i2 k2 H2 hy s2 => Aah hs s2 .here fun z i3 k3 H3 hz s3 => AgN (by omega) (by omega) (AgN (by omega) (by omega) (Gx (by omega) (by omega) (Gx (by omega) (by omega) (Aj0 (v := .sc (.int .i64 ((x * 65536 + y * 256 + z).tmod m))) (fun k => ?_) ?_))))))))
 show (Ym .rem .i64 (x * 65536 + y * 256 + z) m).bind (fun v => k (.sc v)) = _
 have e : Ym .rem .i64 (x * 65536 + y * 256 + z) m = some (.int .i64 ((x * 65536 + y * 256 + z).tmod m)) := by
  show (if m = 0 then none else some (Value.int .i64 ((x * 65536 + y * 256 + z).tmod m))) = _
  rw [if_neg (by omega)]
 rw [e]
 rfl
 have hnn : 0 ≤ x * 65536 + y * 256 + z := by omega
 have e := Int.tmod_eq_emod_of_nonneg (b := m) hnn
 have e1 := Int.emod_nonneg (x * 65536 + y * 256 + z) (show m ≠ 0 by omega)
 have e2 := Int.emod_lt_of_pos (x * 65536 + y * 256 + z) (show 0 < m by omega)
 exact hk _ i3 k3 H3 ⟨by rw [e]; exact e1, fun _ => by rw [e]; exact e2, by omega⟩ s3
theorem Dd {ty d m : Nat} {cs : List AV} {a : Bool} (hs : code.size ≤ 1048576) (hm : m ≤ 256) (h1 : 1 ≤ m) (hc : cs.length = m) (s : Sep H L) (p : Pk L (Cr c code i h) L1) (q : Pk L1 (.blk d cs a) L2)
  (hk : ∀ (x : AV) (i' : Nat) (h' : Int) (H' : Ab), x ∈ cs → Sep H' (Cr c code i' h' :: L1) → Gd G (KH x H')) :
  Gd G ((PR (n + 3) β).call ty (.fn 61 [] []) [.ptr c 0, .sl d 0 m 1] H fun x H => KH x H) := by
 rw [Ln rfl rfl, AhG, f61]
 simp only [B7, Ca, Bm]
 refine Aeg (Gj hs (by omega) s p fun z i' h' H' hz s' => Or (by omega) (by omega) ?_)
 have hlt : 0 + z.toNat * 1 < cs.length := by omega
 refine A0 (c := cs[0 + z.toNat * 1]) s' (.there q) (zam hlt) ?_
 exact hk _ i' h' H' (zbJ hlt) s'
theorem Ain {ty : Nat} (hs : code.size ≤ 1048576) (hn : 4000 < n) (s : Sep H L) (hk : ∀ (c : Nat) (h : Int) (H' : Ab), Sep H' (Cr c code 0 h :: L) → Gd G (KH (.ptr c 0) H')) :
  Gd G ((PR (n + 1) β).call ty (.fn 40 [] []) [A3 code] H fun x H => KH x H) := by
 obtain ⟨h, hr⟩ := Agg (β := β) (n := n) (H := H) code hs hn ty
 show Gd G ((PR (n + 1) β).call ty (.fn 40 [] []) [.ro code.size (Be code)] H fun x H => KH x H)
 rw [hr]
 exact hk _ h _ (s.new (J := [H.length]) ⟨rfl, by rw [zae (zak _), zaO]; rfl⟩ (by simp) (by simp))
theorem Ay {x : AV} {l : List Int} {lo hi : Int} (h : x ∈ l.map fun z => AV.sc (.int .i64 z)) (hl : ∀ z ∈ l, lo ≤ z ∧ z ≤ hi) : ∃ z : Int, x = .sc (.int .i64 z) ∧ lo ≤ z ∧ z ≤ hi := by
 obtain ⟨z, h1, rfl⟩ := zb8.1 h
 exact ⟨z, rfl, hl z h1⟩
theorem Sw {x : AV} {l : List ByteArray} {m : Nat} (h : x ∈ l.map fun z => AV.sc (.string z)) (hl : ∀ z ∈ l, z.size ≤ m) : ∃ z : ByteArray, x = .sc (.string z) ∧ z.size ≤ m := by
 obtain ⟨z, h1, rfl⟩ := zb8.1 h
 exact ⟨z, rfl, hl z h1⟩
theorem Md {α : Type} {w : α → Nat} : Fm w [] = 0 := rfl
theorem Hr {α : Type} {w : α → Nat} : ∀ (l : List α) (x : α), Fm w (l ++ [x]) = Fm w l + (1 + w x)
 | [], x => by show 1 + w x + 0 = 0 + (1 + w x); omega
 | y :: l, x => by
  show 1 + w y + Fm w (l ++ [x]) = 1 + w y + Fm w l + (1 + w x)
  rw [Hr l x]
  omega
theorem Jv {α : Type} {p : α → Prop} {l : List α} {x : α} (h : ∀ y ∈ l, p y) (hx : p x) : ∀ y ∈ l ++ [x], p y := by
 intro y hy
 rcases zaJ.1 hy with hy | hy
 exact h y hy
 rw [zb6.1 hy]
 exact hx
theorem Iy {α : Type} (w : α → Nat) : ∀ (l : List α), l.length ≤ Fm w l
 | [] => zak _
 | x :: l => by
  have := Iy w l
  show l.length + 1 ≤ 1 + w x + Fm w l
  omega
theorem Bj : (⟨#[]⟩ : ByteArray).size = 0 := rfl
end
end
section
open Go
section
variable {β : Type} {n : Nat} {H : Ab} {L L' L1 L2 : List Ck} {G : Option β → Prop} {K : AV → Option β} {KH : KO β} {c : Nat} {code : ByteArray} {i : Nat} {h : Int}
theorem Xh {ty : Nat} {m : Int} (hs : code.size ≤ 1048576) (hm : m ≤ 4294967296) (s : Sep H L) (p : Pk L (Cr c code i h) L1)
  (hk : ∀ (b : Bool) (i' : Nat) (h' : Int) (H' : Ab), Sep H' (Cr c code i' h' :: L1) → Gd G (KH (sb b) H')) :
  Gd G ((PR (n + 3) β).call ty (.fn 60 [] []) [.ptr c 0, si m] H fun x H => KH x H) := by
 rw [Ln rfl rfl, AhF, f60]
 simp only [Bh]
 exact Gj hs hm s p fun x i' h' H' hx s' => Bp (hk _ i' h' H' s')
theorem Ai2 {ty d m : Nat} {cs : List AV} {a : Bool} (hs : code.size ≤ 1048576) (hm : m ≤ 256) (h1 : 1 ≤ m) (hc : cs.length = m) (s : Sep H L) (p : Pk L (Cr c code i h) L1) (q : Pk L1 (.blk d cs a) L2)
  (hk : ∀ (x : AV) (i' : Nat) (h' : Int) (H' : Ab), x ∈ cs → Sep H' (Cr c code i' h' :: L1) → Gd G (KH x H')) :
  Gd G ((PR (n + 3) β).call ty (.fn 107 [] []) [.ptr c 0, .sl d 0 m 1] H fun x H => KH x H) := by
 rw [Ln rfl rfl, Afj, f107]
 simp only [B7, Ca, Bm]
 refine Aeg (Gj hs (by omega) s p fun z i' h' H' hz s' => Or (by omega) (by omega) ?_)
 have hlt : 0 + z.toNat * 1 < cs.length := by omega
 refine A0 (c := cs[0 + z.toNat * 1]) s' (.there q) (zam hlt) ?_
 exact hk _ i' h' H' (zbJ hlt) s'
end
end
end Go.Proofs.YtdofipeaomgbbaaGreatDoor.Abs
set_option maxHeartbeats 1600000
namespace Go.Proofs.YtdofipeaomgbbaaGreatDoor.Abs
open _root_.Option renaming bind_eq_some_iff → zaa, bind_some → zab, getD_some → zaC, map_eq_some_iff → zaT, bind_eq_bind → zaX, pure_def → zbl
open _root_.List renaming getElem?_eq_some_iff → zac, replicate → zad, getElem?_append_right → zae, getElem?_append_left → zaf, length_append → zag, nil_append → zah, append_assoc → zaj, getElem?_eq_getElem → zam, append_nil → zan, length_singleton → zao, mem_append_right → zap, cons_append → zar, mem_append_left → zas, mem_cons_of_mem → zat, map_cons → zau, length_cons → zav, flatten_append → zax, length_nil → zay, take_length → za0, getElem?_set_ne → za1, mem_cons → za2, all_eq_true → za3, map_append → za5, length_take → za6, mem_cons_self → za8, drop_zero → zaA, replicate_append_replicate → zaB, flatten_cons → zaE, length_drop → zaF, nodup_cons → zaH, not_mem_nil → zaI, mem_append → zaJ, take_append_drop → zaL, nodup_append → zaP, mem_range'_1 → zaQ, getElem?_drop → zaR, getElem?_take_of_lt → zaU, drop_drop → zaV, getElem?_map → zaZ, mapM_cons → zba, nodup_range' → zbb, drop_eq_getElem_cons → zbc, drop_of_length_le → zbe, getElem?_set_self → zbf, any_cons → zbg, length_set → zbh, all_cons → zbj, range' → zbk, drop_append_of_le_length → zbo, getElem?_cons_zero → zbp, map_nil → zbs, take_of_length_le → zbv, Perm → zb1, take_append_of_le_length → zb2, nodup_nil → zb3, length_eq_one_iff → zb4, mem_singleton → zb6, mem_iff_getElem? → zb7, mem_map → zb8, headD_cons → zbB, length_map → zbC, getD_eq_getElem?_getD → zbD, mem_of_getElem? → zbF, tail_cons → zbG, drop_take → zbH, take_take → zbI, getElem_mem → zbJ, take_zero → zbM
open _root_.Bool renaming and_eq_true → zai, false_eq_true → zal, eq_iff_iff → zbi, or_eq_false_iff → zbE
open _root_.Nat renaming le_refl → zak, zero_add → zaw, mul_le_mul_right → za7, min_eq_left → zaK, add_mul → zaM, zero_le → zaN, sub_self → zaO, add_assoc → zaS, eq_of_beq_eq_true → zaW, add_zero → zbd, add_sub_cancel_left → zbr, one_mul → zbt, beq → zby, add_comm → zbK, succ_mul → zbN
open _root_.Array renaming ext' → zbn, replicate → zbz
open _root_.Int renaming natCast_zero → zaY, toNat_natCast → zbm
section
open Go
theorem So (n : Nat) (hn : 1048576 < n) (code : ByteArray) (hcode : code.size ≤ 1048576) (c i : Nat) (h : Int)   {β : Type} {G : Option β → Prop} {KH : KO β} {H : Ab} {L : List Ck} (s0 : Sep H (Cr c code i h :: L)) (hk : ∀ (r0 : ByteArray) (i' : Nat) (h' : Int) (H' : Ab), (r0.size ≤ 7) → Sep H' (Cr c code i' h' :: L) → Gd G (KH (.sc (.string r0)) H')) : Gd G (Di E0 (n + 5) β 123 [.ptr c 0] H fun x H => KH x H) := by
 rw [Aft, f123]
 try simp only [Bv, Bx]
 refine Bk (cs := [ss (⟨#[97]⟩), ss (⟨#[98]⟩), ss (⟨#[97, 47, 98]⟩), ss (⟨#[97, 47, 99]⟩), ss (⟨#[97, 47, 98, 47, 99]⟩), ss (⟨#[97, 47, 98, 47, 99, 47, 100]⟩), ss (⟨#[36, 115]⟩), ss (⟨#[36, 115, 47, 97]⟩), ss (⟨#[47]⟩), ss (⟨#[97, 47]⟩), ss (⟨#[47, 97]⟩), ss (⟨#[98, 47, 98]⟩), ss (⟨#[195, 169, 47, 97]⟩)]) rfl (Bz s0 fun i1 H s2 => Ai2 hcode (by omega) (by omega) rfl s2 A1 (.here) fun z3a iq4 hq4 H mz3 sq4 => ?_)
 have s5 := (sq4.pick A1).tail
 obtain ⟨z3, rfl, hz3⟩ := Sw (l := [⟨#[97]⟩, ⟨#[98]⟩, ⟨#[97, 47, 98]⟩, ⟨#[97, 47, 99]⟩, ⟨#[97, 47, 98, 47, 99]⟩, ⟨#[97, 47, 98, 47, 99, 47, 100]⟩, ⟨#[36, 115]⟩, ⟨#[36, 115, 47, 97]⟩, ⟨#[47]⟩, ⟨#[97, 47]⟩, ⟨#[47, 97]⟩, ⟨#[98, 47, 98]⟩, ⟨#[195, 169, 47, 97]⟩]) (m := 7) mz3 (by decide)
 have e6 : z3.size ≤ 7 := by
  first | omega | (simp only [Br, Bj]; omega) | (simp; omega)
 exact hk z3 iq4 hq4 _ e6 (s5.sel (.cons (.here) .rest))
theorem W5 (n : Nat) (hn : 1048576 < n) (code : ByteArray) (hcode : code.size ≤ 1048576) (c i : Nat) (h : Int) (k : Int) (hk0 : k ≤ 1048576) {β : Type} {G : Option β → Prop} {KH : KO β} {H : Ab} {L : List Ck} (s0 : Sep H (Cr c code i h :: L)) (hk : ∀ (r0 : ByteArray) (r0x : AV) (i' : Nat) (h' : Int) (H' : Ab), (Ap r0x = true) → (r0.size ≤ k.toNat) → Sep H' (.own r0x 22 (A3 r0) :: Cr c code i' h' :: L) → Gd G (KH (r0x) H')) : Gd G (Di E0 (n + 3) β 105 [.ptr c 0, .sc (.int .i64 k)] H fun x H => KH x H) := by
 rw [Afi, f105]
 try simp only [C2]
 have lp1 : ∀ (j m : Nat) (z : Int) (a2 : ByteArray) (a2x : AV) (i : Nat) (h : Int) (H : Ab), j < m → 0 ≤ z ∧ z + ((j : Nat) : Int) = max (k) 0 → Ap a2x = true → (a2.size = (z : Int).toNat) → Sep H (.own a2x 22 (A3 a2) :: Cr c code i h :: L) → Gd G (Lt (PR ((n + 2)) β) ((n + 2)) (fun x H => KH x H) m (.ptr c 0) (si k) (a2x) (si z) H) := by
  clear s0
  intro j
  induction j with
  | zero =>
   intro m0 z a2 a2x i h H hm hz la2x hinv s0
   obtain ⟨m, rfl⟩ : ∃ m, m0 = m + 1 := ⟨m0 - 1, by omega⟩
   rw [Lt]
   try simp only [Bv, Bh, A2, Bx, C6, D2]
   refine Mu (Bt (decide_eq_false (by omega)) ?_)
   have e2 : a2.size ≤ k.toNat := by
    first | omega | (simp only [Br, Bj]; omega) | (simp; omega)
   exact hk a2 a2x i h _ la2x e2 (s0.sel (.cons (.here) (.cons (.here) .rest)))
  | succ j ih =>
   intro m0 z a2 a2x i h H hm hz la2x hinv s0
   obtain ⟨m, rfl⟩ : ∃ m, m0 = m + 1 := ⟨m0 - 1, by omega⟩
   rw [Lt]
   try simp only [Bv, Bh, A2, Bx, C6, D2]
   refine Mu (Ci (decide_eq_true (by omega)) (Aah hcode s0 A1 fun z3 iq4 hq4 H hz3 sq4 => Aj1 (AeM (by omega) (by omega)) (Bk (cs := [.sc (.int .u8 z3)]) rfl (Bz sq4 fun i5 H s6 => AfI s6 Bu (.here) ⟨_, _, rfl, rfl, rfl, rfl⟩ rfl (by first | omega | (simp only [zbC]; omega)) fun x7 H lx7 s8 => Gx (by omega) (by omega) ?_))))
   have e9 : (Pa a2 z3).size = ((z + 1) : Int).toNat := by
    simp only [Br, Bj]; omega
   exact ih m _ (Pa a2 z3) x7 iq4 hq4 _ (by omega) (by omega) lx7 e9 (s8.sel (.cons (.here) (.cons (.here) .rest)))
 have s10 := s0.nl (ty := 22) ⟨_, _, rfl, rfl⟩
 have e11 : (⟨#[]⟩ : ByteArray).size = (0 : Int).toNat := by
  simp only [Br, Bj]; omega
 exact lp1 (max (k) 0 - 0).toNat _ _ (⟨#[]⟩ : ByteArray) .nl i h _ (by omega) (by omega) rfl e11 (s10.sel (.cons (.here) (.cons (.here) .rest)))
theorem Oy (n : Nat) (hn : 1048576 < n) (code : ByteArray) (hcode : code.size ≤ 1048576) (c i : Nat) (h : Int)   {β : Type} {G : Option β → Prop} {KH : KO β} {H : Ab} {L : List Ck} (s0 : Sep H (Cr c code i h :: L)) (hk : ∀ (r0 : Cd) (r0x1 : AV) (i' : Nat) (h' : Int) (H' : Ab), (Ap r0x1 = true) → (Cp r0 ∧ Bo r0 ≤ 9) → Sep H' (.own r0x1 22 (A3 r0.fBody) :: Cr c code i' h' :: L) → Gd G (KH (.agg [.sc (.string r0.fTopic), r0x1, .sc (.int .i64 r0.fQos), .sc (.bool r0.fRetain)]) H')) : Gd G (Di E0 (n + 7) β 103 [.ptr c 0] H fun x H => KH x H) := by
 rw [Afg, f103]
 try simp only [C2, Bm, Bs, Bx]
 refine Dc s0 fun i1 H s2 => Hh rfl rfl (So _ (by omega) code hcode c i h   (s2.pick A1) fun r3 iq4 hq4 H hr3 sq4 => Gj (m := 3) hcode (by omega) sq4 (.here) fun z5 iq6 hq6 H hz5 sq6 => ?_)
 replace hz5 : 0 ≤ z5 ∧ z5 < 3 := by omega
 refine Hh rfl rfl (W5 _ (by omega) code hcode c iq6 hq6 z5 (by omega) (sq6.pick (.here)) fun r7 r7x iq8 hq8 H lr7x hr7 sq8 => Gj (m := 3) hcode (by omega) sq8 A1 fun z9 iq10 hq10 H hz9 sq10 => ?_)
 replace hz9 : 0 ≤ z9 ∧ z9 < 3 := by omega
 refine Xh hcode (by omega) sq10 (.here) fun b11 iq12 hq12 H sq12 => Bk (cs := [ss r3, r7x, si z9, sb b11]) (Eu (z' := [ss r3, .nl, i0, bF]) (Cw rfl) rfl (A9 rfl) rfl (Eu (z' := [ss r3, r7x, i0, bF]) (Cw lr7x) rfl (A9 rfl) rfl (Eu (z' := [ss r3, r7x, si z9, bF]) (Cw rfl) rfl (A9 rfl) rfl (Eu (z' := [ss r3, r7x, si z9, sb b11]) (Cw rfl) rfl (A9 rfl) rfl (rfl))))) (Bg (cs' := [ss r3, r7x, si z9, sb b11]) sq12 Bu (Ac (Aa rfl (Aa lr7x rfl))) rfl (A9 rfl) rfl fun H s13 => Ae s13 (.here) rfl ?_)
 have e14 : Cp (⟨r3, r7, z9, b11⟩ : Cd) ∧ Bo (⟨r3, r7, z9, b11⟩ : Cd) ≤ 9 := by
  simp only [Cp, Bo, Ll, Fb, and_true, true_and, Bj]; first | omega | ((repeat' apply And.intro) <;> first | trivial | omega | assumption | (intro y hy; cases hy; done))
 exact hk (⟨r3, r7, z9, b11⟩ : Cd) r7x iq12 hq12 _ lr7x e14 (s13.sel (.cons Bu (.cons A1 (.skip .rest))))
theorem Uj (n : Nat) (hn : 1048576 < n) (code : ByteArray) (hcode : code.size ≤ 1048576) (c i : Nat) (h : Int) (most : Int) (hm0 : 0 ≤ most ∧ most ≤ 8) {β : Type} {G : Option β → Prop} {KH : KO β} {H : Ab} {L : List Ck} (s0 : Sep H (Cr c code i h :: L)) (hk : ∀ (r0 : List Cd) (r0x : AV) (i' : Nat) (h' : Int) (H' : Ab), (Ap r0x = true) → ((∀ y ∈ r0, Cp y) ∧ Fm Bo r0 ≤ 80) → Sep H' (.own r0x 25 (Ai Aj r0) :: Cr c code i' h' :: L) → Gd G (KH (r0x) H')) : Gd G (Di E0 (n + 9) β 112 [.ptr c 0, .sc (.int .i64 most)] H fun x H => KH x H) := by
 rw [Afm, f112]
 try simp only [Bh]
 refine Gx (by omega) (by omega) (Gj (m := (most + 1)) hcode (by omega) s0 (.here) fun z1 iq2 hq2 H hz1 sq2 => ?_)
 have lp3 : ∀ (j m : Nat) (z : Int) (a1 : List Cd) (a1x : AV) (i : Nat) (h : Int) (H : Ab), j < m → z = ((j : Nat) : Int) → Ap a1x = true → ((∀ y ∈ a1, Cp y) ∧ Fm Bo a1 + 10 * j ≤ 80) → Sep H (.own a1x 25 (Ai Aj a1) :: Cr c code i h :: L) → Gd G (Lu (PR ((n + 8)) β) ((n + 8)) (fun x H => KH x H) m (.ptr c 0) (a1x) (si z) H) := by
  clear s0 sq2
  intro j
  induction j with
  | zero =>
   intro m0 z a1 a1x i h H hm hz la1x hinv s0
   obtain ⟨m, rfl⟩ : ∃ m, m0 = m + 1 := ⟨m0 - 1, by omega⟩
   obtain ⟨hv1, hv2⟩ := hinv
   have hinv := And.intro hv1 hv2
   have ga1 := Iy Bo a1
   rw [Lu]
   try simp only [Bv, Bh, A2, Bx, C6]
   refine K9 (Bt (decide_eq_false (by omega)) ?_)
   have e4 : (∀ y ∈ a1, Cp y) ∧ Fm Bo a1 ≤ 80 := by
    first | exact ⟨by assumption, by omega⟩ | exact ⟨by simp, by simp [Md]⟩ | exact ⟨Jv (by assumption) (by assumption), by rw [Hr]; omega⟩
   exact hk a1 a1x i h _ la1x e4 (s0.sel (.cons (.here) (.cons (.here) .rest)))
  | succ j ih =>
   intro m0 z a1 a1x i h H hm hz la1x hinv s0
   obtain ⟨m, rfl⟩ : ∃ m, m0 = m + 1 := ⟨m0 - 1, by omega⟩
   obtain ⟨hv1, hv2⟩ := hinv
   have hinv := And.intro hv1 hv2
   have ga1 := Iy Bo a1
   rw [Lu]
   try simp only [Bv, Bh, A2, Bx, C6]
   refine K9 (Ci (decide_eq_true (by omega)) (Hh rfl rfl (Oy _ (by omega) code hcode c i h   (s0.pick A1) fun r5 r5x1 iq6 hq6 H lr5x1 hr5 sq6 => ?_)))
   obtain ⟨or5, wr5⟩ := hr5
   have ur5 := or5
   have vr5 := wr5
   simp only [Cp, Bo, Ll, Fb, and_true, true_and] at ur5 vr5
   refine Bk (cs := [.sc (.string r5.fTopic), r5x1, .sc (.int .i64 r5.fQos), .sc (.bool r5.fRetain)]) (Eu (z' := [.sc (.string r5.fTopic), r5x1, .sc (.int .i64 r5.fQos), .sc (.bool r5.fRetain)]) (Ac (Aa rfl (Aa lr5x1 rfl))) rfl (A9 rfl) rfl (rfl)) (Bz sq6 fun i7 H s8 => Sb (cty := [9, 22, 3, 4]) (e := (r5 : Cd)) s8 ⟨_, _, rfl, rfl, rfl, rfl⟩ Cq (.here) rfl (Aa rfl (Aa lr5x1 rfl)) (.sc (.own (.here) (.sc (.sc .nil)))) ⟨trivial, ⟨(Sy r5.fBody), (K4 trivial)⟩⟩ rfl (by first | omega | (simp only [zag, zao]; omega)) fun x9 H lx9 s10 => Ue (by omega) (by omega) ?_)
   have e11 : (∀ y ∈ (a1 ++ [r5]), Cp y) ∧ Fm Bo (a1 ++ [r5]) + 10 * j ≤ 80 := by
    first | omega | exact ⟨fun y hy => (by cases hy), by simp only [Md]; omega⟩ | exact ⟨Jv hinv.1 (by assumption), by have h0 := hinv.2; rw [Hr]; omega⟩ | (simp only [Br, Bj] at *; omega) | (simp only [Ll, Fb, Md, Hr, zay, zag, zao, zaI, false_implies, implies_true, and_true, true_and] at *; first | omega | (refine ⟨?_, ?_⟩ <;> first | omega | assumption))
   exact ih m _ (a1 ++ [r5]) x9 iq6 hq6 _ (by omega) (by omega) lx9 e11 (s10.sel (.cons (.here) (.cons (.here) .rest)))
 have s12 := sq2.nl (ty := 25) ⟨_, _, rfl, rfl⟩
 have e13 : (∀ y ∈ ([] : List Cd), Cp y) ∧ Fm Bo ([] : List Cd) + 10 * (z1).toNat ≤ 80 := by
  first | omega | exact ⟨fun y hy => (by cases hy), by simp only [Md]; omega⟩ | exact ⟨Jv hinv.1 (by assumption), by have h0 := hinv.2; rw [Hr]; omega⟩ | (simp only [Br, Bj] at *; omega) | (simp only [Ll, Fb, Md, Hr, zay, zag, zao, zaI, false_implies, implies_true, and_true, true_and] at *; first | omega | (refine ⟨?_, ?_⟩ <;> first | omega | assumption))
 exact lp3 (z1).toNat _ _ ([] : List Cd) .nl iq2 hq2 _ (by omega) (by omega) rfl e13 (s12.sel (.cons (.here) (.cons (.here) .rest)))
theorem AbX (n : Nat) (hn : 1048576 < n) (code : ByteArray) (hcode : code.size ≤ 1048576) (c i : Nat) (h : Int)   {β : Type} {G : Option β → Prop} {KH : KO β} {H : Ab} {L : List Ck} (s0 : Sep H (Cr c code i h :: L)) (hk : ∀ (r0 : ByteArray) (i' : Nat) (h' : Int) (H' : Ab), (r0.size ≤ 7) → Sep H' (Cr c code i' h' :: L) → Gd G (KH (.sc (.string r0)) H')) : Gd G (Di E0 (n + 6) β 124 [.ptr c 0] H fun x H => KH x H) := by
 rw [Afu, f124]
 try simp only [Bv, A2, Bx]
 refine Xh hcode (by omega) s0 (.here) fun b1 iq2 hq2 H sq2 => Af (b1) (fun h3 => ?_) fun h3 => ?_
 refine Ci h3 (Hh rfl rfl (So _ (by omega) code hcode c iq2 hq2   (sq2.pick (.here)) fun r4 iq5 hq5 H hr4 sq5 => ?_))
 have e6 : r4.size ≤ 7 := by
  first | omega | (simp only [Br, Bj]; omega) | (simp; omega)
 exact hk r4 iq5 hq5 _ e6 (sq5.sel (.cons (.here) .rest))
 refine Bt h3 (Bk (cs := [ss (⟨#[35]⟩), ss (⟨#[43]⟩), ss (⟨#[97, 47, 35]⟩), ss (⟨#[97, 47, 43]⟩), ss (⟨#[43, 47, 98]⟩), ss (⟨#[43, 47, 43]⟩), ss (⟨#[97, 47, 43, 47, 99]⟩), ss (⟨#[97, 47, 98, 47, 35]⟩), ss (⟨#[36, 115, 47, 35]⟩), ss (⟨#[36, 115, 47, 43]⟩), ss (⟨#[43, 47, 35]⟩), ss (⟨#[47, 43]⟩), ss (⟨#[47, 35]⟩), ss (⟨#[97, 47, 43, 47, 35]⟩), ss (⟨#[98, 47, 35]⟩), ss (⟨#[43, 47, 98, 47, 43]⟩)]) rfl (Bz sq2 fun i7 H s8 => Ai2 hcode (by omega) (by omega) rfl s8 A1 (.here) fun z9a iq10 hq10 H mz9 sq10 => ?_))
 have s11 := (sq10.pick A1).tail
 obtain ⟨z9, rfl, hz9⟩ := Sw (l := [⟨#[35]⟩, ⟨#[43]⟩, ⟨#[97, 47, 35]⟩, ⟨#[97, 47, 43]⟩, ⟨#[43, 47, 98]⟩, ⟨#[43, 47, 43]⟩, ⟨#[97, 47, 43, 47, 99]⟩, ⟨#[97, 47, 98, 47, 35]⟩, ⟨#[36, 115, 47, 35]⟩, ⟨#[36, 115, 47, 43]⟩, ⟨#[43, 47, 35]⟩, ⟨#[47, 43]⟩, ⟨#[47, 35]⟩, ⟨#[97, 47, 43, 47, 35]⟩, ⟨#[98, 47, 35]⟩, ⟨#[43, 47, 98, 47, 43]⟩]) (m := 5) mz9 (by decide)
 have e12 : z9.size ≤ 7 := by
  first | omega | (simp only [Br, Bj]; omega) | (simp; omega)
 exact hk z9 iq10 hq10 _ e12 (s11.sel (.cons (.here) .rest))
theorem Ail (n : Nat) (hn : 1048576 < n) (code : ByteArray) (hcode : code.size ≤ 1048576) (c i : Nat) (h : Int)   {β : Type} {G : Option β → Prop} {KH : KO β} {H : Ab} {L : List Ck} (s0 : Sep H (Cr c code i h :: L)) (hk : ∀ (r0 : ByteArray) (i' : Nat) (h' : Int) (H' : Ab), (r0.size ≤ 61) → Sep H' (Cr c code i' h' :: L) → Gd G (KH (.sc (.string r0)) H')) : Gd G (Di E0 (n + 7) β 104 [.ptr c 0] H fun x H => KH x H) := by
 rw [Afh, f104]
 try simp only [Bv, Bh, A2, Bx]
 refine Gj (m := 3) hcode (by omega) s0 (.here) fun z1 iq2 hq2 H hz1 sq2 => ?_
 replace hz1 : 0 ≤ z1 ∧ z1 < 3 := by omega
 refine Bp (Af ((decide (z1 = 0))) (fun h3 => ?_) fun h3 => ?_)
 refine Ci h3 (Hh rfl rfl (So _ (by omega) code hcode c iq2 hq2   (sq2.pick (.here)) fun r4 iq5 hq5 H hr4 sq5 => ?_))
 have e6 : r4.size ≤ 61 := by
  first | omega | (simp only [Br, Bj]; omega) | (simp; omega)
 exact hk r4 iq5 hq5 _ e6 (sq5.sel (.cons (.here) .rest))
 refine Bt h3 (Bp (Af ((decide (z1 = 1))) (fun h7 => ?_) fun h7 => ?_))
 refine Ci h7 (Hh rfl rfl (AbX _ (by omega) code hcode c iq2 hq2   (sq2.pick (.here)) fun r8 iq9 hq9 H hr8 sq9 => ?_))
 have e10 : r8.size ≤ 61 := by
  first | omega | (simp only [Br, Bj]; omega) | (simp; omega)
 exact hk r8 iq9 hq9 _ e10 (sq9.sel (.cons (.here) .rest))
 refine Bt h7 (Bk (cs := [sE, ss (⟨#[97, 43]⟩), ss (⟨#[97, 47, 98, 43]⟩), ss (⟨#[43, 97]⟩), ss (⟨#[35, 47, 97]⟩), ss (⟨#[97, 35]⟩), ss (⟨#[97, 47, 35, 47, 98]⟩), ss (⟨#[35, 35]⟩), ss (⟨#[43, 43]⟩), ss (⟨#[97, 47, 98, 47, 99, 47, 100, 47, 101, 47, 102]⟩), ss (⟨#[97, 47, 98, 47, 99, 47, 100, 47, 101, 47, 102, 47, 103]⟩), ss (⟨#[47, 47, 47, 47, 47]⟩), ss (⟨#[47, 47, 47, 47, 47, 47]⟩), ss (⟨#[0]⟩), ss (⟨#[255]⟩), ss (⟨#[49, 50, 51, 52, 53, 54, 55, 56, 57, 48, 49, 50, 51, 52, 53, 54, 55, 56, 57, 48, 49, 50, 51, 52, 53, 54, 55, 56, 57, 48, 49, 50, 51, 52, 53, 54, 55, 56, 57, 48, 49, 50, 51, 52, 53, 54, 55, 56, 57, 48, 49, 50, 51, 52, 53, 54, 55, 56, 57, 48, 49]⟩)]) rfl (Bz sq2 fun i11 H s12 => Ai2 hcode (by omega) (by omega) rfl s12 A1 (.here) fun z13a iq14 hq14 H mz13 sq14 => ?_))
 have s15 := (sq14.pick A1).tail
 obtain ⟨z13, rfl, hz13⟩ := Sw (l := [⟨#[]⟩, ⟨#[97, 43]⟩, ⟨#[97, 47, 98, 43]⟩, ⟨#[43, 97]⟩, ⟨#[35, 47, 97]⟩, ⟨#[97, 35]⟩, ⟨#[97, 47, 35, 47, 98]⟩, ⟨#[35, 35]⟩, ⟨#[43, 43]⟩, ⟨#[97, 47, 98, 47, 99, 47, 100, 47, 101, 47, 102]⟩, ⟨#[97, 47, 98, 47, 99, 47, 100, 47, 101, 47, 102, 47, 103]⟩, ⟨#[47, 47, 47, 47, 47]⟩, ⟨#[47, 47, 47, 47, 47, 47]⟩, ⟨#[0]⟩, ⟨#[255]⟩, ⟨#[49, 50, 51, 52, 53, 54, 55, 56, 57, 48, 49, 50, 51, 52, 53, 54, 55, 56, 57, 48, 49, 50, 51, 52, 53, 54, 55, 56, 57, 48, 49, 50, 51, 52, 53, 54, 55, 56, 57, 48, 49, 50, 51, 52, 53, 54, 55, 56, 57, 48, 49, 50, 51, 52, 53, 54, 55, 56, 57, 48, 49]⟩]) (m := 61) mz13 (by decide)
 have e16 : z13.size ≤ 61 := by
  first | omega | (simp only [Br, Bj]; omega) | (simp; omega)
 exact hk z13 iq14 hq14 _ e16 (s15.sel (.cons (.here) .rest))
theorem Ow (n : Nat) (hn : 1048576 < n) (code : ByteArray) (hcode : code.size ≤ 1048576) (c i : Nat) (h : Int)   {β : Type} {G : Option β → Prop} {KH : KO β} {H : Ab} {L : List Ck} (s0 : Sep H (Cr c code i h :: L)) (hk : ∀ (r0 : Cd) (r0x1 : AV) (i' : Nat) (h' : Int) (H' : Ab), (Ap r0x1 = true) → (Cp r0 ∧ Bo r0 ≤ 102) → Sep H' (.own r0x1 22 (A3 r0.fBody) :: Cr c code i' h' :: L) → Gd G (KH (.agg [.sc (.string r0.fTopic), r0x1, .sc (.int .i64 r0.fQos), .sc (.bool r0.fRetain)]) H')) : Gd G (Di E0 (n + 9) β 66 [.ptr c 0] H fun x H => KH x H) := by
 rw [AhK, f66]
 try simp only [C2, Bv, B3, Bm, Bs, Bh, A2, Bx]
 refine Dc s0 fun i1 H s2 => Hh rfl rfl (Oy _ (by omega) code hcode c i h   (s2.pick A1) fun r3 r3x1 iq4 hq4 H lr3x1 hr3 sq4 => ?_)
 obtain ⟨or3, wr3⟩ := hr3
 have ur3 := or3
 have vr3 := wr3
 simp only [Cp, Bo, Ll, Fb, and_true, true_and] at ur3 vr3
 refine Dc sq4 fun i5 H s6 => Bg (cs' := [ss r3.fTopic, r3x1, si r3.fQos, sb r3.fRetain]) s6 (.here) (Ac (Aa rfl (Aa lr3x1 rfl))) rfl (A9 rfl) rfl fun H s7 => Gj (m := 12) hcode (by omega) s7 Bu fun z8 iq9 hq9 H hz8 sq9 => ?_
 replace hz8 : 0 ≤ z8 ∧ z8 < 12 := by omega
 refine Bp (Af ((decide (z8 = 0))) (fun h10 => ?_) fun h10 => ?_)
 refine Ci h10 (Hh rfl rfl (Ail _ (by omega) code hcode c iq9 hq9   (sq9.pick (.here)) fun r11 iq12 hq12 H hr11 sq12 => Am (o' := 0) rfl (B0 sq12 A1 rfl rfl fun H s13 => Ae s13 (.here) rfl (Bg (cs' := [ss r11, r3x1, si r3.fQos, sb r3.fRetain]) s13 Cq (Ac (Aa rfl (Aa lr3x1 rfl))) rfl (A9 rfl) rfl fun H s14 => Ae s14 (.here) rfl ?_))))
 have e15 : Cp (⟨r11, r3.fBody, r3.fQos, r3.fRetain⟩ : Cd) ∧ Bo (⟨r11, r3.fBody, r3.fQos, r3.fRetain⟩ : Cd) ≤ 102 := by
  simp only [Cp, Bo, Ll, Fb, and_true, true_and, Bj]; first | omega | ((repeat' apply And.intro) <;> first | trivial | omega | assumption | (intro y hy; cases hy; done))
 exact hk (⟨r11, r3.fBody, r3.fQos, r3.fRetain⟩ : Cd) r3x1 iq12 hq12 _ lr3x1 e15 (s14.sel (.cons Cq (.cons Bu V1)))
 refine Bt h10 (Bp (Af ((decide (z8 = 1))) (fun h16 => ?_) fun h16 => ?_))
 refine Ci h16 (Bk (cs := [si 40, si 41]) rfl (Bz sq9 fun i17 H s18 => Dd hcode (by omega) (by omega) rfl s18 A1 (.here) fun z19a iq20 hq20 H mz19 sq20 => ?_))
 have s21 := (sq20.pick A1).tail
 obtain ⟨z19, rfl, hz19⟩ := Ay (l := [40, 41]) (lo := 40) (hi := 41) mz19 (by decide)
 refine Hh rfl rfl (W5 _ (by omega) code hcode c iq20 hq20 z19 (by omega) (s21.pick (.here)) fun r22 r22x iq23 hq23 H lr22x hr22 sq23 => Am (o' := 1) rfl (B0 sq23 Bu lr22x rfl fun H s24 => Ae s24 (.here) rfl (Bg (cs' := [ss r3.fTopic, r22x, si r3.fQos, sb r3.fRetain]) s24 E2 (Ac (Aa rfl (Aa lr22x rfl))) rfl (A9 rfl) rfl fun H s25 => Ae s25 (.here) rfl ?_)))
 have e26 : Cp (⟨r3.fTopic, r22, r3.fQos, r3.fRetain⟩ : Cd) ∧ Bo (⟨r3.fTopic, r22, r3.fQos, r3.fRetain⟩ : Cd) ≤ 102 := by
  simp only [Cp, Bo, Ll, Fb, and_true, true_and, Bj]; first | omega | ((repeat' apply And.intro) <;> first | trivial | omega | assumption | (intro y hy; cases hy; done))
 exact hk (⟨r3.fTopic, r22, r3.fQos, r3.fRetain⟩ : Cd) r22x iq23 hq23 _ lr22x e26 (s25.sel (.cons Bu (.cons Bu Yb)))
 refine Bt h16 (Bp (Af ((decide (z8 = 2))) (fun h27 => ?_) fun h27 => ?_))
 refine Ci h27 (Bk (cs := [si (-1), si 3]) rfl (Bz sq9 fun i28 H s29 => Dd hcode (by omega) (by omega) rfl s29 A1 (.here) fun z30a iq31 hq31 H mz30 sq31 => ?_))
 have s32 := (sq31.pick A1).tail
 obtain ⟨z30, rfl, hz30⟩ := Ay (l := [(-1), 3]) (lo := -1) (hi := 3) mz30 (by decide)
 refine Am (o' := 2) rfl (B0 s32 A1 rfl rfl fun H s33 => Ae s33 (.here) rfl (Bg (cs' := [ss r3.fTopic, r3x1, si z30, sb r3.fRetain]) s33 Cq (Ac (Aa rfl (Aa lr3x1 rfl))) rfl (A9 rfl) rfl fun H s34 => Ae s34 (.here) rfl ?_))
 have e35 : Cp (⟨r3.fTopic, r3.fBody, z30, r3.fRetain⟩ : Cd) ∧ Bo (⟨r3.fTopic, r3.fBody, z30, r3.fRetain⟩ : Cd) ≤ 102 := by
  simp only [Cp, Bo, Ll, Fb, and_true, true_and, Bj]; first | omega | ((repeat' apply And.intro) <;> first | trivial | omega | assumption | (intro y hy; cases hy; done))
 exact hk (⟨r3.fTopic, r3.fBody, z30, r3.fRetain⟩ : Cd) r3x1 iq31 hq31 _ lr3x1 e35 (s34.sel (.cons Cq (.cons Bu V1)))
 refine Bt h27 (Ae sq9 A1 rfl (Bg (cs' := [ss r3.fTopic, r3x1, si r3.fQos, sb r3.fRetain]) sq9 Cq (Ac (Aa rfl (Aa lr3x1 rfl))) rfl (A9 rfl) rfl fun H s36 => Ae s36 (.here) rfl ?_))
 have e37 : Cp (r3 : Cd) ∧ Bo (r3 : Cd) ≤ 102 := by
  simp only [Cp, Bo, Ll, Fb, and_true, true_and, Bj]; first | omega | ((repeat' apply And.intro) <;> first | trivial | omega | assumption | (intro y hy; cases hy; done))
 exact hk (r3 : Cd) r3x1 iq9 hq9 _ lr3x1 e37 (s36.sel (.cons Cq (.cons A1 V1)))
theorem AbW (n : Nat) (hn : 1048576 < n) (code : ByteArray) (hcode : code.size ≤ 1048576) (c i : Nat) (h : Int)   {β : Type} {G : Option β → Prop} {KH : KO β} {H : Ab} {L : List Ck} (s0 : Sep H (Cr c code i h :: L)) (hk : ∀ (r0 : List Cd) (r0x : AV) (i' : Nat) (h' : Int) (H' : Ab), (Ap r0x = true) → ((∀ y ∈ r0, Cp y) ∧ Fm Bo r0 ≤ 183) → Sep H' (.own r0x 25 (Ai Aj r0) :: Cr c code i' h' :: L) → Gd G (KH (r0x) H')) : Gd G (Di E0 (n + 10) β 87 [.ptr c 0] H fun x H => KH x H) := by
 rw [AhT, f87]
 try simp only [Bv, A2, Bx, C6]
 refine Hh rfl rfl (Uj _ (by omega) code hcode c i h 8 (by omega) (s0.pick (.here)) fun r1 r1x iq2 hq2 H lr1x hr1 sq2 => ?_)
 obtain ⟨or1, wr1⟩ := hr1
 have gr1 := Iy Bo r1
 refine Xh hcode (by omega) sq2 A1 fun b3 iq4 hq4 H sq4 => Hw (Af (b3) (fun h5 => ?_) fun h5 => ?_)
 refine Ci h5 (Hh rfl rfl (Ow _ (by omega) code hcode c iq4 hq4   (sq4.pick (.here)) fun r6 r6x1 iq7 hq7 H lr6x1 hr6 sq7 => ?_))
 obtain ⟨or6, wr6⟩ := hr6
 have ur6 := or6
 have vr6 := wr6
 simp only [Cp, Bo, Ll, Fb, and_true, true_and] at ur6 vr6
 refine Bk (cs := [.sc (.string r6.fTopic), r6x1, .sc (.int .i64 r6.fQos), .sc (.bool r6.fRetain)]) (Eu (z' := [.sc (.string r6.fTopic), r6x1, .sc (.int .i64 r6.fQos), .sc (.bool r6.fRetain)]) (Ac (Aa rfl (Aa lr6x1 rfl))) rfl (A9 rfl) rfl (rfl)) (Bz sq7 fun i8 H s9 => Sb (cty := [9, 22, 3, 4]) (e := (r6 : Cd)) s9 ⟨_, _, rfl, rfl, rfl, rfl⟩ Cq (.here) rfl (Aa rfl (Aa lr6x1 rfl)) (.sc (.own (.here) (.sc (.sc .nil)))) ⟨trivial, ⟨(Sy r6.fBody), (K4 trivial)⟩⟩ rfl (by first | omega | (simp only [zag, zao]; omega)) fun x10 H lx10 s11 => ?_)
 have e12 : (∀ y ∈ (r1 ++ [r6]), Cp y) ∧ Fm Bo (r1 ++ [r6]) ≤ 183 := by
  first | exact ⟨by assumption, by omega⟩ | exact ⟨by simp, by simp [Md]⟩ | exact ⟨Jv (by assumption) (by assumption), by rw [Hr]; omega⟩
 exact hk (r1 ++ [r6]) x10 iq7 hq7 _ lx10 e12 (s11.sel (.cons (.here) (.cons (.here) .rest)))
 refine Bt h5 ?_
 have e13 : (∀ y ∈ r1, Cp y) ∧ Fm Bo r1 ≤ 183 := by
  first | exact ⟨by assumption, by omega⟩ | exact ⟨by simp, by simp [Md]⟩ | exact ⟨Jv (by assumption) (by assumption), by rw [Hr]; omega⟩
 exact hk r1 r1x iq4 hq4 _ lr1x e13 (sq4.sel (.cons A1 (.cons (.here) .rest)))
end
section
open Go
def Ge (x lo hi : Int) : Bool := decide (lo ≤ x) && decide (x ≤ hi)
theorem Oz (n : Nat) (ty : Nat) (x : Int) (lo : Int) (hi : Int) : Cs E0 (n + 1) ty 50 [.sc (.int .i64 x), .sc (.int .i64 lo), .sc (.int .i64 hi)] = some (.sc (.bool (Ge x lo hi))) := by
 rw [Bb, Ah9, f50]
 try simp only [C8, C2, B3, Bm, Bs, Bh, Dz, Dy, Fo, A2, B6, Pr.gT, Pr.gF, Pr.hT, Pr.hF, Pr.kT, Pr.kF, Ce, B7, Dj, Ca, Et, Dk, Cx, Bv, Bx, Ed, C6, D2, D5]
 refine A4 (v := sb (decide (x ≥ lo))) (fun k => rfl) ?_
 apply A8 ((decide (x ≥ lo)) && (decide (x ≤ hi)))
 intro b1 q1
 refine Af ((decide (x ≥ lo))) (fun h1 => ?_) fun h1 => ?_
 exact An h1 (An h1 (An h1 (A4 (v := sb (decide (x ≤ hi))) (fun k => rfl) (Cc h1 (Hd q1 h1) rfl))))
 exact Ao h1 (Ao h1 (Ao h1 (Cb h1 (Hb q1 h1) rfl)))
 intro b1 q1
 exact E8 (by first | (simp_all [Ge]; done) | (rw [zbi]; simp [Ge] at *; omega))
theorem Jl (n : Nat) (ty : Nat) (x : Int) (lo : Int) (hi : Int) : Cs E0 (n + 1) ty 47 [.sc (.int .i64 x), .sc (.int .i64 lo), .sc (.int .i64 hi)] = some (.sc (.bool (Ge x lo hi))) := by
 rw [Bb, Ah6, f47]
 try simp only [C8, C2, B3, Bm, Bs, Bh, Dz, Dy, Fo, A2, B6, Pr.gT, Pr.gF, Pr.hT, Pr.hF, Pr.kT, Pr.kF, Ce, B7, Dj, Ca, Et, Dk, Cx, Bv, Bx, Ed, C6, D2, D5]
 refine A4 (v := sb (decide (x ≥ lo))) (fun k => rfl) ?_
 apply A8 ((decide (x ≥ lo)) && (decide (x ≤ hi)))
 intro b1 q1
 refine Af ((decide (x ≥ lo))) (fun h1 => ?_) fun h1 => ?_
 exact An h1 (An h1 (An h1 (A4 (v := sb (decide (x ≤ hi))) (fun k => rfl) (Cc h1 (Hd q1 h1) rfl))))
 exact Ao h1 (Ao h1 (Ao h1 (Cb h1 (Hb q1 h1) rfl)))
 intro b1 q1
 exact E8 (by first | (simp_all [Ge]; done) | (rw [zbi]; simp [Ge] at *; omega))
theorem Vr (n : Nat) (ty : Nat) (s t : ByteArray) : Cs E0 (n + 1) ty 138 [A3 s, A3 t] = some (.sc (.bool (s.toList == t.toList))) := by
 rw [Bb, Afz, f138]
 have e : ∀ u : ByteArray, Cj [] 1 (.ro u.size (Be u)) = some (Be u) := by
  intro u
  simp [Cj, Ei]
 have eb : ∀ u : ByteArray, (Be u).mapM Lp = some u.data.toList := fun u => Jh _
 simp only [D5, Bh, Qs, e, eb, zab, Ey, Yn]
 simp
theorem Mn (n : Nat) (ty : Nat) (s t : ByteArray) : Cs E0 (n + 1) ty 69 [A3 s, A3 t] = some (.sc (.bool (s.toList == t.toList))) := by
 rw [Bb, AhN, f69]
 have e : ∀ u : ByteArray, Cj [] 1 (.ro u.size (Be u)) = some (Be u) := by
  intro u
  simp [Cj, Ei]
 have eb : ∀ u : ByteArray, (Be u).mapM Lp = some u.data.toList := fun u => Jh _
 simp only [D5, Bh, Qs, e, eb, zab, Ey, Yn]
 simp
end
section
open Go
theorem AiC : ∀ X : Fin 256, bits .and .i64 ((X.val : Nat) : Int) 31 = ((X.val % 32 : Nat) : Int) := by decide +kernel
theorem AiB : ∀ X : Fin 256, bits .and .i64 ((X.val : Nat) : Int) 15 = ((X.val % 16 : Nat) : Int) := by decide +kernel
theorem AiD : ∀ X : Fin 256, bits .and .i64 ((X.val : Nat) : Int) 7 = ((X.val % 8 : Nat) : Int) := by decide +kernel
def P9 (d : Nat × Nat) (i : Nat) : AV := if d.1 = 65533 ∧ d.2 = 1 then .tup [.sc (.int .i64 0), .sc (.int .i64 0), .sc (.bool false)] else .tup [.sc (.int .i64 d.1), .sc (.int .i64 ((i + d.2 : Nat) : Int)), .sc (.bool true)]
def Ze : AV := .tup [.sc (.int .i64 0), .sc (.int .i64 0), .sc (.bool false)]
theorem Ag7 (s : ByteArray) (i : Nat) (h : i < s.size) (H : Ab) (k : AV → Option AV) : (Fa 1 (A3 s) (.sc (.int .i64 i)) fun t => Ct false 1 t H k) = k (.sc (.int .u8 (s.data.toList.getD i 0).toNat)) := by
 rw [Q8 1 _ _ i _ h (by rw [Ei]; omega)]
 have hl : i < s.data.toList.length := by simpa using h
 have hd : (Be s).drop (i * 1) = .sc (.int .u8 (s.data.toList.getD i 0).toNat) :: (Be s).drop (i + 1) := by
  rw [Nat.mul_one, zbc (by rw [Ei]; omega)]
  congr 1
  simp [Be, zbD, h]
 rw [hd, Oa]
section loop
variable (n : Nat) (k : AV → Ab → Option AV) (H : Ab) (s : ByteArray)
theorem Jq (m at' N v i : Nat) (least : Int) (hi : i ≤ N) (hb : at' + i < s.size) (hN : N ≤ 3) (hv : v < 100000000) (hs : s.size ≤ 1048576) :
  Ii (PR n AV) n k (m + 1) (A3 s) (si at') (si N) (si least) (si v) (si i) H =
   if (s.data.toList.getD (at' + i) 0).toNat / 64 = 2 then Ii (PR n AV) n k m (A3 s) (si at') (si N) (si least) (si ((v * 64 + (s.data.toList.getD (at' + i) 0).toNat % 64 : Nat) : Int)) (si ((i + 1 : Nat) : Int)) H else k Ze H := by
 obtain ⟨y, hy⟩ : ∃ y, (s.data.toList.getD (at' + i) 0).toNat = y := ⟨_, rfl⟩
 have hylt : y < 256 := by rw [← hy]; exact (s.data.toList.getD (at' + i) 0).toNat_lt
 have hba := Ag7 s (at' + i) hb H
 rw [hy] at hba ⊢
 rw [Ii]
 simp only [Bh, A2, Ca, Bm, D2, B6, Pr.gT, Pr.gF, Pr.hT, Pr.hF, Pr.kT, Pr.kF, Ce]
 rw [W7, Ea, if_pos (by simp; omega), Ri, ← Int.natCast_add, Gf _ (by omega) (by omega), hba]
 simp only [Xm, Yj, zab]
 rw [Gf _ (by omega) (by omega), Aa8]
 by_cases h1 : y < 128
 refine Da (by simp; omega) (Da (by simp; omega) (Q3 (by simp; omega) ?_))
 rw [if_neg (by omega)]
 rfl
 refine C4 (by simp; omega) (C4 (by simp; omega) ?_)
 rw [Aj4]
 refine Ts (by simp; omega) ?_
 by_cases h2 : y ≤ 191
 rw [Ea, if_neg (by simp; omega), if_pos (by omega), AjD, show (v : Int) * 64 = ((v * 64 : Nat) : Int) by omega, Gf _ (by omega) (by omega), Ri, ← Int.natCast_add, Gf _ (by omega) (by omega), To _ _ _ (by omega) (by omega), Fl _ _ (by omega)]
 congr 3
 omega
 rw [Ea, if_pos (by simp; omega), if_neg (by omega)]
 rfl
theorem Tc (n' : Nat) (hnn : n = n' + 1) (m at' N v least : Nat) (hN : N ≤ 3) (hv : v < 100000000) (ha : at' ≤ 1048576) :
  Ii (PR n AV) n k (m + 1) (A3 s) (si at') (si N) (si least) (si v) (si ((N + 1 : Nat) : Int)) H =
   if v ≥ least ∧ (v < 55296 ∨ (57344 ≤ v ∧ v ≤ 1114111)) then k (.tup [si v, si ((at' + (N + 1) : Nat) : Int), bT]) H else k Ze H := by
 subst hnn
 rw [Ii]
 simp only [Bh, A2, Ca, Bm, D2, B6, Pr.gT, Pr.gF, Pr.hT, Pr.hF, Pr.kT, Pr.kF, Ce]
 rw [W7, Ea, if_neg (by simp; omega), Aa8]
 by_cases h1 : v < least
 have e : decide ((v : Int) < (least : Int)) = true := by simp; omega
 refine Da e (Da e (Q3 e (Da rfl (Da rfl (Q3 rfl (Fn rfl ?_))))))
 rw [if_neg (by omega)]
 rfl
 have e : decide ((v : Int) < (least : Int)) = false := by simp; omega
 refine C4 e (C4 e (A4 (v := sb (decide ((v : Int) > 1114111))) (fun k => rfl) (Ts e ?_)))
 by_cases h2 : v > 1114111
 have e2 : decide ((v : Int) > 1114111) = true := by simp; omega
 refine Da e2 (Da e2 (Q3 e2 (Fn rfl ?_)))
 rw [if_neg (by omega)]
 rfl
 have e2 : decide ((v : Int) > 1114111) = false := by simp; omega
 refine C4 e2 (C4 e2 (D0 rfl (Bq (Dl _ _) (Bq (Dl _ _) (Bq (Dl _ _) D1))) (Oz n' _ v 55296 57343) (Ts e2 ?_)))
 by_cases h3 : 55296 ≤ v ∧ v ≤ 57343
 refine Fn (by simp [Ge]; omega) ?_
 rw [if_neg (by omega)]
 rfl
 refine Fy (by simp [Ge]; omega) ?_
 have e5 : ((at' : Int) + 1 + (N : Int)) = ((at' + (N + 1) : Nat) : Int) := by omega
 rw [if_pos (by omega), Ri, Gf _ (by omega) (by omega), Ri, Gf _ (by omega) (by omega), e5]
 rfl
end loop
theorem Ev (H : Ab) (a b c : Value) : Ba Ar E0.tp 129 H (.tup [.sc a, .sc b, .sc c]) = some (.tup [.sc a, .sc b, .sc c]) := rfl
set_option maxHeartbeats 1600000 in
theorem Agt (n : Nat) (hn : 1048576 < n) (s : ByteArray) (i : Nat) (hs : s.size ≤ 1048576) (hi : i < s.size) : Cs E0 (n + 2) 129 128 [A3 s, .sc (.int .i64 i)] = some (P9 (Lib.decodeL (s.data.toList.drop i)) i) := by
 have hg : ∀ j, (s.data.toList.drop i).getD j 0 = s.data.toList.getD (i + j) 0 := fun j => by simp [zbD, zaR]
 have hL : (s.data.toList.drop i).length = s.size - i := by simp
 have hg0 : (s.data.toList.drop i).getD 0 0 = s.data.toList.getD i 0 := hg 0
 rw [Lib.decodeL_N, hL, hg0, hg 1, hg 2, hg 3]
 obtain ⟨x, hx⟩ : ∃ x, (s.data.toList.getD i 0).toNat = x := ⟨_, rfl⟩
 have hxl : x < 256 := by rw [← hx]; exact (s.data.toList.getD i 0).toNat_lt
 obtain ⟨y1, hy1⟩ : ∃ x, (s.data.toList.getD (i + 1) 0).toNat = x := ⟨_, rfl⟩
 obtain ⟨y2, hy2⟩ : ∃ x, (s.data.toList.getD (i + 2) 0).toNat = x := ⟨_, rfl⟩
 obtain ⟨y3, hy3⟩ : ∃ x, (s.data.toList.getD (i + 3) 0).toNat = x := ⟨_, rfl⟩
 have b1 : y1 < 256 := by rw [← hy1]; exact (s.data.toList.getD (i + 1) 0).toNat_lt
 have b2 : y2 < 256 := by rw [← hy2]; exact (s.data.toList.getD (i + 2) 0).toNat_lt
 have b3 : y3 < 256 := by rw [← hy3]; exact (s.data.toList.getD (i + 3) 0).toNat_lt
 have hba := Ag7 s i hi []
 rw [hx] at hba
 rw [hx, hy1, hy2, hy3]
 have fails : Lib.decodeN (s.size - i) x y1 y2 y3 = (65533, 1) → some Ze = some (P9 (Lib.decodeN (s.size - i) x y1 y2 y3) i) := fun h => by rw [h]; rfl
 have goes : ∀ v w, Lib.decodeN (s.size - i) x y1 y2 y3 = (v, w) → (w = 1 → v < 128) → some (.tup [si v, si ((i + w : Nat) : Int), bT]) = some (P9 (Lib.decodeN (s.size - i) x y1 y2 y3) i) := fun v w h hw => by
  rw [h, P9, if_neg (by intro h; simp only at h; omega)]
 rw [Bb, Afv, f128]
 simp only [Bh, A2, Ca, Bm, D2, B6, Pr.gT, Pr.gF, Pr.hT, Pr.hF, Pr.kT, Pr.kF, Ce, B7]
 have e0 : decide ((i : Int) < 0) = false := by simp
 rw [Aa8]
 refine C4 e0 (C4 e0 (C4 e0 (Dq (C4 e0 (A4 (v := .sc (.bool (decide ((i : Int) ≥ (s.size : Int))))) (fun k => rfl) (Ts e0 (Fy (by simp; omega) ?_)))))))
 rw [hba]
 simp only [Xm, Yj, zab]
 rw [Gf _ (by omega) (by omega), Aa8]
 by_cases c1 : x < 128
 refine Fn (by simp; omega) ?_
 rw [Fl _ _ (by omega)]
 exact (Ev _ _ _ _).trans (goes x 1 (by rw [Lib.decodeN, if_pos c1]) (fun _ => c1))
 refine Fy (by simp; omega) ?_
 obtain ⟨q, rfl⟩ : ∃ q, n = q + 4 := ⟨n - 4, by omega⟩
 apply A8 (decide ((x : Int) ≥ 192) && decide ((x : Int) < 224))
 intro b hb
 refine A4 (v := sb (decide ((x : Int) ≥ 192))) (fun k => rfl) (Af (decide ((x : Int) ≥ 192)) (fun h => ?_) fun h => ?_)
 exact An h (An h (A4 (v := sb (decide ((x : Int) < 224))) (fun k => rfl) (Cc h (Hd hb h) rfl)))
 exact Ao h (Ao h (Cb h (Hb hb h) rfl))
 intro b0 hb0
 by_cases d0 : 192 ≤ x ∧ x < 224
 refine Fn (by rw [hb0]; simp; omega) (A4 (v := .sc (.int .i64 ((x % 32 : Nat) : Int))) (fun k => by show k (.sc (.int .i64 (bits .and .i64 (x : Int) 31))) = _; rw [AiC ⟨x, hxl⟩]) (Dq (A4 (v := .sc (.int .i64 ((s.size : Int) - 1))) (fun k => To _ _ _ (by omega) (by omega)) (A4 (v := .sc (.int .i64 ((s.size : Int) - 1 - 1))) (fun k => To _ _ _ (by omega) (by omega)) (A4 (v := .sc (.bool (decide ((i : Int) > (s.size : Int) - 1 - 1)))) (fun k => rfl) ?_)))))
 by_cases c3 : i + 1 < s.size
 ·refine Fy (by simp; omega) ?_
  have r1 := Jq (q + 4 + 1) (fun x H => Ba Ar E0.tp 129 H x) [] s (q + 4) i 1 (x % 32) 1 128 (by omega) (by omega) (by omega) (by omega) hs
  rw [hy1] at r1
  refine r1.trans ?_
  by_cases k1 : y1 / 64 = 2
  rotate_left
  rw [if_neg k1]
  exact (Ev _ _ _ _).trans (fails (by unfold Lib.decodeN; rw [if_neg c1, if_neg (by omega), if_neg (by omega), if_neg (by omega)]))
  rw [if_pos k1]
  refine (Tc (q + 4 + 1) (fun x H => Ba Ar E0.tp 129 H x) [] s (q + 4) rfl (q + 3) i 1 ((x % 32) * 64 + y1 % 64) 128 (by omega) (by omega) (by omega)).trans ?_
  have hv : (x % 32) * 64 + y1 % 64 = x % 32 * 64 + y1 % 64 := by omega
  rw [hv]
  split
  exact (Ev _ _ _ _).trans (goes _ 2 (by unfold Lib.decodeN; rw [if_neg c1, if_pos (by omega), if_pos (by omega)]) (by omega))
  exact (Ev _ _ _ _).trans (fails (by unfold Lib.decodeN; rw [if_neg c1, if_pos (by omega), if_neg (by omega)]))
 exact Fn (by simp; omega) ((Ev _ _ _ _).trans (fails (by unfold Lib.decodeN; rw [if_neg c1, if_neg (by omega), if_neg (by omega), if_neg (by omega)])))
 refine Fy (by rw [hb0]; simp; omega) ?_
 apply A8 (decide ((x : Int) ≥ 224) && decide ((x : Int) < 240))
 intro b hb
 refine A4 (v := sb (decide ((x : Int) ≥ 224))) (fun k => rfl) (Af (decide ((x : Int) ≥ 224)) (fun h => ?_) fun h => ?_)
 exact An h (An h (A4 (v := sb (decide ((x : Int) < 240))) (fun k => rfl) (Cc h (Hd hb h) rfl)))
 exact Ao h (Ao h (Cb h (Hb hb h) rfl))
 intro b1 hb1
 by_cases d1 : 224 ≤ x ∧ x < 240
 refine Fn (by rw [hb1]; simp; omega) (A4 (v := .sc (.int .i64 ((x % 16 : Nat) : Int))) (fun k => by show k (.sc (.int .i64 (bits .and .i64 (x : Int) 15))) = _; rw [AiB ⟨x, hxl⟩]) (Dq (A4 (v := .sc (.int .i64 ((s.size : Int) - 1))) (fun k => To _ _ _ (by omega) (by omega)) (A4 (v := .sc (.int .i64 ((s.size : Int) - 1 - 2))) (fun k => To _ _ _ (by omega) (by omega)) (A4 (v := .sc (.bool (decide ((i : Int) > (s.size : Int) - 1 - 2)))) (fun k => rfl) ?_)))))
 by_cases c3 : i + 2 < s.size
 ·refine Fy (by simp; omega) ?_
  have r1 := Jq (q + 4 + 1) (fun x H => Ba Ar E0.tp 129 H x) [] s (q + 4) i 2 (x % 16) 1 2048 (by omega) (by omega) (by omega) (by omega) hs
  rw [hy1] at r1
  refine r1.trans ?_
  by_cases k1 : y1 / 64 = 2
  rotate_left
  rw [if_neg k1]
  exact (Ev _ _ _ _).trans (fails (by unfold Lib.decodeN; rw [if_neg c1, if_neg (by omega), if_neg (by omega), if_neg (by omega)]))
  rw [if_pos k1]
  have r2 := Jq (q + 4 + 1) (fun x H => Ba Ar E0.tp 129 H x) [] s (q + 3) i 2 ((x % 16) * 64 + y1 % 64) 2 2048 (by omega) (by omega) (by omega) (by omega) hs
  rw [hy2] at r2
  refine r2.trans ?_
  by_cases k2 : y2 / 64 = 2
  rotate_left
  rw [if_neg k2]
  exact (Ev _ _ _ _).trans (fails (by unfold Lib.decodeN; rw [if_neg c1, if_neg (by omega), if_neg (by omega), if_neg (by omega)]))
  rw [if_pos k2]
  refine (Tc (q + 4 + 1) (fun x H => Ba Ar E0.tp 129 H x) [] s (q + 4) rfl (q + 2) i 2 (((x % 16) * 64 + y1 % 64) * 64 + y2 % 64) 2048 (by omega) (by omega) (by omega)).trans ?_
  have hv : ((x % 16) * 64 + y1 % 64) * 64 + y2 % 64 = x % 16 * 4096 + y1 % 64 * 64 + y2 % 64 := by omega
  rw [hv]
  split
  exact (Ev _ _ _ _).trans (goes _ 3 (by unfold Lib.decodeN; rw [if_neg c1, if_neg (by omega), if_pos (by omega), if_pos (by omega)]) (by omega))
  exact (Ev _ _ _ _).trans (fails (by unfold Lib.decodeN; rw [if_neg c1, if_neg (by omega), if_pos (by omega), if_neg (by omega)]))
 exact Fn (by simp; omega) ((Ev _ _ _ _).trans (fails (by unfold Lib.decodeN; rw [if_neg c1, if_neg (by omega), if_neg (by omega), if_neg (by omega)])))
 refine Fy (by rw [hb1]; simp; omega) ?_
 apply A8 (decide ((x : Int) ≥ 240) && decide ((x : Int) < 248))
 intro b hb
 refine A4 (v := sb (decide ((x : Int) ≥ 240))) (fun k => rfl) (Af (decide ((x : Int) ≥ 240)) (fun h => ?_) fun h => ?_)
 exact An h (An h (A4 (v := sb (decide ((x : Int) < 248))) (fun k => rfl) (Cc h (Hd hb h) rfl)))
 exact Ao h (Ao h (Cb h (Hb hb h) rfl))
 intro b2 hb2
 by_cases d2 : 240 ≤ x ∧ x < 248
 refine Fn (by rw [hb2]; simp; omega) (A4 (v := .sc (.int .i64 ((x % 8 : Nat) : Int))) (fun k => by show k (.sc (.int .i64 (bits .and .i64 (x : Int) 7))) = _; rw [AiD ⟨x, hxl⟩]) (Dq (A4 (v := .sc (.int .i64 ((s.size : Int) - 1))) (fun k => To _ _ _ (by omega) (by omega)) (A4 (v := .sc (.int .i64 ((s.size : Int) - 1 - 3))) (fun k => To _ _ _ (by omega) (by omega)) (A4 (v := .sc (.bool (decide ((i : Int) > (s.size : Int) - 1 - 3)))) (fun k => rfl) ?_)))))
 by_cases c3 : i + 3 < s.size
 ·refine Fy (by simp; omega) ?_
  have r1 := Jq (q + 4 + 1) (fun x H => Ba Ar E0.tp 129 H x) [] s (q + 4) i 3 (x % 8) 1 65536 (by omega) (by omega) (by omega) (by omega) hs
  rw [hy1] at r1
  refine r1.trans ?_
  by_cases k1 : y1 / 64 = 2
  rotate_left
  rw [if_neg k1]
  exact (Ev _ _ _ _).trans (fails (by unfold Lib.decodeN; rw [if_neg c1, if_neg (by omega), if_neg (by omega), if_neg (by omega)]))
  rw [if_pos k1]
  have r2 := Jq (q + 4 + 1) (fun x H => Ba Ar E0.tp 129 H x) [] s (q + 3) i 3 ((x % 8) * 64 + y1 % 64) 2 65536 (by omega) (by omega) (by omega) (by omega) hs
  rw [hy2] at r2
  refine r2.trans ?_
  by_cases k2 : y2 / 64 = 2
  rotate_left
  rw [if_neg k2]
  exact (Ev _ _ _ _).trans (fails (by unfold Lib.decodeN; rw [if_neg c1, if_neg (by omega), if_neg (by omega), if_neg (by omega)]))
  rw [if_pos k2]
  have r3 := Jq (q + 4 + 1) (fun x H => Ba Ar E0.tp 129 H x) [] s (q + 2) i 3 (((x % 8) * 64 + y1 % 64) * 64 + y2 % 64) 3 65536 (by omega) (by omega) (by omega) (by omega) hs
  rw [hy3] at r3
  refine r3.trans ?_
  by_cases k3 : y3 / 64 = 2
  rotate_left
  rw [if_neg k3]
  exact (Ev _ _ _ _).trans (fails (by unfold Lib.decodeN; rw [if_neg c1, if_neg (by omega), if_neg (by omega), if_neg (by omega)]))
  rw [if_pos k3]
  refine (Tc (q + 4 + 1) (fun x H => Ba Ar E0.tp 129 H x) [] s (q + 4) rfl (q + 1) i 3 ((((x % 8) * 64 + y1 % 64) * 64 + y2 % 64) * 64 + y3 % 64) 65536 (by omega) (by omega) (by omega)).trans ?_
  have hv : (((x % 8) * 64 + y1 % 64) * 64 + y2 % 64) * 64 + y3 % 64 = x % 8 * 262144 + y1 % 64 * 4096 + y2 % 64 * 64 + y3 % 64 := by omega
  rw [hv]
  split
  exact (Ev _ _ _ _).trans (goes _ 4 (by unfold Lib.decodeN; rw [if_neg c1, if_neg (by omega), if_neg (by omega), if_pos (by omega), if_pos (by omega)]) (by omega))
  exact (Ev _ _ _ _).trans (fails (by unfold Lib.decodeN; rw [if_neg c1, if_neg (by omega), if_neg (by omega), if_pos (by omega), if_neg (by omega)]))
 exact Fn (by simp; omega) ((Ev _ _ _ _).trans (fails (by unfold Lib.decodeN; rw [if_neg c1, if_neg (by omega), if_neg (by omega), if_neg (by omega)])))
 exact Fy (by rw [hb2]; simp; omega) ((Ev _ _ _ _).trans (fails (by unfold Lib.decodeN; rw [if_neg c1, if_neg (by omega), if_neg (by omega), if_neg (by omega)])))
theorem Uh (N ty : Nat) (a b c : Value) : Bn Ar E0.tp N ty (.tup [.sc a, .sc b, .sc c]) = (.tup [.sc a, .sc b, .sc c], []) := rfl
theorem Acs (s : ByteArray) : Vw [⟨Be s, true, false⟩] (.sl 0 0 s.size 1) (A3 s) := fun X => by
 have e2 : Ax ([⟨Be s, true, false⟩] ++ X) 0 0 (s.size * 1) = some (Be s) := by
  have hl := Ei s
  show (if (0 + s.size * 1 ≤ (Be s).length) then some (((Be s).drop 0).take (s.size * 1)) else none) = _
  rw [if_pos (by omega), zaA, Nat.mul_one, ← hl, za0]
 rw [Ph, e2, zab]
 have e3 : (Be s).mapM (Dg ([⟨Be s, true, false⟩] ++ X) 7) = some (Be s) := by
  rw [J3]
  exact AaA _
 rw [e3]
 rfl
theorem Kf {vs : List AV} {i : Nat} {x : AV} {K : AV → Option AV} {r : Option AV} (hx : vs[i]? = some x) (h : K x = r) : O7 (.tup vs) i (fun t => K t) = r := by
 show (vs[i]?).bind _ = r
 rw [hx]
 exact h
theorem Rp (n : Nat) (hn : 1048576 < n) (k : AV → Ab → Option AV) (s : ByteArray) (hs : s.size ≤ 60) : ∀ (b m pos c : Nat), s.size ≤ pos + b → pos ≤ s.size → c ≤ pos → b < m →
  ∃ r : Int, M5 (PR (n + 2) AV) (n + 2) k m (.sl 0 0 s.size 1) (si c) (si pos) [⟨Be s, true, false⟩] = k (si r) [⟨Be s, true, false⟩] ∧ (M1 b (s.data.toList.drop pos) = true → 0 ≤ r) ∧ (M1 b (s.data.toList.drop pos) = false → r = -1)
 | b, m + 1, pos, c, hb, hp, hc, hm => by
  rw [M5]
  simp only [B7, Bh, A2, Kh, Fo, B6, Pr.gT, Pr.gF, Pr.hT, Pr.hF, Pr.kT, Pr.kF, Ce]
  have hlen : ∀ k : AV → Option AV, O8 (.sl 0 0 s.size 1) k = k (si s.size) := fun _ => rfl
  rw [hlen, Ep, Ea]
  by_cases hlt : pos < s.size
  rw [if_pos (by simpa using hlt)]
  obtain ⟨b, rfl⟩ : ∃ b', b = b' + 1 := ⟨b - 1, by omega⟩
  have hne : s.data.toList.drop pos ≠ [] := by
   intro h
   have := congrArg List.length h
   simp at this
   omega
  have hw := Lib.decodeL_width (s.data.toList.drop pos)
  have hle := Lib.decodeL_le (s.data.toList.drop pos) hne
  have hll : (s.data.toList.drop pos).length = s.size - pos := by simp
  rw [hll] at hle
  rw [M1, if_neg hne]
  generalize hd : Lib.decodeL (s.data.toList.drop pos) = d at hw hle ⊢
  have ht := Agt n hn s pos (by omega) hlt
  rw [hd] at ht
  rw [F5 (vs := [A3 s, .sc (.int .i64 pos)]) rfl (Bq (Acs s) (Bq (Dl _ _) D1)) ht]
  by_cases hf : d.1 = 65533 ∧ d.2 = 1
  rw [P9, if_pos hf, Uh, zan, if_pos hf]
  refine ⟨-1, ?_, (fun h => by cases h), (fun _ => rfl)⟩
  refine Kf rfl (Kf rfl (Kf rfl (Hq (Da rfl (Da rfl (Q3 rfl (Fn rfl ?_)))))))
  rfl
  rw [P9, if_neg hf, Uh, zan, if_neg hf]
  by_cases hz : d.1 = 0
  rw [if_pos hz]
  refine ⟨-1, ?_, (fun h => by cases h), (fun _ => rfl)⟩
  refine Kf rfl (Kf rfl (Kf rfl (Hq (C4 rfl (C4 rfl (A4 (v := .sc (.bool ((d.1 : Int) == 0))) (fun k => rfl) (Ts rfl (Fn (by simp [hz]) ?_))))))))
  rfl
  rw [if_neg hz, zaV]
  obtain ⟨r, h1, h2, h3⟩ := Rp n hn k s hs b m (pos + d.2) (c + 1) (by omega) (by omega) (by omega) (by omega)
  refine ⟨r, ?_, h2, h3⟩
  refine Kf rfl (Kf rfl (Kf rfl (Hq (C4 rfl (C4 rfl (A4 (v := .sc (.bool ((d.1 : Int) == 0))) (fun k => rfl) (Ts rfl (Fy (by simp; omega) ?_))))))))
  rw [Fl _ _ (by omega)]
  exact h1
  rw [if_neg (by simpa using hlt)]
  have hnil : s.data.toList.drop pos = [] := by
   apply zbe
   simp
   omega
  refine ⟨c, rfl, fun _ => by omega, fun h => ?_⟩
  rw [hnil] at h
  cases b <;> simp [M1] at h
theorem Ahl (n : Nat) (hn : 1048576 < n) (ty : Nat) (s : ByteArray) : ∃ r : Int, Cs E0 (n + 3) ty 111 [.sc (.string s)] = some (.sc (.int .i64 r)) ∧ (F7 s = true → 0 ≤ r) ∧ (F7 s = false → r = -1) := by
 rw [Bb, Afl, f111]
 simp only [Dj, Bh, A2, Aab]
 unfold F7
 by_cases h : s.size ≤ 60
 obtain ⟨r, h1, h2, h3⟩ := Rp n hn (fun x H => Ba Ar E0.tp ty H x) s h s.size (n + 2) 0 0 (by omega) (by omega) (by omega) (by omega)
 refine ⟨r, ?_, ?_, ?_⟩
 refine AeQ (A4 (v := .sc (.bool (decide ((s.size : Int) > 60)))) (fun k => rfl) (Fy (by simp; omega) ?_))
 simp only [Uw, asS, zab]
 rw [if_pos (by omega)]
 exact h1
 intro hv
 refine h2 ?_
 simpa [h] using hv
 intro hv
 refine h3 ?_
 simpa [h] using hv
 refine ⟨-1, ?_, (fun hv => by simp [h] at hv), (fun _ => rfl)⟩
 refine AeQ (A4 (v := .sc (.bool (decide ((s.size : Int) > 60)))) (fun k => rfl) (Fn (by simp; omega) ?_))
 rfl
theorem Acg (n : Nat) (hn : 1048576 < n) (ty : Nat) (s : ByteArray) : Cs E0 (n + 4) ty 82 [.sc (.string s)] = some (.sc (.bool (F7 s))) := by
 rw [Bb, AhR, f82]
 simp only [Bh]
 obtain ⟨r, h1, h2, h3⟩ := Ahl n hn 3 s
 refine D0 rfl (Bq (Dl _ _) D1) h1 (A4 (v := sb (decide (r ≥ 0))) (fun k => rfl) (E8 ?_))
 cases hv : F7 s
 rw [h3 hv]
 rfl
 simpa using h2 hv
theorem Ae2 {β : Type} {n : Nat} {H : Ab} {r : Option β} {ty f : Nat} {g : Nat → List AV → Option AV} {args vs : List AV} {v : Value} {K : KO β} (hg : E0.ext f = some g) (hv : args.mapM (Dg H 8) = some vs) (ht : g ty vs = some (.sc v)) (h : K (.sc v) H = r) : (PR n β).call ty (.fn f [] []) args H (fun x H => K x H) = r := by
 rw [Acq hg hv ht, Hm, zan]
 exact h
theorem AbQ (ty : Nat) (s : ByteArray) (hs : Ll s) : Aal ty [.sc (.string s)] = some (.sc (.bool (F7 s))) := by
 have hm : maxLen = 9223372036854775807 := by decide
 show (if s.size ≤ maxLen then _ else _) = _
 rw [hm, if_pos (show s.size ≤ 9223372036854775807 from hs)]
end
section
open Go
def En (s : ByteArray) : Bool := F7 s && !(s.toList == (⟨#[]⟩ : ByteArray).toList) && !(Pg s 43) && !(Pg s 35) && decide (((Ek s).length : Int) ≤ 6)
section
variable {β : Type} {n : Nat} {H : Ab} {r : Option β}
theorem Aa9 {ty f len : Nat} {args vs cells : List AV} {K : KO β} (hh : Gc f = false) (hv : args.mapM (Dg H 8) = some vs) (ht : Cs E0 n ty f vs = some (.ro len cells)) (h : ∀ N X sz, K (.sl N 0 len sz) (H ++ X) = r) : (PR n β).call ty (.fn f [] []) args H (fun x H => K x H) = r := by
 rw [F5 hh hv ht]
 exact h _ _ _
theorem AeO {b b' : Bool} (h : b = b') : some (AV.sc (.bool b)) = some (AV.sc (.bool b')) := by rw [h]
theorem Kr {α : Type} {w : Nat} {enc : α → List AV} {l pre t : List α} {x : α} {K : AV → Option β} (hw : ∀ x, (enc x).length = w) (h0 : 0 < w) (hl : l = pre ++ x :: t) (h : K (.rp (enc x ++ (t.map enc).flatten)) = r) : Fa w (Ai enc l) (.sc (.int .i64 (pre.length : Int))) (fun t => K t) = r := by
 subst hl
 exact (Nr (β := β) hw h0 pre x t (fun t => K t)).trans h
theorem AeP {id off m w : Nat} {K : AV → Option β} (h : K (.sc (.int .i64 m)) = r) : O8 (.sl id off m w) (fun t => K t) = r := h
end
section has
variable (n : Nat) (k : AV → Ab → Option AV) (H : Ab)
theorem Ww (s : ByteArray) (b : UInt8) (hs : s.size ≤ 1048576) : ∀ (r pre : List UInt8) (m : Nat), s.data.toList = pre ++ r → r.length < m →
  Lw (PR n AV) n k m (ss s) (su b.toNat) (si pre.length) H = k (sb (r.any fun c => c == b)) H
 | [], pre, m + 1, hl, hm => by
  have h1 : s.size = pre.length := by
   have := congrArg List.length hl
   simpa using this
  rw [Lw]
  simp only [Dj, Bh, A2]
  rw [Sq, Ep, h1, Ea, if_neg (by simp)]
  rfl
 | c :: r, pre, m + 1, hl, hm => by
  have h1 : s.size = pre.length + r.length + 1 := by
   have := congrArg List.length hl
   simpa [zaS] using this
  rw [Lw]
  simp only [Dj, Bh, A2, Et]
  rw [Sq, Ep, Ea, if_pos (by simp; omega), AgO s pre.length c _ (by rw [hl]; simp)]
  have he : ∀ K : AV → Option AV, Ey .eql (su (c.toNat : Int)) (su (b.toNat : Int)) K = K (sb (c == b)) := by
   intro K
   show K (.sc (.bool ((c.toNat : Int) == (b.toNat : Int)))) = _
   congr 3
   rw [zbi, beq_iff_eq, beq_iff_eq, Int.ofNat_inj, UInt8.toNat_inj]
  rw [he, Ea, zbg]
  cases hcb : (c == b)
  rw [if_neg (by simp), Fl _ _ (by omega)]
  have ih := Ww s b hs r (pre ++ [c]) m (by rw [hl]; simp) (by simpa using hm)
  rw [zag, zao] at ih
  rw [ih]
  rfl
  rw [if_pos rfl]
  rfl
end has
theorem Aj7 (n : Nat) (hn : 1048576 < n) (ty : Nat) (s : ByteArray) (b : UInt8) (hs : s.size ≤ 1048576) : Cs E0 (n + 1) ty 114 [.sc (.string s), .sc (.int .u8 b.toNat)] = some (.sc (.bool (Pg s b))) := by
 rw [Bb, Afo, f114]
 have key := Ww n (fun x H => Ba Ar E0.tp ty H x) [] s b hs s.data.toList [] n rfl (by simp; omega)
 simp only [zay, zaY] at key
 rw [key]
 rfl
theorem Aj6 (n : Nat) (hn : 1048576 < n) (ty : Nat) (s : ByteArray) (hs : s.size ≤ 1048576) : Cs E0 (n + 1) ty 114 [.sc (.string s), .sc (.int .u8 43)] = some (.sc (.bool (Pg s 43))) := Aj7 n hn ty s 43 hs
theorem Aj5 (n : Nat) (hn : 1048576 < n) (ty : Nat) (s : ByteArray) (hs : s.size ≤ 1048576) : Cs E0 (n + 1) ty 114 [.sc (.string s), .sc (.int .u8 35)] = some (.sc (.bool (Pg s 35))) := Aj7 n hn ty s 35 hs
theorem Ag1 : ∃ i j, Ar 38 = some i ∧ Ar i.elem = some j ∧ j.size = 1 ∧ j.cty = [i.elem] := ⟨_, _, rfl, rfl, rfl, rfl⟩
def Ag0 (l : List UInt8) : AV := .sc (.string (ofL l))
theorem Xb (s : ByteArray) (P cur r : List UInt8) (h : s.data.toList = P ++ (cur ++ r)) : s.extract P.length (P.length + cur.length) = ofL cur := by
 have : (s.extract P.length (P.length + cur.length)).data.toList = cur := by
  rw [ByteArray.data_extract, Array.toList_extract, List.extract, h]
  rw [zbo (zak _), List.drop_length, zah, zbr, zb2 (zak _), za0]
 rw [← Xa (s.extract _ _), this]
theorem Uk {H : Ab} {x : AV} {cnt : Nat} {cells : List AV} {K : AV → Ab → Option AV} {r : Option AV} (s : ByteArray) (P cur rest : List UInt8) (hl : s.data.toList = P ++ (cur ++ rest)) (hs : s.size ≤ 1048576) (hx : OwnS 7 H 1 [9] x cnt cells) (hc : cnt ≤ 1048577)
  (h : ∀ x' H', OwnS 7 H' 1 [9] x' (cnt + 1) (cells ++ [Ag0 cur]) → K x' H' = r) :
  (Nd (ss s) (some (si P.length)) (some (si ((P.length + cur.length : Nat) : Int))) fun t27 => (Fe [sE] [(0, 1, t27)]).bind fun ct28 => Fg 1 1 ct28 true H fun t28 H => Ic 1 16 x t28 H K) = r := by
 have hsz : P.length + cur.length ≤ s.size := by
  have := congrArg List.length hl
  simp at this
  omega
 simp only [Nd, asS, Jz, Yj, zab]
 rw [if_pos (by omega)]
 simp only [zbm]
 rw [Xb s P cur rest hl]
 have hf : Fe [sE] [(0, 1, ss (ofL cur))] = some [ss (ofL cur)] := rfl
 rw [hf, zab]
 have key := Aaf (H := H) (X := []) (bytes := 16) (er := [ss (ofL cur)]) (ec := [Ag0 cur]) (eids := []) (K := K) (r := r) hx rfl rfl rfl zb3 (fun i hi => by cases hi) (by omega) h
 rw [zan] at key
 exact key
theorem Sr (n : Nat) (s : ByteArray) (hs : s.size ≤ 1048576) : ∀ (r P cur : List UInt8) (m : Nat) (x : AV) (H : Ab) (cnt : Nat) (cells : List AV), s.data.toList = P ++ (cur ++ r) → r.length + 1 < m → OwnS 7 H 1 [9] x cnt cells → cnt ≤ P.length →
  Jj (PR n AV) n (fun x H => Ba Ar E0.tp 38 H x) m (ss s) x (si P.length) (si ((P.length + cur.length : Nat) : Int)) H = some (.ro (cnt + (lvL cur r).length) (cells ++ (lvL cur r).map Ag0))
 | [], P, cur, m + 2, x, H, cnt, cells, hl, hm, hx, hc => by
  have h1 : s.size = P.length + cur.length := by
   have := congrArg List.length hl
   simpa using this
  rw [Jj]
  simp only [Dj, Bh, A2, B6, Pr.gT, Pr.gF, Pr.hT, Pr.hF, Pr.kT, Pr.kF, Ce, Cx, Bx, Bv, C6, Et]
  rw [Sq, W7, Ea, if_pos (by simp; omega), Sq, Ac8]
  have he : (((P.length + cur.length : Nat) : Int) == (s.size : Int)) = true := by simp; omega
  refine Da he (Da he (Da he (Da he (Q3 he (Fn rfl (Uk s P cur [] hl hs hx (by omega) fun x' H' hx' => ?_))))))
  rw [Fl _ _ (by omega), Fl _ _ (by omega)]
  rw [Jj]
  simp only [Dj, Bh, A2]
  rw [Sq, W7, Ea, if_neg (by simp; omega)]
  obtain ⟨i, j, e1, e2, e3, e4⟩ := Ag1
  obtain ⟨ids, ho, hno⟩ := Rb (d := 7) (tyS := 38) (w := 1) (cty := [9]) ⟨_, _, rfl, rfl, rfl, rfl⟩ hx'
  rw [Ba, ho, zab, if_pos hno]
  rfl
 | c :: r, P, cur, m + 1, x, H, cnt, cells, hl, hm, hx, hc => by
  have h1 : s.size = P.length + cur.length + r.length + 1 := by
   have := congrArg List.length hl
   simp at this
   omega
  have hidx : s.data.toList[P.length + cur.length]? = some c := by
   rw [hl, ← zaj, ← zag, zae (zak _), zaO]
   rfl
  rw [Jj]
  simp only [Dj, Bh, A2, B6, Pr.gT, Pr.gF, Pr.hT, Pr.hF, Pr.kT, Pr.kF, Ce, Cx, Bx, Bv, C6, Et]
  rw [Sq, W7, Ea, if_pos (by simp; omega), Sq, Ac8]
  have he : (((P.length + cur.length : Nat) : Int) == (s.size : Int)) = false := by simp; omega
  refine C4 he (C4 he (C4 he ?_))
  rw [AgO s (P.length + cur.length) c _ hidx]
  refine C4 he (A4 (v := sb (c == 47)) (fun K => ?_) ?_)
  show K (.sc (.bool ((c.toNat : Int) == (47 : Int)))) = _
  congr 3
  rw [zbi, beq_iff_eq, beq_iff_eq, show (47 : Int) = (((47 : UInt8).toNat : Nat) : Int) from rfl, Int.ofNat_inj, UInt8.toNat_inj]
  refine Ts he ?_
  rw [lvL]
  by_cases h47 : c = 47
  refine Fn (by simp [h47]) (Uk s P cur (c :: r) hl hs hx (by omega) fun x' H' hx' => ?_)
  rw [Fl _ _ (by omega), Fl _ _ (by omega), if_pos h47]
  have ih := Sr n s hs r (P ++ cur ++ [c]) [] m x' H' (cnt + 1) (cells ++ [Ag0 cur]) (by rw [hl]; simp) (by simpa using hm) hx' (by simp; omega)
  simp only [zag, zay, zao, zbd] at ih
  rw [ih]
  simp [zaS, zbK]
  refine Fy (by simpa using h47) ?_
  rw [Fl _ _ (by omega), if_neg h47]
  have ih := Sr n s hs r P (cur ++ [c]) m x H cnt cells (by rw [hl]; simp) (by simpa using hm) hx hc
  rw [zag, zao, ← zaS] at ih
  exact ih
theorem Xw (n : Nat) (hn : 1048577 < n) (s : ByteArray) (hs : s.size ≤ 1048576) : Cs E0 (n + 1) 38 115 [.sc (.string s)] = some (.ro (Ek s).length ((Ek s).map fun x => .sc (.string x))) := by
 rw [Bb, Afp, f115]
 have key := Sr n s hs s.data.toList [] [] n .nl [] 0 [] rfl (by simp; omega) (OwnS.nil _ _ _ _) (by simp)
 simp only [zay, zaY, zaw, zah] at key
 rw [key, Ek, zbC, List.map_map]
 rfl
theorem Wx (n : Nat) (s : ByteArray) (hs : s.size ≤ 1048576) : Cs E0 (n + 1) 38 95 [.sc (.string s)] = some (.ro (Ek s).length ((Ek s).map fun x => .sc (.string x))) := by
 rw [Bb, AhZ, f95]
 have hg : Ps 38 [ss s, .sc (.string ⟨#[47]⟩)] = some (.ro (Ek s).length ((Ek s).map fun x => ss x)) := by
  unfold Ps
  exact if_pos ⟨rfl, rfl, by omega⟩
 rw [Acq (g := Ps) rfl (Bq (Dl _ _) (Bq (Dl _ _) D1)) hg]
 refine Agm [] _ _ ?_
 refine ⟨_, _, rfl, rfl, by simp, ?_⟩
 have := Na (f := Gr Ar E0.tp 7) (cty := [9]) (enc := fun x : ByteArray => [ss x]) (Ek s) (fun x _ => ⟨trivial, trivial⟩)
 rw [Oo] at this
 exact this
theorem Abc (ty : Nat) (s : ByteArray) (hs : s.size ≤ 1048576) : Wo ty [.sc (.string s), .sc (.string ⟨#[43, 35]⟩)] = some (.sc (.bool (vPH s))) := by
 unfold Wo
 exact if_pos ⟨rfl, by omega⟩
end
end Go.Proofs.YtdofipeaomgbbaaGreatDoor.Abs
