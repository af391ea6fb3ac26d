/- What the proof needs, part 3: a sound evaluator over trees, the program's functions on it, and what they come to. -/
import Derived.Test.YtdofipeaomgbbaaGreatDoorMpb
import Derived.Test.YtdofipeaomgbbaaGreatDoorChecked
import Derived.WalkKit
import Derived.WalkMore
import Derived.Below
import Derived.Shelf.Unicode.ValidAny
import Derived.Shelf.Strings.Split
import Derived.Shelf.Vars
import Derived.Lib.TrimUEq
import Derived.Lib.ValidLaws
import Derived.Laws.RangeAny
import Derived.LoopTactic
import Derived.Laws.BitsLemmas
import Derived.Lib.MapLaws
set_option linter.unusedVariables false
set_option linter.unusedSimpArgs false
namespace Go.Proofs
open _root_.Option renaming bind_eq_some_iff → zaa, bind_some → zab, getD_some → za5, map_eq_some_iff → zaN, bind_eq_bind → zaS, pure_def → zbg
open _root_.List renaming getElem?_eq_some_iff → zac, replicate → zad, length_append → zae, getElem?_append_right → zaf, getElem?_append_left → zag, nil_append → zah, append_assoc → zaj, length_singleton → zal, append_nil → zam, length_cons → zao, eq_nil_of_length_eq_zero → zap, mem_append_right → zaq, length_nil → zar, getElem?_eq_getElem → zas, mem_append_left → zat, cons_append → zau, mem_cons → zav, mem_cons_of_mem → zax, not_mem_nil → zay, map_cons → za0, flatten_append → za1, take_length → za3, getElem?_set_ne → za4, drop_zero → za6, mem_cons_self → za7, mem_append → za9, map_append → zaA, replicate_append_replicate → zaB, flatten_cons → zaD, all_eq_true → zaE, length_drop → zaF, nodup_cons → zaH, nodup_append → zaJ, mem_range'_1 → zaK, length_take → zaL, nodup_range' → zaP, take_append_drop → zaR, all_cons → zaT, mapM_cons → zaU, range' → zaW, drop_of_length_le → zaX, getElem?_set_self → zaY, drop_drop → zbb, getElem?_map → zbc, length_set → zbh, take_of_length_le → zbi, drop_eq_getElem_cons → zbj, getElem?_drop → zbk, mem_singleton → zbm, drop_append_of_le_length → zbn, getElem?_cons_zero → zbo, any_cons → zbt, length_map → zbz, map_nil → zb0, Perm → zb1, take_append_of_le_length → zb2, nodup_nil → zb3, length_eq_one_iff → zb5, headD_cons → zb9, drop_left' → zbA, getD_eq_getElem?_getD → zbB, tail_cons → zbC, mem_map → zbE, take_zero → zbF, map_map → zbH
open _root_.Nat renaming le_refl → zai, zero_add → zaw, sub_self → zaI, add_assoc → zaO, min_eq_left → zaQ, add_mul → zaV, add_zero → zaZ, eq_of_beq_eq_true → zba, mul_le_mul_right → zbd, add_sub_cancel_left → zbq, one_mul → zbv, beq → zb4, add_comm → zbD, succ_mul → zbG
open _root_.Bool renaming and_eq_true → zak, false_eq_true → zan, eq_iff_iff → zaM
open _root_.Array renaming ext' → zbl, replicate → zbx
open _root_.Int renaming natCast_zero → zbe, toNat_natCast → zbf
open Go.RowKit Go.Shelf Go.Lib
def Tryz.laysValid_ren : Go.Shelf.Ren := ⟨fun | 196 => 116 | 259 => 132 | n => n, fun | 9 => 9 | 4 => 4 | 3 => 3 | 5 => 5 | 12 => 12 | 119 => 132 | 0 => 0 | 46 => 127 | 139 => 135 | 138 => 134 | 53 => 144 | n => n, fun | 3 => 0 | 4 => 1 | n => n⟩
theorem Tryz.laysValid : Go.Proofs.Lays.n196 Tryz.prog Tryz.laysValid_ren := {
 mixed := by kernel_rfl
 f196 := Tryz.func116.trans (congrArg some (by kernel_rfl))
 f259 := Tryz.func132.trans (congrArg some (by kernel_rfl))
 t0 := Tryz.underlying0
 a0 := Tryz.isAgg0
 z0 := Tryz.sizeOf0
 v0 := Tryz.zeroValue0
 t3 := Tryz.underlying3
 a3 := Tryz.isAgg3
 z3 := Tryz.sizeOf3
 v3 := Tryz.zeroValue3
 t4 := Tryz.underlying4
 a4 := Tryz.isAgg4
 z4 := Tryz.sizeOf4
 v4 := Tryz.zeroValue4
 t5 := Tryz.underlying5
 a5 := Tryz.isAgg5
 z5 := Tryz.sizeOf5
 v5 := Tryz.zeroValue5
 t9 := Tryz.underlying9
 a9 := Tryz.isAgg9
 z9 := Tryz.sizeOf9
 v9 := Tryz.zeroValue9
 t12 := Tryz.underlying12
 a12 := Tryz.isAgg12
 z12 := Tryz.sizeOf12
 v12 := Tryz.zeroValue12
 t46 := Tryz.underlying127
 a46 := Tryz.isAgg127
 z46 := Tryz.sizeOf127
 v46 := Tryz.zeroValue127
 t53 := Tryz.underlying144
 a53 := Tryz.isAgg144
 z53 := Tryz.sizeOf144
 v53 := Tryz.zeroValue144
 t119 := Tryz.underlying132
 a119 := Tryz.isAgg132
 z119 := Tryz.sizeOf132
 t138 := Tryz.underlying134
 a138 := Tryz.isAgg134
 z138 := Tryz.sizeOf134
 v138 := Tryz.zeroValue134
 t139 := Tryz.underlying135
 a139 := Tryz.isAgg135
 z139 := Tryz.sizeOf135
 v139 := Tryz.zeroValue135
 g3 := by kernel_rfl
 g4 := by kernel_rfl }
def Tryz.laysAny_ren : Go.Shelf.Ren := ⟨fun | 150 => 94 | 153 => 117 | 152 => 133 | 226 => 134 | 227 => 135 | 228 => 136 | 137 => 140 | 119 => 141 | 224 => 142 | 225 => 143 | 217 => 147 | 266 => 152 | n => n, fun | 9 => 9 | 4 => 4 | 3 => 3 | 5 => 5 | 21 => 21 | 117 => 139 | 116 => 138 | 0 => 0 | 46 => 127 | 124 => 148 | n => n, fun | n => n⟩
theorem Tryz.laysAny : Go.Proofs.Lays.n150 Tryz.prog Tryz.laysAny_ren := {
 mixed := by kernel_rfl
 f119 := Tryz.func141.trans (congrArg some (by kernel_rfl))
 f137 := Tryz.func140.trans (congrArg some (by kernel_rfl))
 f150 := Tryz.func94.trans (congrArg some (by kernel_rfl))
 f152 := Tryz.func133.trans (congrArg some (by kernel_rfl))
 f153 := Tryz.func117.trans (congrArg some (by kernel_rfl))
 f217 := Tryz.func147.trans (congrArg some (by kernel_rfl))
 f224 := Tryz.func142.trans (congrArg some (by kernel_rfl))
 f225 := Tryz.func143.trans (congrArg some (by kernel_rfl))
 f226 := Tryz.func134.trans (congrArg some (by kernel_rfl))
 f227 := Tryz.func135.trans (congrArg some (by kernel_rfl))
 f228 := Tryz.func136.trans (congrArg some (by kernel_rfl))
 f266 := Tryz.func152.trans (congrArg some (by kernel_rfl))
 t0 := Tryz.underlying0
 a0 := Tryz.isAgg0
 z0 := Tryz.sizeOf0
 v0 := Tryz.zeroValue0
 t3 := Tryz.underlying3
 a3 := Tryz.isAgg3
 z3 := Tryz.sizeOf3
 v3 := Tryz.zeroValue3
 t4 := Tryz.underlying4
 a4 := Tryz.isAgg4
 z4 := Tryz.sizeOf4
 v4 := Tryz.zeroValue4
 t5 := Tryz.underlying5
 a5 := Tryz.isAgg5
 z5 := Tryz.sizeOf5
 v5 := Tryz.zeroValue5
 t9 := Tryz.underlying9
 a9 := Tryz.isAgg9
 z9 := Tryz.sizeOf9
 v9 := Tryz.zeroValue9
 t21 := Tryz.underlying21
 a21 := Tryz.isAgg21
 z21 := Tryz.sizeOf21
 v21 := Tryz.zeroValue21
 t46 := Tryz.underlying127
 a46 := Tryz.isAgg127
 z46 := Tryz.sizeOf127
 v46 := Tryz.zeroValue127
 t116 := Tryz.underlying138
 a116 := Tryz.isAgg138
 z116 := Tryz.sizeOf138
 t117 := Tryz.underlying139
 a117 := Tryz.isAgg139
 z117 := Tryz.sizeOf139
 v117 := Tryz.zeroValue139
 t124 := Tryz.underlying148
 a124 := Tryz.isAgg148
 z124 := Tryz.sizeOf148
 v124 := Tryz.zeroValue148 }
def Tryz.laysSplit_ren : Go.Shelf.Ren := ⟨fun | 146 => 118 | 221 => 137 | 268 => 144 | 138 => 145 | 143 => 146 | 195 => 148 | 197 => 149 | 218 => 150 | 219 => 151 | 260 => 153 | 217 => 147 | 225 => 143 | 224 => 142 | 267 => 154 | 266 => 152 | 314 => 155 | n => n, fun | 9 => 9 | 31 => 38 | 3 => 3 | 4 => 4 | 0 => 0 | 105 => 150 | 21 => 21 | 5 => 5 | 46 => 127 | 119 => 132 | 139 => 135 | 138 => 134 | 146 => 153 | 51 => 152 | n => n, fun | 1 => 2 | 3 => 0 | 4 => 1 | n => n⟩
theorem Tryz.laysSplit : Go.Proofs.Lays.n146 Tryz.prog Tryz.laysSplit_ren := {
 mixed := by kernel_rfl
 f138 := Tryz.func145.trans (congrArg some (by kernel_rfl))
 f143 := Tryz.func146.trans (congrArg some (by kernel_rfl))
 f146 := Tryz.func118.trans (congrArg some (by kernel_rfl))
 f195 := Tryz.func148.trans (congrArg some (by kernel_rfl))
 f197 := Tryz.func149.trans (congrArg some (by kernel_rfl))
 f217 := Tryz.func147.trans (congrArg some (by kernel_rfl))
 f218 := Tryz.func150.trans (congrArg some (by kernel_rfl))
 f219 := Tryz.func151.trans (congrArg some (by kernel_rfl))
 f221 := Tryz.func137.trans (congrArg some (by kernel_rfl))
 f224 := Tryz.func142.trans (congrArg some (by kernel_rfl))
 f225 := Tryz.func143.trans (congrArg some (by kernel_rfl))
 f260 := Tryz.func153.trans (congrArg some (by kernel_rfl))
 f266 := Tryz.func152.trans (congrArg some (by kernel_rfl))
 f267 := Tryz.func154.trans (congrArg some (by kernel_rfl))
 f268 := Tryz.func144.trans (congrArg some (by kernel_rfl))
 f314 := Tryz.func155.trans (congrArg some (by kernel_rfl))
 t0 := Tryz.underlying0
 a0 := Tryz.isAgg0
 z0 := Tryz.sizeOf0
 v0 := Tryz.zeroValue0
 t3 := Tryz.underlying3
 a3 := Tryz.isAgg3
 z3 := Tryz.sizeOf3
 v3 := Tryz.zeroValue3
 t4 := Tryz.underlying4
 a4 := Tryz.isAgg4
 z4 := Tryz.sizeOf4
 v4 := Tryz.zeroValue4
 t5 := Tryz.underlying5
 a5 := Tryz.isAgg5
 z5 := Tryz.sizeOf5
 v5 := Tryz.zeroValue5
 t9 := Tryz.underlying9
 a9 := Tryz.isAgg9
 z9 := Tryz.sizeOf9
 v9 := Tryz.zeroValue9
 t21 := Tryz.underlying21
 a21 := Tryz.isAgg21
 z21 := Tryz.sizeOf21
 v21 := Tryz.zeroValue21
 t31 := Tryz.underlying38
 a31 := Tryz.isAgg38
 z31 := Tryz.sizeOf38
 v31 := Tryz.zeroValue38
 t46 := Tryz.underlying127
 a46 := Tryz.isAgg127
 z46 := Tryz.sizeOf127
 v46 := Tryz.zeroValue127
 t51 := Tryz.underlying152
 a51 := Tryz.isAgg152
 z51 := Tryz.sizeOf152
 v51 := Tryz.zeroValue152
 t105 := Tryz.underlying150
 a105 := Tryz.isAgg150
 z105 := Tryz.sizeOf150
 v105 := Tryz.zeroValue150
 t119 := Tryz.underlying132
 a119 := Tryz.isAgg132
 z119 := Tryz.sizeOf132
 t138 := Tryz.underlying134
 a138 := Tryz.isAgg134
 z138 := Tryz.sizeOf134
 v138 := Tryz.zeroValue134
 t139 := Tryz.underlying135
 a139 := Tryz.isAgg135
 z139 := Tryz.sizeOf135
 v139 := Tryz.zeroValue135
 t146 := Tryz.underlying153
 a146 := Tryz.isAgg153
 z146 := Tryz.sizeOf153
 v146 := Tryz.zeroValue153
 g1 := by kernel_rfl
 g3 := by kernel_rfl
 g4 := by kernel_rfl }
namespace YtdofipeaomgbbaaGreatDoor.Abs
def noZ : Nat → List UInt8 → Bool
 | 0, _ => true
 | n + 1, l => if l = [] then true else if (Lib.decodeL l).1 = 0 then false else noZ n (l.drop (Lib.decodeL l).2)
def U5 (s : ByteArray) : Bool := noZ s.size s.data.toList && (Lib.validD s.data.toList && decide (s.size ≤ 60))
def JT (w : World) : Prop := Lib.Utf8Tabs (Tryz.laysValid_ren.g 3) (Tryz.laysValid_ren.g 4) w
def J0 (w : World) : Prop := JT w ∧ ∃ m, w.cell? ⟨Tryz.laysSplit_ren.g 1, 0, none⟩ = some (.int .i64 m)
theorem Aet : ∀ w w' : World, JT w → Below w.heap.size w w' → JT w' := fun _ _ h hb => Utf8Tabs_below h hb
theorem Aer : ∀ w w' : World, J0 w → Below w.heap.size w w' → J0 w' := fun w w' h hb => ⟨Aet w w' h.1 hb, by
 obtain ⟨m, hm⟩ := h.2
 have hlt := World.block_lt_of_cell? _ _ hm
 refine ⟨m, ?_⟩
 rw [← hm]
 simp only [World.cell?]
 rw [hb.block _ hlt]⟩
set_option maxHeartbeats 1000000 in
set_option maxRecDepth 1000000 in
theorem Acj (s : ByteArray) (w : World) (hs : s.size ≤ 9223372036854775807) (hT : JT w) :
  Calls Tryz.prog 93 #[.string s] w fun e w' => e = .returned (.bool (U5 s)) ∧ Below w.heap.size w w' := by
 have cV : ∀ w, JT w → Calls Tryz.prog 116 #[.string s] w _ := fun w hT => Any.utf8_ValidString Tryz.laysValid s w hs hT
 unfold U5
 generalize hV : Lib.validD s.data.toList = V at cV ⊢
 have bel : ∀ pos, Below w.heap.size w (w.iter s pos) := fun pos => (Below.refl _ w).alloc (zai _) _
 go_enter Tryz.func93, Tryz.ntmps93
 go_wp2
 go_loopw [] (fun w' => ∃ (pos b : Nat), w' = w.iter s pos ∧ noZ b (s.data.toList.drop pos) = noZ s.size s.data.toList ∧ s.size ≤ pos + b) (fun w' => s.size - w'.iterPos w.heap.size)
 case atStart => exact ⟨0, s.size, rfl, by simp, by omega⟩
 case round =>
  obtain ⟨pos, b, rfl, hc, hb⟩ := hrel
  by_cases hp : pos < s.size
  ·have hnx : ∀ ty, (Instr.next (.pointer (some ⟨w.heap.size, 0, none⟩)) true ty).run Tryz.prog (w.iter s pos) = _ := fun ty => run_next_any w s pos ty hp
   have hdd := Lib.decodeL_drop s pos
   have hwd : 1 ≤ (Utf8.decode s pos).2 := by rw [← hdd]; exact Lib.decodeL_width _
   obtain ⟨b, rfl⟩ : ∃ b', b = b' + 1 := ⟨b - 1, by omega⟩
   have hne : s.data.toList.drop pos ≠ [] := by
    intro h
    have := congrArg List.length h
    simp at this
    omega
   rw [noZ, if_neg hne, hdd] at hc
   by_cases hz : (Utf8.decode s pos).1 = 0
   ·rw [if_pos hz] at hc
    have hz' : (((Utf8.decode s pos).1 : Int) == 0) = true := by simp [hz]
    go_wp2
    go_ret
    rw [← hc]
    exact ⟨by simp, bel _⟩
   ·rw [if_neg hz, zbb] at hc
    have hz' : (((Utf8.decode s pos).1 : Int) == 0) = false := by simp; omega
    go_wp2
    go_roundw
    case rel => exact ⟨pos + (Utf8.decode s pos).2, b, rfl, hc, by omega⟩
    case measure =>
     simp
     omega
  ·have hnx : ∀ ty, (Instr.next (.pointer (some ⟨w.heap.size, 0, none⟩)) true ty).run Tryz.prog (w.iter s pos) = _ := fun ty => run_next_end w s pos ty hp
   have hnil : s.data.toList.drop pos = [] := by
    apply zaX
    simp
    omega
   have hc2 : noZ s.size s.data.toList = true := by
    rw [← hc, hnil]
    cases b <;> simp [noZ]
   rw [hc2]
   have cV2 := cV (w.iter s pos) (Utf8Tabs_below hT (bel pos))
   go_wp2_with (go_at_call 116; refine cV2.mono ?_; rintro e w' ⟨rfl, hb2⟩)
   all_goals
    go_ret
    refine ⟨?_, (bel pos).trans (hb2.mono (bel pos).size)⟩
   ·simp_all
    omega
   ·simp_all
theorem U1 : ∀ (n : Nat) (l : List UInt8), Mu n l = (noZ n l && Lib.validGoD n l)
 | 0, _ => rfl
 | n + 1, l => by
  rw [Mu, noZ, Lib.validGoD, U1 n]
  by_cases h : l = []
  ·simp [h]
  ·by_cases h1 : (Lib.decodeL l).1 = 65533 ∧ (Lib.decodeL l).2 = 1
   ·simp [h, h1]
   ·by_cases h2 : (Lib.decodeL l).1 = 0
    ·simp [h, h2]
    ·simp [h, h1, h2]
theorem Acz (s : ByteArray) : U5 s = D8 s := by
 have e : s.data.toList.length = s.size := by simp
 unfold U5 D8 Lib.validD
 rw [U1, e]
 cases noZ s.size s.data.toList <;> cases Lib.validGoD s.size s.data.toList <;> simp
theorem Akm {c : ByteArray} (h : c.data.toList = [43, 35]) : c = phB := by
 cases c with
 | mk d =>
  have : d = #[43, 35] := by apply zbl; simpa using h
  subst this
  rfl
theorem AiO {c : ByteArray} (h : c.data.toList = [47]) : c = S0 := by
 cases c with
 | mk d =>
  have : d = #[47] := by apply zbl; simpa using h
  subst this
  rfl
theorem AeG : (Tryz.prog.info? (Tryz.laysAny_ren.t 116)).map (fun i => (i.zero, i.size)) = some (some (.agg (zbx 256 (.bool false))), 256) := by kernel_rfl
theorem hi9 : (Tryz.prog.info? (Tryz.laysSplit_ren.t 9)).map (fun i => (i.zero, i.size, i.bytes)) = some (some (.string ByteArray.empty), 1, 16) := by kernel_rfl
theorem Agb {w w' : World} (hb : Below w.heap.size w w') : HR w Fz w' [] := by
 refine ⟨hb, ?_, ?_, ?_, ?_⟩
 ·intro i k b o sz hi
  cases hi
 ·intro i k hi
  cases hi
 ·intro i i' k k' b o sz o' sz' hi
  cases hi
 ·intro i p hp
  cases hp
theorem Aaf {w w' : World} (hb : Below w.heap.size w w') (ty : Nat) (v : Value) : ∃ φ' Hc x ids, HR w φ' w' Hc ∧ VR w φ' x v ∧ Bx E0.ti E0.tp Hc 8 ty x = some (.sc v, ids) ∧ ids.Nodup :=
 ⟨Fz, [], .sc v, [], Agb hb, Fs _ _ _, rfl, zb3⟩
theorem W7 {ti : Nat → Option TI} {tp : Nat → Option (List Nat)} {H : Aa} {d : Nat} : ∀ (ts : List Nat) (l : List Value), ts.length = l.length → Cc (Bx ti tp H (d + 1)) ts (l.map AV.sc) = some (l.map AV.sc, [])
 | [], [], _ => rfl
 | t :: ts, v :: l, h => by
  have ih := W7 (ti := ti) (tp := tp) (H := H) (d := d) ts l (by simpa using h)
  simp only [za0, Cc, ih, zab]
  rfl
theorem Ag2 {ti : Nat → Option TI} {tp : Nat → Option (List Nat)} {H : Aa} {d ty id off n z : Nat} : Bx ti tp H (d + 1) ty (.sl id off n z) = (ti ty).bind fun i => (ti i.elem).bind fun j => if z = j.size then (if Fh H id then (Aw H id off (n * z)).bind fun cs => (Cc (Bx ti tp H d) (zad n j.cty).flatten cs).bind fun q => some (.ro n q.1, id :: q.2) else none) else none := rfl
theorem Ac7 (w : World) (l : List ByteArray) (e : TypeId) : ∃ φ' Hc x ids, HR w φ' (w.alloc (.cells (l.map Value.string).toArray e)) Hc ∧ VR w φ' x (.slice (some ⟨w.heap.size, 0, none⟩) l.length l.length) ∧
  Bx E0.ti E0.tp Hc 8 38 x = some (.ro l.length (l.map fun s => .sc (.string s)), ids) ∧ ids.Nodup := by
 have hcs : VRs w Fz ((l.map Value.string).map AV.sc) (fun j => (l.map Value.string).toArray[0 + j]?) := by
  rw [Db]
  intro j x hj
  rw [zbc] at hj
  obtain ⟨v, hv, rfl⟩ := zaN.1 hj
  exact ⟨v, by simpa using hv, Fs _ _ _⟩
 obtain ⟨h1, h2⟩ := (HR.start w).alloc (E9 w (.cells (l.map Value.string).toArray e)) (b := w.heap.size) (o := 0) (k := ⟨(l.map Value.string).map AV.sc, true, true⟩) (zai _) (Kt w _) (by simp) (fun _ => rfl) (.inl rfl) hcs
 refine ⟨_, _, .sl 0 0 l.length 1, [0], h1, ?_, ?_, by simp⟩
 ·rw [VR]
  refine .inr ⟨w.heap.size, 0, _, Ev _ _ _, .inr ⟨l.length, zai _, rfl, ?_⟩⟩
  simp
 ·rw [Ag2]
  have hr : Aw ([] ++ [⟨(l.map Value.string).map AV.sc, true, true⟩]) 0 0 (l.length * 1) = some ((l.map Value.string).map AV.sc) := by
   simp [Aw, zbi]
  have e1 : E0.ti 38 = An 38 := rfl
  obtain ⟨i, j, hi, hj, hz, hc⟩ : ∃ i j, An 38 = some i ∧ An i.elem = some j ∧ j.size = 1 ∧ j.cty = [i.elem] := ⟨_, _, rfl, rfl, rfl, rfl⟩
  simp only [e1, hi, zab, show E0.ti i.elem = some j from hj, hz, if_true, hr, hc]
  have ho := W7 (ti := E0.ti) (tp := E0.tp) (H := [] ++ [⟨(l.map Value.string).map AV.sc, true, true⟩]) (d := 6) (zad l.length [i.elem]).flatten (l.map Value.string) (by simp)
  rw [ho]
  have ha : Fh ([] ++ [(⟨(l.map Value.string).map AV.sc, true, true⟩ : Gm)]) 0 = true := rfl
  rw [if_pos ha]
  simp [zbH]
theorem Acu (s : ByteArray) (w : World) (hs : s.size < 4294967281) : Calls Tryz.prog 94 #[.string s, .string phB] w fun e w' => e = .returned (.bool (vPH s)) ∧ Below w.heap.size w w' :=
 Wi Tryz.laysAny (zero_of_info AeG).1 (zero_of_info AeG).2 s w hs
theorem Zz (s : ByteArray) (w : World) (hs : s.size < 4294967281) (hm : ∃ m, w.cell? ⟨Tryz.laysSplit_ren.g 1, 0, none⟩ = some (.int .i64 m)) : Calls Tryz.prog 118 #[.string s, .string S0] w fun e w' =>
  e = .returned (.slice (some ⟨w.heap.size, 0, none⟩) (Ei s).length (Ei s).length) ∧ w' = w.alloc (.cells ((Ei s).map Value.string).toArray (Tryz.laysSplit_ren.t 9)) := by
 obtain ⟨m, hm⟩ := hm
 have h := Any.strings_Split Tryz.laysSplit hi9 s S0 m w hs hm (zai _)
 rw [O0, ← Zi] at h
 exact h
theorem Agy {w : World} {x : Value} {us : List Value} (hl : us.length = 1) (hv : VRs w Fz [.sc x] (fun j => us[j]?)) : us = [x] := by
 match us, hl with
 | [y], _ =>
  rw [VRs] at hv
  obtain ⟨⟨u, hu, hv⟩, _⟩ := hv
  rw [VR] at hv
  simp at hu
  rw [hu, hv]
theorem Xu {w : World} {x y : Value} {us : List Value} (hl : us.length = 2) (hv : VRs w Fz [.sc x, .sc y] (fun j => us[j]?)) : us = [x, y] := by
 match us, hl with
 | [a, b], _ =>
  rw [VRs, VRs] at hv
  obtain ⟨⟨u, hu, hv⟩, ⟨u2, hu2, hv2⟩, _⟩ := hv
  rw [VR] at hv hv2
  simp at hu hu2
  rw [hu, hv, hu2, hv2]
theorem AkE : AgM Tryz.prog E0 J0 := by
 intro f g hg w hj ty vs us t hl hv ht
 have hf : E0.ext f = if zb4 f 93 then some Aae else if zb4 f 94 then some Wm else if zb4 f 118 then some Pc else none := rfl
 rw [hf] at hg
 split at hg
 ·rename_i hfe
  obtain rfl := zba hfe
  cases hg
  unfold Aae at ht
  split at ht
  case h_2 => cases ht
  rename_i s
  split at ht
  case isFalse => cases ht
  rename_i hs
  cases ht
  have hm : maxLen = 9223372036854775807 := by decide
  rw [hm] at hs
  obtain rfl := Agy hl hv
  refine .inr ⟨enters_of Tryz.func93 (by kernel_rfl) rfl _ _, (Acj s w hs hj.1).mono fun e w' ⟨he, hb⟩ => ⟨_, he, ?_⟩⟩
  rw [Acz]
  exact Aaf hb _ _
 split at hg
 ·rename_i hfe
  obtain rfl := zba hfe
  cases hg
  unfold Wm at ht
  split at ht
  case h_2 => cases ht
  rename_i s c
  split at ht
  case isFalse => cases ht
  rename_i hs
  cases ht
  obtain rfl := Xu hl hv
  obtain ⟨hc, hs⟩ := hs
  obtain rfl := Akm hc
  exact .inr ⟨enters_of Tryz.func94 (by kernel_rfl) rfl _ _, (Acu s w hs).mono fun e w' ⟨he, hb⟩ => ⟨_, he, Aaf hb _ _⟩⟩
 split at hg
 ·rename_i hfe
  obtain rfl := zba hfe
  cases hg
  unfold Pc at ht
  split at ht
  case h_2 => cases ht
  rename_i s c
  split at ht
  case isFalse => cases ht
  rename_i hs
  cases ht
  obtain rfl := Xu hl hv
  obtain ⟨rfl, hc, hs⟩ := hs
  obtain rfl := AiO hc
  exact .inr ⟨enters_of Tryz.func118 (by kernel_rfl) rfl _ _, (Zz s w hs hj.2).mono fun e w' ⟨he, hw⟩ => ⟨_, he, by subst hw; exact Ac7 w (Ei s) _⟩⟩
 ·cases hg
end YtdofipeaomgbbaaGreatDoor.Abs
end Go.Proofs
set_option linter.unusedVariables false
set_option linter.unusedSimpArgs false
set_option maxRecDepth 100000
namespace Go.Proofs.YtdofipeaomgbbaaGreatDoor.Abs
open _root_.Option renaming bind_eq_some_iff → zaa, bind_some → zab, getD_some → za5, map_eq_some_iff → zaN, bind_eq_bind → zaS, pure_def → zbg
open _root_.List renaming getElem?_eq_some_iff → zac, replicate → zad, length_append → zae, getElem?_append_right → zaf, getElem?_append_left → zag, nil_append → zah, append_assoc → zaj, length_singleton → zal, append_nil → zam, length_cons → zao, eq_nil_of_length_eq_zero → zap, mem_append_right → zaq, length_nil → zar, getElem?_eq_getElem → zas, mem_append_left → zat, cons_append → zau, mem_cons → zav, mem_cons_of_mem → zax, not_mem_nil → zay, map_cons → za0, flatten_append → za1, take_length → za3, getElem?_set_ne → za4, drop_zero → za6, mem_cons_self → za7, mem_append → za9, map_append → zaA, replicate_append_replicate → zaB, flatten_cons → zaD, all_eq_true → zaE, length_drop → zaF, nodup_cons → zaH, nodup_append → zaJ, mem_range'_1 → zaK, length_take → zaL, nodup_range' → zaP, take_append_drop → zaR, all_cons → zaT, mapM_cons → zaU, range' → zaW, drop_of_length_le → zaX, getElem?_set_self → zaY, drop_drop → zbb, getElem?_map → zbc, length_set → zbh, take_of_length_le → zbi, drop_eq_getElem_cons → zbj, getElem?_drop → zbk, mem_singleton → zbm, drop_append_of_le_length → zbn, getElem?_cons_zero → zbo, any_cons → zbt, length_map → zbz, map_nil → zb0, Perm → zb1, take_append_of_le_length → zb2, nodup_nil → zb3, length_eq_one_iff → zb5, headD_cons → zb9, drop_left' → zbA, getD_eq_getElem?_getD → zbB, tail_cons → zbC, mem_map → zbE, take_zero → zbF, map_map → zbH
open _root_.Nat renaming le_refl → zai, zero_add → zaw, sub_self → zaI, add_assoc → zaO, min_eq_left → zaQ, add_mul → zaV, add_zero → zaZ, eq_of_beq_eq_true → zba, mul_le_mul_right → zbd, add_sub_cancel_left → zbq, one_mul → zbv, beq → zb4, add_comm → zbD, succ_mul → zbG
open _root_.Bool renaming and_eq_true → zak, false_eq_true → zan, eq_iff_iff → zaM
open _root_.Array renaming ext' → zbl, replicate → zbx
open _root_.Int renaming natCast_zero → zbe, toNat_natCast → zbf
section
open Go
theorem Aks : AeL Tryz.prog 0 tis = true := by kernel_rfl
theorem Hx (E : Lw) : ∀ (a b : List (Option Eo)), L7 E a = true → L7 E b = true → L7 E (a ++ b) = true
 | [], b, _, h => h
 | x :: a, b, h1, h2 => by
  simp only [zau, L7, zak] at h1 ⊢
  exact ⟨h1.1, Hx E a b h1.2 h2⟩
theorem Afe : L7 E0 ((fss.drop 0).take 16) = true := by kernel_rfl
theorem Ac0 : L7 E0 ((fss.drop 16).take 16) = true := by kernel_rfl
theorem Ac1 : L7 E0 ((fss.drop 32).take 16) = true := by kernel_rfl
theorem Ac2 : L7 E0 ((fss.drop 48).take 16) = true := by kernel_rfl
theorem Ac3 : L7 E0 ((fss.drop 64).take 16) = true := by kernel_rfl
theorem Ac4 : L7 E0 ((fss.drop 80).take 16) = true := by kernel_rfl
theorem Ac5 : L7 E0 ((fss.drop 96).take 16) = true := by kernel_rfl
theorem AaQ : L7 E0 ((fss.drop 112).take 16) = true := by kernel_rfl
theorem AaR : L7 E0 ((fss.drop 128).take 16) = true := by kernel_rfl
theorem AiY : L7 E0 fss = true := by
 have e : fss = (fss.drop 0).take 16 ++ ((fss.drop 16).take 16 ++ ((fss.drop 32).take 16 ++ ((fss.drop 48).take 16 ++ ((fss.drop 64).take 16 ++ ((fss.drop 80).take 16 ++ ((fss.drop 96).take 16 ++ ((fss.drop 112).take 16 ++ ((fss.drop 128).take 16)))))))) := by kernel_rfl
 rw [e]
 exact Hx _ _ _ Afe (Hx _ _ _ Ac0 (Hx _ _ _ Ac1 (Hx _ _ _ Ac2 (Hx _ _ _ Ac3 (Hx _ _ _ Ac4 (Hx _ _ _ Ac5 (Hx _ _ _ AaQ (AaR))))))))
theorem AeM : H7 Tryz.prog An := by
 intro t i h
 unfold An at h
 cases hl : tis[t]? with
 | none => rw [hl] at h; cases h
 | some o =>
  rw [hl] at h
  simp only [za5] at h
  subst h
  simpa using (V0 tis 0 t i Aks hl).1
theorem AiX : ∀ t i, An t = some i → i.ik = some .u8 → i.size = 1 := by
 intro t i h
 unfold An at h
 cases hl : tis[t]? with
 | none => rw [hl] at h; cases h
 | some o =>
  rw [hl] at h
  simp only [za5] at h
  subst h
  exact (V0 tis 0 t i Aks hl).2
def FnQ (n : Nat) (c : Code) (t : Nat) (f : Func) : Prop := ∃ fn, Tryz.prog.funcs[n]? = some fn ∧ (fn.name == "runtime.NumGoroutine") = false ∧ fn.body = some c ∧ fn.ntmps = t ∧ fn.results.toList = f.results.toList
theorem Fo {c : Code} {t : Nat} {f : Func} {o : List (Nat × PI)} {i : Eo} {n : Nat} (e : some (some (⟨c, t, f.results.toList, o⟩ : Eo)) = some (some i)) (h : FnQ n c t f) : ∃ fn, Tryz.prog.funcs[n]? = some fn ∧ (fn.name == "runtime.NumGoroutine") = false ∧ fn.body = some i.body ∧ fn.ntmps = i.ntmps ∧ fn.results.toList = i.results := by cases e; exact h
theorem AjL : ∀ (f : Nat) (i : Eo), f < 140 → fss[f]? = some (some i) → ∃ fn, Tryz.prog.funcs[f]? = some fn ∧ (fn.name == "runtime.NumGoroutine") = false ∧ fn.body = some i.body ∧ fn.ntmps = i.ntmps ∧ fn.results.toList = i.results
 | 0, i, _, h => nomatch Option.some.inj h
 | 1, i, _, h => nomatch Option.some.inj h
 | 2, i, _, h => nomatch Option.some.inj h
 | 3, i, _, h => nomatch Option.some.inj h
 | 4, i, _, h => Fo (f := Tryz.f4) h ⟨_, Tryz.func4, by kernel_rfl, by kernel_rfl, rfl, rfl⟩
 | 5, i, _, h => nomatch Option.some.inj h
 | 6, i, _, h => nomatch Option.some.inj h
 | 7, i, _, h => Fo (f := Tryz.f7) h ⟨_, Tryz.func7, by kernel_rfl, by kernel_rfl, rfl, rfl⟩
 | 8, i, _, h => nomatch Option.some.inj h
 | 9, i, _, h => nomatch Option.some.inj h
 | 10, i, _, h => Fo (f := Tryz.f10) h ⟨_, Tryz.func10, by kernel_rfl, by kernel_rfl, rfl, rfl⟩
 | 11, i, _, h => Fo (f := Tryz.f11) h ⟨_, Tryz.func11, by kernel_rfl, by kernel_rfl, rfl, rfl⟩
 | 12, i, _, h => nomatch Option.some.inj h
 | 13, i, _, h => nomatch Option.some.inj h
 | 14, i, _, h => nomatch Option.some.inj h
 | 15, i, _, h => nomatch Option.some.inj h
 | 16, i, _, h => Fo (f := Tryz.f16) h ⟨_, Tryz.func16, by kernel_rfl, by kernel_rfl, rfl, rfl⟩
 | 17, i, _, h => nomatch Option.some.inj h
 | 18, i, _, h => Fo (f := Tryz.f18) h ⟨_, Tryz.func18, by kernel_rfl, by kernel_rfl, rfl, rfl⟩
 | 19, i, _, h => Fo (f := Tryz.f19) h ⟨_, Tryz.func19, by kernel_rfl, by kernel_rfl, rfl, rfl⟩
 | 20, i, _, h => nomatch Option.some.inj h
 | 21, i, _, h => Fo (f := Tryz.f21) h ⟨_, Tryz.func21, by kernel_rfl, by kernel_rfl, rfl, rfl⟩
 | 22, i, _, h => Fo (f := Tryz.f22) h ⟨_, Tryz.func22, by kernel_rfl, by kernel_rfl, rfl, rfl⟩
 | 23, i, _, h => Fo (f := Tryz.f23) h ⟨_, Tryz.func23, by kernel_rfl, by kernel_rfl, rfl, rfl⟩
 | 24, i, _, h => Fo (f := Tryz.f24) h ⟨_, Tryz.func24, by kernel_rfl, by kernel_rfl, rfl, rfl⟩
 | 25, i, _, h => Fo (f := Tryz.f25) h ⟨_, Tryz.func25, by kernel_rfl, by kernel_rfl, rfl, rfl⟩
 | 26, i, _, h => Fo (f := Tryz.f26) h ⟨_, Tryz.func26, by kernel_rfl, by kernel_rfl, rfl, rfl⟩
 | 27, i, _, h => nomatch Option.some.inj h
 | 28, i, _, h => nomatch Option.some.inj h
 | 29, i, _, h => nomatch Option.some.inj h
 | 30, i, _, h => nomatch Option.some.inj h
 | 31, i, _, h => nomatch Option.some.inj h
 | 32, i, _, h => Fo (f := Tryz.f32) h ⟨_, Tryz.func32, by kernel_rfl, by kernel_rfl, rfl, rfl⟩
 | 33, i, _, h => Fo (f := Tryz.f33) h ⟨_, Tryz.func33, by kernel_rfl, by kernel_rfl, rfl, rfl⟩
 | 34, i, _, h => nomatch Option.some.inj h
 | 35, i, _, h => nomatch Option.some.inj h
 | 36, i, _, h => nomatch Option.some.inj h
 | 37, i, _, h => nomatch Option.some.inj h
 | 38, i, _, h => nomatch Option.some.inj h
 | 39, i, _, h => Fo (f := Tryz.f39) h ⟨_, Tryz.func39, by kernel_rfl, by kernel_rfl, rfl, rfl⟩
 | 40, i, _, h => Fo (f := Tryz.f40) h ⟨_, Tryz.func40, by kernel_rfl, by kernel_rfl, rfl, rfl⟩
 | 41, i, _, h => Fo (f := Tryz.f41) h ⟨_, Tryz.func41, by kernel_rfl, by kernel_rfl, rfl, rfl⟩
 | 42, i, _, h => nomatch Option.some.inj h
 | 43, i, _, h => nomatch Option.some.inj h
 | 44, i, _, h => Fo (f := Tryz.f44) h ⟨_, Tryz.func44, by kernel_rfl, by kernel_rfl, rfl, rfl⟩
 | 45, i, _, h => Fo (f := Tryz.f45) h ⟨_, Tryz.func45, by kernel_rfl, by kernel_rfl, rfl, rfl⟩
 | 46, i, _, h => Fo (f := Tryz.f46) h ⟨_, Tryz.func46, by kernel_rfl, by kernel_rfl, rfl, rfl⟩
 | 47, i, _, h => Fo (f := Tryz.f47) h ⟨_, Tryz.func47, by kernel_rfl, by kernel_rfl, rfl, rfl⟩
 | 48, i, _, h => Fo (f := Tryz.f48) h ⟨_, Tryz.func48, by kernel_rfl, by kernel_rfl, rfl, rfl⟩
 | 49, i, _, h => Fo (f := Tryz.f49) h ⟨_, Tryz.func49, by kernel_rfl, by kernel_rfl, rfl, rfl⟩
 | 50, i, _, h => Fo (f := Tryz.f50) h ⟨_, Tryz.func50, by kernel_rfl, by kernel_rfl, rfl, rfl⟩
 | 51, i, _, h => Fo (f := Tryz.f51) h ⟨_, Tryz.func51, by kernel_rfl, by kernel_rfl, rfl, rfl⟩
 | 52, i, _, h => Fo (f := Tryz.f52) h ⟨_, Tryz.func52, by kernel_rfl, by kernel_rfl, rfl, rfl⟩
 | 53, i, _, h => Fo (f := Tryz.f53) h ⟨_, Tryz.func53, by kernel_rfl, by kernel_rfl, rfl, rfl⟩
 | 54, i, _, h => nomatch Option.some.inj h
 | 55, i, _, h => nomatch Option.some.inj h
 | 56, i, _, h => Fo (f := Tryz.f56) h ⟨_, Tryz.func56, by kernel_rfl, by kernel_rfl, rfl, rfl⟩
 | 57, i, _, h => Fo (f := Tryz.f57) h ⟨_, Tryz.func57, by kernel_rfl, by kernel_rfl, rfl, rfl⟩
 | 58, i, _, h => nomatch Option.some.inj h
 | 59, i, _, h => Fo (f := Tryz.f59) h ⟨_, Tryz.func59, by kernel_rfl, by kernel_rfl, rfl, rfl⟩
 | 60, i, _, h => Fo (f := Tryz.f60) h ⟨_, Tryz.func60, by kernel_rfl, by kernel_rfl, rfl, rfl⟩
 | 61, i, _, h => Fo (f := Tryz.f61) h ⟨_, Tryz.func61, by kernel_rfl, by kernel_rfl, rfl, rfl⟩
 | 62, i, _, h => Fo (f := Tryz.f62) h ⟨_, Tryz.func62, by kernel_rfl, by kernel_rfl, rfl, rfl⟩
 | 63, i, _, h => nomatch Option.some.inj h
 | 64, i, _, h => Fo (f := Tryz.f64) h ⟨_, Tryz.func64, by kernel_rfl, by kernel_rfl, rfl, rfl⟩
 | 65, i, _, h => Fo (f := Tryz.f65) h ⟨_, Tryz.func65, by kernel_rfl, by kernel_rfl, rfl, rfl⟩
 | 66, i, _, h => Fo (f := Tryz.f66) h ⟨_, Tryz.func66, by kernel_rfl, by kernel_rfl, rfl, rfl⟩
 | 67, i, _, h => Fo (f := Tryz.f67) h ⟨_, Tryz.func67, by kernel_rfl, by kernel_rfl, rfl, rfl⟩
 | 68, i, _, h => Fo (f := Tryz.f68) h ⟨_, Tryz.func68, by kernel_rfl, by kernel_rfl, rfl, rfl⟩
 | 69, i, _, h => Fo (f := Tryz.f69) h ⟨_, Tryz.func69, by kernel_rfl, by kernel_rfl, rfl, rfl⟩
 | 70, i, _, h => nomatch Option.some.inj h
 | 71, i, _, h => nomatch Option.some.inj h
 | 72, i, _, h => nomatch Option.some.inj h
 | 73, i, _, h => Fo (f := Tryz.f73) h ⟨_, Tryz.func73, by kernel_rfl, by kernel_rfl, rfl, rfl⟩
 | 74, i, _, h => Fo (f := Tryz.f74) h ⟨_, Tryz.func74, by kernel_rfl, by kernel_rfl, rfl, rfl⟩
 | 75, i, _, h => Fo (f := Tryz.f75) h ⟨_, Tryz.func75, by kernel_rfl, by kernel_rfl, rfl, rfl⟩
 | 76, i, _, h => Fo (f := Tryz.f76) h ⟨_, Tryz.func76, by kernel_rfl, by kernel_rfl, rfl, rfl⟩
 | 77, i, _, h => Fo (f := Tryz.f77) h ⟨_, Tryz.func77, by kernel_rfl, by kernel_rfl, rfl, rfl⟩
 | 78, i, _, h => Fo (f := Tryz.f78) h ⟨_, Tryz.func78, by kernel_rfl, by kernel_rfl, rfl, rfl⟩
 | 79, i, _, h => Fo (f := Tryz.f79) h ⟨_, Tryz.func79, by kernel_rfl, by kernel_rfl, rfl, rfl⟩
 | 80, i, _, h => Fo (f := Tryz.f80) h ⟨_, Tryz.func80, by kernel_rfl, by kernel_rfl, rfl, rfl⟩
 | 81, i, _, h => nomatch Option.some.inj h
 | 82, i, _, h => Fo (f := Tryz.f82) h ⟨_, Tryz.func82, by kernel_rfl, by kernel_rfl, rfl, rfl⟩
 | 83, i, _, h => Fo (f := Tryz.f83) h ⟨_, Tryz.func83, by kernel_rfl, by kernel_rfl, rfl, rfl⟩
 | 84, i, _, h => nomatch Option.some.inj h
 | 85, i, _, h => nomatch Option.some.inj h
 | 86, i, _, h => Fo (f := Tryz.f86) h ⟨_, Tryz.func86, by kernel_rfl, by kernel_rfl, rfl, rfl⟩
 | 87, i, _, h => Fo (f := Tryz.f87) h ⟨_, Tryz.func87, by kernel_rfl, by kernel_rfl, rfl, rfl⟩
 | 88, i, _, h => Fo (f := Tryz.f88) h ⟨_, Tryz.func88, by kernel_rfl, by kernel_rfl, rfl, rfl⟩
 | 89, i, _, h => Fo (f := Tryz.f89) h ⟨_, Tryz.func89, by kernel_rfl, by kernel_rfl, rfl, rfl⟩
 | 90, i, _, h => Fo (f := Tryz.f90) h ⟨_, Tryz.func90, by kernel_rfl, by kernel_rfl, rfl, rfl⟩
 | 91, i, _, h => Fo (f := Tryz.f91) h ⟨_, Tryz.func91, by kernel_rfl, by kernel_rfl, rfl, rfl⟩
 | 92, i, _, h => Fo (f := Tryz.f92) h ⟨_, Tryz.func92, by kernel_rfl, by kernel_rfl, rfl, rfl⟩
 | 93, i, _, h => nomatch Option.some.inj h
 | 94, i, _, h => nomatch Option.some.inj h
 | 95, i, _, h => Fo (f := Tryz.f95) h ⟨_, Tryz.func95, by kernel_rfl, by kernel_rfl, rfl, rfl⟩
 | 96, i, _, h => nomatch Option.some.inj h
 | 97, i, _, h => Fo (f := Tryz.f97) h ⟨_, Tryz.func97, by kernel_rfl, by kernel_rfl, rfl, rfl⟩
 | 98, i, _, h => Fo (f := Tryz.f98) h ⟨_, Tryz.func98, by kernel_rfl, by kernel_rfl, rfl, rfl⟩
 | 99, i, _, h => Fo (f := Tryz.f99) h ⟨_, Tryz.func99, by kernel_rfl, by kernel_rfl, rfl, rfl⟩
 | 100, i, _, h => Fo (f := Tryz.f100) h ⟨_, Tryz.func100, by kernel_rfl, by kernel_rfl, rfl, rfl⟩
 | 101, i, _, h => Fo (f := Tryz.f101) h ⟨_, Tryz.func101, by kernel_rfl, by kernel_rfl, rfl, rfl⟩
 | 102, i, _, h => Fo (f := Tryz.f102) h ⟨_, Tryz.func102, by kernel_rfl, by kernel_rfl, rfl, rfl⟩
 | 103, i, _, h => Fo (f := Tryz.f103) h ⟨_, Tryz.func103, by kernel_rfl, by kernel_rfl, rfl, rfl⟩
 | 104, i, _, h => Fo (f := Tryz.f104) h ⟨_, Tryz.func104, by kernel_rfl, by kernel_rfl, rfl, rfl⟩
 | 105, i, _, h => Fo (f := Tryz.f105) h ⟨_, Tryz.func105, by kernel_rfl, by kernel_rfl, rfl, rfl⟩
 | 106, i, _, h => Fo (f := Tryz.f106) h ⟨_, Tryz.func106, by kernel_rfl, by kernel_rfl, rfl, rfl⟩
 | 107, i, _, h => Fo (f := Tryz.f107) h ⟨_, Tryz.func107, by kernel_rfl, by kernel_rfl, rfl, rfl⟩
 | 108, i, _, h => Fo (f := Tryz.f108) h ⟨_, Tryz.func108, by kernel_rfl, by kernel_rfl, rfl, rfl⟩
 | 109, i, _, h => Fo (f := Tryz.f109) h ⟨_, Tryz.func109, by kernel_rfl, by kernel_rfl, rfl, rfl⟩
 | 110, i, _, h => Fo (f := Tryz.f110) h ⟨_, Tryz.func110, by kernel_rfl, by kernel_rfl, rfl, rfl⟩
 | 111, i, _, h => Fo (f := Tryz.f111) h ⟨_, Tryz.func111, by kernel_rfl, by kernel_rfl, rfl, rfl⟩
 | 112, i, _, h => Fo (f := Tryz.f112) h ⟨_, Tryz.func112, by kernel_rfl, by kernel_rfl, rfl, rfl⟩
 | 113, i, _, h => Fo (f := Tryz.f113) h ⟨_, Tryz.func113, by kernel_rfl, by kernel_rfl, rfl, rfl⟩
 | 114, i, _, h => Fo (f := Tryz.f114) h ⟨_, Tryz.func114, by kernel_rfl, by kernel_rfl, rfl, rfl⟩
 | 115, i, _, h => Fo (f := Tryz.f115) h ⟨_, Tryz.func115, by kernel_rfl, by kernel_rfl, rfl, rfl⟩
 | 116, i, _, h => nomatch Option.some.inj h
 | 117, i, _, h => nomatch Option.some.inj h
 | 118, i, _, h => nomatch Option.some.inj h
 | 119, i, _, h => nomatch Option.some.inj h
 | 120, i, _, h => Fo (f := Tryz.f120) h ⟨_, Tryz.func120, by kernel_rfl, by kernel_rfl, rfl, rfl⟩
 | 121, i, _, h => Fo (f := Tryz.f121) h ⟨_, Tryz.func121, by kernel_rfl, by kernel_rfl, rfl, rfl⟩
 | 122, i, _, h => Fo (f := Tryz.f122) h ⟨_, Tryz.func122, by kernel_rfl, by kernel_rfl, rfl, rfl⟩
 | 123, i, _, h => Fo (f := Tryz.f123) h ⟨_, Tryz.func123, by kernel_rfl, by kernel_rfl, rfl, rfl⟩
 | 124, i, _, h => Fo (f := Tryz.f124) h ⟨_, Tryz.func124, by kernel_rfl, by kernel_rfl, rfl, rfl⟩
 | 125, i, _, h => Fo (f := Tryz.f125) h ⟨_, Tryz.func125, by kernel_rfl, by kernel_rfl, rfl, rfl⟩
 | 126, i, _, h => Fo (f := Tryz.f126) h ⟨_, Tryz.func126, by kernel_rfl, by kernel_rfl, rfl, rfl⟩
 | 127, i, _, h => Fo (f := Tryz.f127) h ⟨_, Tryz.func127, by kernel_rfl, by kernel_rfl, rfl, rfl⟩
 | 128, i, _, h => Fo (f := Tryz.f128) h ⟨_, Tryz.func128, by kernel_rfl, by kernel_rfl, rfl, rfl⟩
 | 129, i, _, h => Fo (f := Tryz.f129) h ⟨_, Tryz.func129, by kernel_rfl, by kernel_rfl, rfl, rfl⟩
 | 130, i, _, h => Fo (f := Tryz.f130) h ⟨_, Tryz.func130, by kernel_rfl, by kernel_rfl, rfl, rfl⟩
 | 131, i, _, h => Fo (f := Tryz.f131) h ⟨_, Tryz.func131, by kernel_rfl, by kernel_rfl, rfl, rfl⟩
 | 132, i, _, h => nomatch Option.some.inj h
 | 133, i, _, h => nomatch Option.some.inj h
 | 134, i, _, h => nomatch Option.some.inj h
 | 135, i, _, h => nomatch Option.some.inj h
 | 136, i, _, h => nomatch Option.some.inj h
 | 137, i, _, h => nomatch Option.some.inj h
 | 138, i, _, h => Fo (f := Tryz.f138) h ⟨_, Tryz.func138, by kernel_rfl, by kernel_rfl, rfl, rfl⟩
 | 139, i, _, h => Fo (f := Tryz.f139) h ⟨_, Tryz.func139, by kernel_rfl, by kernel_rfl, rfl, rfl⟩
 | n + 140, i, hlt, h => by omega
theorem AkF : ∀ f i, E0.fs f = some i → Ahp Tryz.prog E0 f i := by
 intro f i h
 have hl : fss[f]? = some (some i) := by
  have h : (fss[f]?).getD none = some i := h
  cases hl : fss[f]? with
  | none => rw [hl] at h; cases h
  | some o => rw [hl] at h; simp only [za5] at h; rw [h]
 refine ⟨?_, Aav AiY hl⟩
 have hlt : f < 140 := (zac.1 hl).1
 exact AjL f i hlt hl
theorem AkC : V3 Tryz.prog E0 J0 := ⟨AeM, AiX, by kernel_rfl, AkF, AkE, (fun f q h => by cases h), Aer⟩
end
section
open Go
variable {β : Type} {n : Nat}
section
variable {k : KO β} {k1 : AV → Option β} {H : Aa}
@[simp] theorem A2 : (PR n β).load = Cx := rfl
@[simp] theorem A9 : (PR n β).store = D5 := rfl
@[simp] theorem Cf : (PR n β).new = Iw := rfl
@[simp] theorem Ct : (PR n β).box = Or := rfl
@[simp] theorem Ba : (PR n β).newSl = Fi := rfl
@[simp] theorem Bk : (PR n β).fadr = Ef := rfl
@[simp] theorem Ahq : (PR n β).fld = Ae7 := rfl
@[simp] theorem Bq : (PR n β).iadr = Eu := rfl
@[simp] theorem Dv : (PR n β).idx = AbY := rfl
@[simp] theorem C0 : (PR n β).lenS = Us := rfl
@[simp] theorem Bm : (PR n β).len = Ou := rfl
@[simp] theorem B8 : (PR n β).sliceS = M6 := rfl
@[simp] theorem Cp : (PR n β).slice = Iz := rfl
@[simp] theorem Cg : (PR n β).app = Ha := rfl
@[simp] theorem AeX : (PR n β).appS = Xd := rfl
@[simp] theorem A4 : (PR n β).bin = E4 := rfl
@[simp] theorem C8 : (PR n β).binB = So := rfl
@[simp] theorem C7 : (PR n β).binA = Oo := rfl
@[simp] theorem Ea : (PR n β).un = pUn := rfl
@[simp] theorem Bz : (PR n β).pick = Nf := rfl
@[simp] theorem Df : (PR n β).cvI = Xe := rfl
@[simp] theorem AeY : (PR n β).cvSS = AaA := rfl
@[simp] theorem Da : (PR n β).cvBS = Sq := rfl
@[simp] theorem Z6 : (PR n β).cvSB = Ur := rfl
@[simp] theorem J6 : (PR n β).extr = Ot := rfl
@[simp] theorem X3 : (PR n β).nil = Ae8 := rfl
@[simp] theorem Be : (PR n β).fill = fun a l k => (Er a l).bind k := rfl
@[simp] theorem Dj : (PR n β).make = Xf := rfl
@[simp] theorem Bi : (PR n β).guard = Hn := rfl
@[simp] theorem At : (PR n β).cond = Gz := rfl
@[simp] theorem Acp : (PR n β).clear = Pt := rfl
@[simp] theorem Z5 : (PR n β).both = Mq := rfl
@[simp] theorem Aco : (PR n β).apart = Sn := rfl
@[simp] theorem AeZ : (PR n β).same = Sr := rfl
theorem X1 : ((PR n β).load = Cx) ∧ ((PR n β).store = D5) ∧ ((PR n β).new = Iw) ∧ ((PR n β).box = Or) ∧ ((PR n β).newSl = Fi) ∧ ((PR n β).fadr = Ef) ∧ ((PR n β).fld = Ae7) ∧ ((PR n β).iadr = Eu) ∧ ((PR n β).idx = AbY) ∧ ((PR n β).lenS = Us) ∧ ((PR n β).len = Ou) ∧ ((PR n β).sliceS = M6) ∧ ((PR n β).slice = Iz) ∧ ((PR n β).app = Ha) ∧ ((PR n β).appS = Xd) ∧ ((PR n β).bin = E4) ∧ ((PR n β).binB = So) ∧ ((PR n β).binA = Oo) ∧ ((PR n β).un = pUn) ∧ ((PR n β).pick = Nf) ∧ ((PR n β).cvI = Xe) ∧ ((PR n β).cvSS = AaA) ∧ ((PR n β).cvBS = Sq) ∧ ((PR n β).cvSB = Ur) ∧ ((PR n β).extr = Ot) ∧ ((PR n β).nil = Ae8) ∧ ((PR n β).fill = fun a l k => (Er a l).bind k) ∧ ((PR n β).make = Xf) ∧ ((PR n β).guard = Hn) ∧ ((PR n β).cond = Gz) ∧ ((PR n β).clear = Pt) ∧ ((PR n β).both = Mq) ∧ ((PR n β).apart = Sn) ∧ ((PR n β).same = Sr) := ⟨rfl, rfl, rfl, rfl, rfl, rfl, rfl, rfl, rfl, rfl, rfl, rfl, rfl, rfl, rfl, rfl, rfl, rfl, rfl, rfl, rfl, rfl, rfl, rfl, rfl, rfl, rfl, rfl, rfl, rfl, rfl, rfl, rfl, rfl⟩
theorem Xz : (∀ (p : Pr β) (c : AV) (H : Aa) (m : (AV → Option β) → Option β) k, p.gT c H m k = p.guard c true H (fun k' => m fun t' => k' t' H) k) ∧ (∀ (p : Pr β) (c : AV) (H : Aa) (m : (KO β) → Option β) k, p.hT c H m k = p.guard c true H (fun k' => m fun t' H => k' t' H) k) ∧ (∀ (p : Pr β) (c : AV) (H : Aa) (v : AV) k, p.kT c H v k = p.guard c true H (fun k' => k' v H) k) ∧ (∀ (p : Pr β) (c : AV) (H : Aa) (m : (AV → Option β) → Option β) k, p.gF c H m k = p.guard c false H (fun k' => m fun t' => k' t' H) k) ∧ (∀ (p : Pr β) (c : AV) (H : Aa) (m : (KO β) → Option β) k, p.hF c H m k = p.guard c false H (fun k' => m fun t' H => k' t' H) k) ∧ (∀ (p : Pr β) (c : AV) (H : Aa) (v : AV) k, p.kF c H v k = p.guard c false H (fun k' => k' v H) k) ∧ (∀ (p : Pr β) i t n H k, p.fl i t n H k = p.fadr i t fun x => p.load false n x H k) ∧ (∀ (p : Pr β) i t n v H k, p.fs i t n v H k = p.fadr i t fun x => p.store n x v H k) ∧ (∀ (p : Pr β) y f l H k, p.ca y f l H k = p.call y (.fn f [] []) l H k) ∧ (∀ (p : Pr β) c H i t n k, p.lT c H i t n k = p.guard c true H (fun k' => p.fadr i t fun x => k' x H) fun x H => p.guard c true H (fun k' => p.load false n x H fun x => k' x H) k) ∧ (∀ (p : Pr β) c H i t n k, p.lF c H i t n k = p.guard c false H (fun k' => p.fadr i t fun x => k' x H) fun x H => p.guard c false H (fun k' => p.load false n x H fun x => k' x H) k) := ⟨fun _ _ _ _ _ => rfl, fun _ _ _ _ _ => rfl, fun _ _ _ _ _ => rfl, fun _ _ _ _ _ => rfl, fun _ _ _ _ _ => rfl, fun _ _ _ _ _ => rfl, fun _ _ _ _ _ _ => rfl, fun _ _ _ _ _ _ _ => rfl, fun _ _ _ _ _ _ => rfl, fun _ _ _ _ _ _ _ => rfl, fun _ _ _ _ _ _ _ => rfl⟩
noncomputable def Fy (f : Nat) : Bool := E0.hm f || (E0.ext f).isSome
theorem Xh {f : Nat} (h : Fy f = false) : E0.hm f = false := by
 unfold Fy at h
 simp only [Bool.or_eq_false_iff] at h
 exact h.1
theorem Ut {f : Nat} (h : Fy f = false) : E0.ext f = none := by
 unfold Fy at h
 simp only [Bool.or_eq_false_iff] at h
 simpa using h.2
theorem E8 {ty : Nat} {f : FuncId} {args vs : List AV} {t : AV} (hh : Fy f = false) (hv : args.mapM (Dn H 8) = some vs) (ht : Cy E0 n ty f vs = some t) :
  (PR n β).call ty (.fn f [] []) args H k = k (Bh An E0.tp H.length ty t).1 (H ++ (Bh An E0.tp H.length ty t).2) := by
 show J9 E0 (Dm E0 n) ty f ([] ++ args ++ []) H k = _
 simp only [J9, Ut hh, Xh hh, zah, zam, zan, if_false, Wf, hv, zab]
 have ht : P0 E0 (Dm E0 n) ty f vs = some t := ht
 rw [ht]
 rfl
theorem Acq {ty : Nat} {f : FuncId} {g : Nat → List AV → Option AV} {args vs : List AV} {t : AV} (hg : E0.ext f = some g) (hv : args.mapM (Dn H 8) = some vs) (ht : g ty vs = some t) :
  (PR n β).call ty (.fn f [] []) args H k = k (Bh An E0.tp H.length ty t).1 (H ++ (Bh An E0.tp H.length ty t).2) := by
 show J9 E0 (Dm E0 n) ty f ([] ++ args ++ []) H k = _
 simp only [J9, hg, zah, zam, Aac, hv, zab, ht]
 rfl
end
theorem Az (n ty : Nat) (f : FuncId) (args : List AV) : Cy E0 n ty f args = Dm E0 n AV f args [] fun x H => A0 An E0.tp ty H x := rfl
@[simp] theorem AiK {ti : Nat → Option TI} {tp : Nat → Option (List Nat)} (ty : Nat) (H : Aa) (v : Value) : A0 ti tp ty H (.sc v) = some (.sc v) := rfl
theorem Ft {ti : Nat → Option TI} {tp : Nat → Option (List Nat)} {H : Aa} {d ty id off n z : Nat} : Bx ti tp H (d + 1) ty (.sl id off n z) = (ti ty).bind fun i => (ti i.elem).bind fun j => if z = j.size then (if Fh H id then (Aw H id off (n * z)).bind fun cs => (Cc (Bx ti tp H d) (zad n j.cty).flatten cs).bind fun q => some (.ro n q.1, id :: q.2) else none) else none := rfl
theorem Ek {ti : Nat → Option TI} {tp : Nat → Option (List Nat)} {H : Aa} {d ty : Nat} {cs : List AV} : Bx ti tp H (d + 1) ty (.agg cs) = (ti ty).bind fun i => (Cc (Bx ti tp H d) i.cty cs).bind fun q => some (.agg q.1, q.2) := rfl
theorem F4 {ti : Nat → Option TI} {tp : Nat → Option (List Nat)} {H : Aa} {d ty : Nat} {cs : List AV} : Bx ti tp H (d + 1) ty (.tup cs) = (tp ty).bind fun ts => (Cc (Bx ti tp H d) ts cs).bind fun q => some (.tup q.1, q.2) := rfl
theorem Hf {ti : Nat → Option TI} {tp : Nat → Option (List Nat)} {H : Aa} {d ty : Nat} {v : Value} : Bx ti tp H (d + 1) ty (.sc v) = some (.sc v, []) := rfl
theorem G9 {ti : Nat → Option TI} {tp : Nat → Option (List Nat)} {n ty : Nat} {v : Value} : Bh ti tp n ty (.sc v) = (.sc v, []) := rfl
theorem Gi {ti : Nat → Option TI} {tp : Nat → Option (List Nat)} {n ty : Nat} {cs : List AV} : Bh ti tp n ty (.agg cs) = (.agg (Bu ti tp n ((ti ty).getD default).cty cs).1, (Bu ti tp n ((ti ty).getD default).cty cs).2) := rfl
theorem Pi {ti : Nat → Option TI} {tp : Nat → Option (List Nat)} {n ty : Nat} {cs : List AV} : Bh ti tp n ty (.tup cs) = (.tup (Bu ti tp n ((tp ty).getD []) cs).1, (Bu ti tp n ((tp ty).getD []) cs).2) := rfl
theorem O4 {H : Aa} {d id off n z : Nat} : Dn H (d + 1) (.sl id off n z) = (Aw H id off (n * z)).bind fun cs => (cs.mapM (Dn H d)).bind fun vs => some (.ro n vs) := rfl
theorem Nb {H : Aa} {d : Nat} {cs : List AV} : Dn H (d + 1) (.agg cs) = (cs.mapM (Dn H d)).bind fun vs => some (.agg vs) := rfl
theorem Aa0 {H : Aa} {d : Nat} : ∀ (l : List Value), (l.map AV.sc).mapM (Dn H (d + 1)) = some (l.map AV.sc)
 | [] => rfl
 | x :: l => by
  have e : Dn H (d + 1) (.sc x) = some (.sc x) := rfl
  simp only [za0, zaU, e, zbg, zaS, zab, Aa0 l]
theorem Vs {ti : Nat → Option TI} {tp : Nat → Option (List Nat)} {H : Aa} {d : Nat} : ∀ (ts : List Nat) (l : List Value), ts.length = l.length → Cc (Bx ti tp H (d + 1)) ts (l.map AV.sc) = some (l.map AV.sc, [])
 | [], [], _ => rfl
 | t :: ts, x :: l, h => by
  have e : Bx ti tp H (d + 1) t (.sc x) = some (.sc x, []) := rfl
  simp only [za0, Cc, e, zab, Vs ts l (by simpa using h), zam]
 | [], _ :: _, h => by simp at h
 | _ :: _, [], h => by simp at h
theorem Oe {ti : Nat → Option TI} {tp : Nat → Option (List Nat)} {n : Nat} : ∀ (ts : List Nat) (l : List Value), Bu ti tp n ts (l.map AV.sc) = (l.map AV.sc, [])
 | ts, [] => rfl
 | ts, x :: l => by
  simp only [za0, Bu, Bh, Oe _ l, zah]
def bv (s : ByteArray) : List Value := s.data.toList.map fun b => .int .u8 b.toNat
theorem Jn (s : ByteArray) : Bb s = (bv s).map AV.sc := by simp [Bb, bv]
theorem Ahs (s : ByteArray) : (bv s).length = s.size := by simp [bv]
theorem Ep (s : ByteArray) : (Bb s).length = s.size := by simp [Bb]
theorem U4 (s : ByteArray) : (Bb s).all Al = true := by
 simp only [Bb, List.all_map, zaE]
 intro b _
 rfl
theorem Ld : ∀ (l : List UInt8), (l.map fun b => AV.sc (.int .u8 (b.toNat : Int))).mapM Ma = some l
 | [] => rfl
 | b :: l => by
  have e : Ma (.sc (.int .u8 (b.toNat : Int))) = some b := by simp [Ma]
  simp only [za0, zaU, e, Ld l, zbg, zaS, zab]
end
section
open Go
section gen
variable {ti : Nat → Option TI} {tp : Nat → Option (List Nat)}
def El (f : Nat → AV → Prop) : List Nat → List AV → Prop
 | [], [] => True
 | t :: ts, x :: xs => f t x ∧ El f ts xs
 | _, _ => False
def Gp (ti : Nat → Option TI) (tp : Nat → Option (List Nat)) : Nat → Nat → AV → Prop
 | 0, _, _ => False
 | d + 1, ty, x =>
  match x with
  | .sc _ => True
  | .ro n cells => ∃ i j, ti ty = some i ∧ ti i.elem = some j ∧ cells.length = n * j.size ∧ El (Gp ti tp d) (zad n j.cty).flatten cells
  | .agg cs => ∃ i, ti ty = some i ∧ El (Gp ti tp d) i.cty cs
  | .tup cs => ∃ ts, tp ty = some ts ∧ El (Gp ti tp d) ts cs
  | _ => False
theorem W4 {f : Nat → AV → Prop} : ∀ {ts : List Nat} {cs : List AV}, El f ts cs → ts.length = cs.length
 | [], [], _ => rfl
 | _ :: ts, _ :: cs, h => by rw [zao, zao, W4 h.2]
theorem Gx {f : Nat → AV → Prop} : ∀ {ts : List Nat} {cs : List AV} {ts' : List Nat} {cs' : List AV}, El f ts cs → El f ts' cs' → El f (ts ++ ts') (cs ++ cs')
 | [], [], _, _, _, h => h
 | _ :: ts, _ :: cs, _, _, h, h' => ⟨h.1, Gx h.2 h'⟩
theorem M3 {α : Type} {f : Nat → AV → Prop} {cty : List Nat} {enc : α → List AV} : ∀ (l : List α), (∀ x ∈ l, El f cty (enc x)) → El f (zad l.length cty).flatten (l.map enc).flatten
 | [], _ => by simp [El]
 | x :: l, h => by
  rw [zao, List.replicate_succ, zaD, za0, zaD]
  exact Gx (h x za7) (M3 l fun y hy => h y (zax _ hy))
theorem Ig {H : Aa} {d : Nat} (hd : ∀ ty t N, Gp ti tp d ty t → Lies H N (Bh ti tp N ty t).2 → (∀ b ∈ (Bh ti tp N ty t).2, b.live = true ∧ b.app = true) → Bx ti tp H d ty (Bh ti tp N ty t).1 = some (t, zaW N (Bh ti tp N ty t).2.length)) :
  ∀ (ts : List Nat) (cs : List AV) (N : Nat), El (Gp ti tp d) ts cs → Lies H N (Bu ti tp N ts cs).2 → (∀ b ∈ (Bu ti tp N ts cs).2, b.live = true ∧ b.app = true) → Cc (Bx ti tp H d) ts (Bu ti tp N ts cs).1 = some (cs, zaW N (Bu ti tp N ts cs).2.length)
 | [], [], N, _, _, _ => rfl
 | t :: ts, x :: cs, N, h, hl, hb => by
  simp only [Bu, zb9, zbC] at hl hb ⊢
  have h1 := hd t x N h.1 hl.left fun b hb' => hb b (zat _ hb')
  have h2 := Ig hd ts cs _ h.2 hl.right fun b hb' => hb b (zaq _ hb')
  have e := List.range'_append (s := N) (m := (Bh ti tp N t x).2.length) (n := (Bu ti tp (N + (Bh ti tp N t x).2.length) ts cs).2.length) (step := 1)
  rw [zbv] at e
  simp only [Cc, h1, h2, zab, zae, e]
mutual
theorem AbQ : ∀ (x : AV) (N ty : Nat), ∀ b ∈ (Bh ti tp N ty x).2, b.live = true ∧ b.app = true
 | .sc v, N, ty => by intro b h; cases h
 | .ro n cells, N, ty => by
  intro b h
  simp only [Bh, zav] at h
  rcases h with rfl | h
  ·exact ⟨rfl, rfl⟩
  ·exact E3 cells _ _ b h
 | .agg cs, N, ty => fun b h => E3 cs _ _ b h
 | .tup cs, N, ty => fun b h => E3 cs _ _ b h
 | .any, N, ty => by intro b h; cases h
 | .nl, N, ty => by intro b h; cases h
 | .sl .., N, ty => by intro b h; cases h
 | .ptr .., N, ty => by intro b h; cases h
 | .rp .., N, ty => by intro b h; cases h
 | .fn .., N, ty => by intro b h; cases h
theorem E3 : ∀ (cs : List AV) (N : Nat) (ts : List Nat), ∀ b ∈ (Bu ti tp N ts cs).2, b.live = true ∧ b.app = true
 | [], N, ts => by intro b h; cases h
 | x :: cs, N, ts => by
  intro b h
  simp only [Bu, za9] at h
  rcases h with h | h
  ·exact AbQ x _ _ b h
  ·exact E3 cs _ _ b h
end
theorem Fu {H : Aa} : ∀ (d ty : Nat) (t : AV) (N : Nat), Gp ti tp d ty t → Lies H N (Bh ti tp N ty t).2 → Bx ti tp H d ty (Bh ti tp N ty t).1 = some (t, zaW N (Bh ti tp N ty t).2.length)
 | 0, _, _, _, h, _ => by cases h
 | d + 1, ty, t, N, h, hl => by
  have ih := Ig (H := H) (d := d) (ti := ti) (tp := tp) (fun ty t N h h' _ => Fu d ty t N h h')
  cases t with
  | sc v => rfl
  | ro n cells =>
   obtain ⟨i, j, h1, h2, h3, h4⟩ := h
   have e : Bh ti tp N ty (.ro n cells) = (.sl N 0 n j.size, ⟨(Bu ti tp (N + 1) (zad n j.cty).flatten cells).1, true, true⟩ :: (Bu ti tp (N + 1) (zad n j.cty).flatten cells).2) := by
    simp only [Bh, h1, zab, h2, za5]
   rw [e] at hl ⊢
   have hb := hl 0 _ rfl
   rw [zaZ] at hb
   have hv := ih (zad n j.cty).flatten cells (N + 1) h4 hl.tail (E3 _ _ _)
   have hlen := Jh (ti := ti) (tp := tp) (N + 1) (zad n j.cty).flatten cells
   have e2 : Aw H N 0 (n * j.size) = some (Bu ti tp (N + 1) (zad n j.cty).flatten cells).1 := by
    simp only [Aw, hb, if_true, za6, zaw]
    rw [if_pos (by rw [hlen, h3]; exact zai _), ← h3, ← hlen, za3]
   have e3 : Fh H N = true := by simp only [Fh, hb]
   rw [Ft]
   simp only [h1, h2, zab, if_true, e2, e3, hv, zao]
   rw [List.range'_succ]
  | agg cs =>
   obtain ⟨i, h1, h2⟩ := h
   have e : Bh ti tp N ty (.agg cs) = (.agg (Bu ti tp N i.cty cs).1, (Bu ti tp N i.cty cs).2) := by rw [Gi, h1]; rfl
   rw [e] at hl ⊢
   rw [Ek]
   simp only [h1, zab, ih i.cty cs N h2 hl (E3 _ _ _)]
  | tup cs =>
   obtain ⟨ts, h1, h2⟩ := h
   have e : Bh ti tp N ty (.tup cs) = (.tup (Bu ti tp N ts cs).1, (Bu ti tp N ts cs).2) := by rw [Pi, h1]; rfl
   rw [e] at hl ⊢
   rw [F4]
   simp only [h1, zab, ih ts cs N h2 hl (E3 _ _ _)]
  | _ => cases h
theorem K9 (A B X : List Gm) : Lies (A ++ B ++ X) A.length B := fun j b hj => by
 have hlt := (zac.1 hj).1
 rw [zaj, zaf (by omega), zbq, zag hlt]
 exact hj
theorem Jk (A B : List Gm) : Lies (A ++ B) A.length B := by
 have := K9 A B []
 rwa [zam] at this
theorem Ag1 (A : List Gm) (ty : Nat) (t : AV) (h : Gp ti tp 8 ty t) : A0 ti tp ty (A ++ (Bh ti tp A.length ty t).2) (Bh ti tp A.length ty t).1 = some t := by
 rw [A0, Fu 8 ty t A.length h (Jk _ _)]
 simp only [zab]
 rw [if_pos (zaP)]
def Vw (H : Aa) (x v : AV) : Prop := ∀ X : List Gm, Dn (H ++ X) 8 x = some v
theorem Vw.grow {H : Aa} {x v : AV} (h : Vw H x v) (X : List Gm) : Vw (H ++ X) x v := fun Y => by
 rw [zaj]
 exact h _
theorem Vw.now {H : Aa} {x v : AV} (h : Vw H x v) : Dn H 8 x = some v := by
 have := h []
 rwa [zam] at this
theorem Cv (H : Aa) (v : Value) : Vw H (.sc v) (.sc v) := fun _ => rfl
theorem Ff (H : Aa) (n : Nat) (cs : List AV) : Vw H (.ro n cs) (.ro n cs) := fun _ => rfl
def Ie : AV → Bool
 | .sc v => Kz v
 | .ro _ _ => true
 | _ => false
theorem Lm {cs : List AV} (h : cs.all Ie = true) : cs.all Al = true := by
 rw [zaE] at h ⊢
 intro x hx
 have := h x hx
 cases x <;> simp_all [Ie, Al]
theorem Ru {cs : List AV} (h : cs.all Ie = true) : Cq (.agg cs) = some cs := by
 show (if cs.all Al then some cs else none) = _
 rw [if_pos (Lm h)]
theorem Q3 {H : Aa} {d : Nat} : ∀ {cs : List AV}, cs.all Ie = true → cs.mapM (Dn H (d + 1)) = some cs
 | [], _ => rfl
 | x :: cs, h => by
  rw [zaT, zak] at h
  have e : Dn H (d + 1) x = some x := by
   have := h.1
   cases x <;> first | rfl | (exfalso; simp [Ie] at this)
  simp only [zaU, e, Q3 h.2, zbg, zaS, zab]
theorem E1 (H : Aa) {cs : List AV} (h : cs.all Ie = true) : Vw H (.agg cs) (.agg cs) := fun X => by
 rw [Nb, Q3 h]
 rfl
theorem Jp : ∀ (cs : List AV) (N : Nat) (ts : List Nat), cs.all Ie = true → (Bu ti tp N ts cs).1.all Al = true
 | [], _, _, _ => rfl
 | x :: cs, N, ts, h => by
  rw [zaT, zak] at h
  simp only [Bu, zaT, zak]
  refine ⟨?_, Jp cs _ _ h.2⟩
  have := h.1
  cases x <;> first | exact this | rfl | (exfalso; simp [Ie] at this)
end gen
section ops
variable {β : Type}
theorem Q4 (w len : Nat) (cells : List AV) (i : Nat) (k : AV → Option β) (h : i < len) (h2 : i * w < cells.length) : Eu w (.ro len cells) (.sc (.int .i64 i)) k = k (.rp (cells.drop (i * w))) := by
 simp only [Eu, Yb, zab, zbf]
 rw [if_pos ⟨by omega, by omega⟩, if_pos h2]
theorem Agc (w len id off : Nat) (i : Nat) (k : AV → Option β) (h : i < len) : Eu w (.sl id off len w) (.sc (.int .i64 i)) k = k (.ptr id (off + i * w)) := by
 simp only [Eu, Yb, zab, zbf, if_true]
 rw [if_pos ⟨by omega, by omega⟩]
theorem Qh (w : Nat) (cs r : List AV) (H : Aa) (k : AV → Option β) (h : cs.length = w) : Cx true w (.rp (cs ++ r)) H k = k (.agg cs) := by
 simp only [Cx, zae, h, Nat.le_add_right, if_true, List.take_left' h]
theorem Nr (c : AV) (r : List AV) (H : Aa) (k : AV → Option β) : Cx false 1 (.rp (c :: r)) H k = k c := by
 simp only [Cx, zao, Nat.le_add_left, if_true, zan, if_false]
 rfl
theorem Fv (w id off : Nat) (y : AV) (b : Gm) (cs : List AV) (H : Aa) (k : Aa → Option β) (h : H[id]? = some b) (hc : Cq y = some cs) (hl : cs.length = w) (ho : off + w ≤ b.cells.length) (hb : b.live = true) : D5 w (.ptr id off) y H k = k (H.set id { b with cells := Cd b.cells off cs }) := by
 simp only [D5, h, hc, zab, hb, if_true, hl, ho]
theorem Eb (a b : Nat) (k : AV → Option β) : E4 .lss (.sc (.int .i64 a)) (.sc (.int .i64 b)) k = k (.sc (.bool (decide (a < b)))) := by
 show k (.sc (.bool (decide ((a : Int) < (b : Int))))) = _
 rw [show decide ((a : Int) < (b : Int)) = decide (a < b) from by simp]
theorem Fc (a : Nat) (k : AV → Option β) (h : a < 9223372036854775807) : E4 .add (.sc (.int .i64 a)) (.sc (.int .i64 1)) k = k (.sc (.int .i64 (a + 1 : Nat))) := by
 show k (.sc (.int .i64 (IntKind.i64.wrap ((a : Int) + 1)))) = _
 have e : IntKind.i64.wrap ((a : Int) + 1) = ((a + 1 : Nat) : Int) := by
  rw [IntKind.wrap_i64, Int.natCast_add]
  simp only [Int.cast_ofNat_Int]
  omega
 rw [e]
theorem D4 (b : Bool) (x y : Option β) : Gz (.sc (.bool b)) x y = if b then x else y := rfl
theorem Mk (n : Nat) (cs : List AV) (k : AV → Option β) : Ou (.ro n cs) k = k (.sc (.int .i64 n)) := rfl
theorem Fl (n : Int) (h0 : -9223372036854775808 ≤ n) (h1 : n ≤ 9223372036854775807) : IntKind.i64.wrap n = n := by
 rw [IntKind.wrap_i64]; omega
theorem Qr (a b : Int) (k : AV → Option β) (h0 : -9223372036854775808 ≤ a - b) (h1 : a - b ≤ 9223372036854775807) : E4 .sub (.sc (.int .i64 a)) (.sc (.int .i64 b)) k = k (.sc (.int .i64 (a - b))) := by
 show k (.sc (.int .i64 (IntKind.i64.wrap (a - b)))) = _
 rw [Fl _ h0 h1]
theorem Aay (a b : Int) (k : AV → Option β) : E4 .lss (.sc (.int .i64 a)) (.sc (.int .i64 b)) k = k (.sc (.bool (decide (a < b)))) := rfl
theorem T2 {α : Type} {w : Nat} {enc : α → List AV} (hw : ∀ x, (enc x).length = w) (pre r : List α) : ((pre ++ r).map enc).flatten.drop (pre.length * w) = (r.map enc).flatten := by
 have hl : ((pre.map enc).flatten).length = pre.length * w := by
  induction pre with
  | nil => simp
  | cons x pre ih => rw [za0, zaD, zae, ih, hw, zao, zbG, zbD]
 rw [zaA, za1, zbn (by omega), ← hl, List.drop_length, zah]
theorem Fj {α : Type} {w : Nat} {enc : α → List AV} (hw : ∀ x, (enc x).length = w) (l : List α) : ((l.map enc).flatten).length = l.length * w := by
 induction l with
 | nil => simp
 | cons x l ih => rw [za0, zaD, zae, ih, hw, zao, zbG, zbD]
theorem L0 {α : Type} {w : Nat} {enc : α → List AV} (hw : ∀ x, (enc x).length = w) (h0 : 0 < w) (pre : List α) (x : α) (r : List α) (k : AV → Option β) :
  Eu w (.ro (pre ++ x :: r).length ((pre ++ x :: r).map enc).flatten) (.sc (.int .i64 pre.length)) k = k (.rp (enc x ++ (r.map enc).flatten)) := by
 have hl := Fj hw (pre ++ x :: r)
 have h1 : pre.length < (pre ++ x :: r).length := by simp
 rw [Q4 w _ _ pre.length k h1 (by rw [hl]; exact Nat.mul_lt_mul_of_pos_right h1 h0), T2 hw pre (x :: r), za0, zaD]
theorem Agt (a b : Nat) (k : AV → Option β) : E4 .neq (.sc (.int .i64 a)) (.sc (.int .i64 b)) k = k (.sc (.bool (decide (a ≠ b)))) := by
 show k (.sc (.bool ((a : Int) != (b : Int)))) = _
 congr 3
 by_cases h : a = b
 ·subst h; simp
 ·simp [bne, h]; omega
def Fp {α : Type} (wt : α → Nat) : List α → Nat
 | [] => 0
 | x :: l => 1 + wt x + Fp wt l
def wtS {α : Type} (wt : α → Nat) : List α → Nat
 | [] => 0
 | x :: l => wt x + wtS wt l
theorem Ks {α : Type} (wt : α → Nat) : ∀ l : List α, Fp wt l = l.length + wtS wt l
 | [] => rfl
 | x :: l => by rw [Fp, wtS, Ks wt l, zao]; omega
theorem O6 {α : Type} {wt : α → Nat} : ∀ {l : List α} {x : α}, x ∈ l → wt x ≤ wtS wt l
 | y :: l, x, h => by
  rw [wtS]
  rcases zav.1 h with rfl | h
  ·omega
  ·have := O6 (wt := wt) h
   omega
end ops
end
section
open Go
variable {β : Type} {n : Nat}
theorem Lc (cs : List AV) (H : Aa) (k : KO β) (h : cs.all Ie = true) : Or (.agg cs) H k = k (.ptr H.length 0) (H ++ [⟨cs, true, true⟩]) := by
 rw [Or, Ru h]
 rfl
theorem ldT {m id off : Nat} {H : Aa} {cs : List AV} (h : Aw H id off m = some cs) (k : AV → Option β) : Cx true m (.ptr id off) H k = k (.agg cs) := by
 simp only [Cx, h, zab, if_true]
theorem ldF {id off : Nat} {H : Aa} {c : AV} (h : Aw H id off 1 = some [c]) (k : AV → Option β) : Cx false 1 (.ptr id off) H k = k c := by
 simp only [Cx, h, zab, zan, if_false, one]
abbrev Bj (s : ByteArray) : AV := .ro s.size (Bb s)
abbrev Dr (l : List Int) : AV := .ro l.length (l.map fun z => .sc (.int .i64 z))
abbrev Mt (l : List ByteArray) : AV := .ro l.length (l.map fun s => .sc (.string s))
abbrev Aj {α : Type} (enc : α → List AV) (l : List α) : AV := .ro l.length (l.map enc).flatten
def Do (z : Int) : Prop := -9223372036854775808 ≤ z ∧ z ≤ 9223372036854775807
def Hz (s : ByteArray) : Prop := s.size ≤ 9223372036854775807
theorem Uj {f : Nat → AV → Prop} {α : Type} (e : α → Value) (hf : ∀ t v, f t (.sc v)) : ∀ (ts : List Nat) (l : List α), ts.length = l.length → El f ts (l.map fun x => .sc (e x))
 | [], [], _ => trivial
 | t :: ts, x :: l, h => ⟨hf _ _, Uj e hf ts l (by simpa using h)⟩
 | [], _ :: _, h => by simp at h
 | _ :: _, [], h => by simp at h
theorem Si {α : Type} {ty d : Nat} (e : α → Value) (hty : ∃ i j, An ty = some i ∧ An i.elem = some j ∧ j.size = 1 ∧ j.cty.length = 1) (l : List α) : Gp An E0.tp (d + 2) ty (.ro l.length (l.map fun x => .sc (e x))) := by
 obtain ⟨i, j, h1, h2, h3, h4⟩ := hty
 exact ⟨i, j, h1, h2, by simp [h3], Uj e (fun _ _ => trivial) _ l (by simp [h4])⟩
theorem Pp {d ty : Nat} (hty : ∃ i j, An ty = some i ∧ An i.elem = some j ∧ j.size = 1 ∧ j.cty.length = 1) (s : ByteArray) : Gp An E0.tp (d + 2) ty (Bj s) := by
 have := Si (d := d) (fun b : UInt8 => .int .u8 b.toNat) hty s.data.toList
 have e : s.data.toList.length = s.size := by simp
 rw [e] at this
 exact this
theorem Gy {α : Type} {ty d w : Nat} {cty : List Nat} {enc : α → List AV} (hw : ∀ x, (enc x).length = w) (hty : ∃ i j, An ty = some i ∧ An i.elem = some j ∧ j.size = w ∧ j.cty = cty) (he : ∀ x, El (Gp An E0.tp d) cty (enc x)) (l : List α) : Gp An E0.tp (d + 1) ty (Aj enc l) := by
 obtain ⟨i, j, h1, h2, h3, rfl⟩ := hty
 exact ⟨i, j, h1, h2, by rw [Fj hw, h3], M3 l fun x _ => he x⟩
theorem Ae1 {α : Type} {enc : α → List AV} {ok : α → Prop} {n t e : Nat} {cs : List AV} (hi : ∃ i, An t = some i ∧ i.isB = false ∧ i.ik = none ∧ i.isStr = false ∧ i.sl = true ∧ i.elem = e) (hel : ∀ n cs, okT An n e cs → ∃ x, cs = enc x ∧ ok x) (h : okT An n t cs) :
  ∃ l : List α, cs = [Aj enc l] ∧ l.length ≤ 9223372036854775807 ∧ ∀ x ∈ l, ok x := by
 cases n with
 | zero => cases h
 | succ n =>
  obtain ⟨i, h1, h2, h3, h4, h5, rfl⟩ := hi
  obtain ⟨i', hi', h⟩ := h
  rw [h1] at hi'
  obtain rfl := Option.some.inj hi'
  simp only [h2, h3, h4, h5] at h
  obtain ⟨rows, rfl, hl, hr⟩ := h
  have hm : maxLen = 9223372036854775807 := by decide
  rw [hm] at hl
  have key : ∀ rows : List (List AV), (∀ r ∈ rows, okT An n i.elem r) → ∃ l : List α, rows = l.map enc ∧ ∀ x ∈ l, ok x := by
   intro rows
   induction rows with
   | nil => intro _; exact ⟨[], rfl, fun x h => by cases h⟩
   | cons r rows ih =>
    intro h
    obtain ⟨l, h1, h2⟩ := ih fun r hr => h r (zax _ hr)
    obtain ⟨x, hx, hox⟩ := hel n r (h r za7)
    exact ⟨x :: l, by rw [h1, hx]; rfl, fun y hy => by rcases zav.1 hy with rfl | hy; exact hox; exact h2 y hy⟩
  obtain ⟨l, rfl, h2⟩ := key rows hr
  exact ⟨l, by simp, by simpa using hl, h2⟩
theorem AbX {n : Nat} {cs : List AV} (h : okT An n 5 cs) : ∃ b : UInt8, cs = [.sc (.int .u8 b.toNat)] := by
 cases n with
 | zero => cases h
 | succ n =>
  obtain ⟨i, hi, h⟩ := h
  obtain rfl := Option.some.inj (show some _ = some i from hi)
  obtain ⟨z, rfl, hw⟩ := (show ∃ z, cs = [.sc (.int .u8 z)] ∧ (Lit.int .u8 z).wf = true from h)
  have hz : 0 ≤ z ∧ z < 256 := by
   have hw' : IntKind.u8.min ≤ z ∧ z ≤ IntKind.u8.max := by simpa [Lit.wf] using hw
   have e1 : IntKind.u8.min = 0 := by decide
   have e2 : IntKind.u8.max = 255 := by decide
   rw [e1, e2] at hw'
   omega
  refine ⟨UInt8.ofNat z.toNat, ?_⟩
  have : (UInt8.ofNat z.toNat).toNat = z.toNat := by simp [UInt8.toNat_ofNat']; omega
  rw [this, Int.toNat_of_nonneg hz.1]
theorem N8 {α : Type} (e : α → AV) (l : List α) : (l.map fun x => [e x]).flatten = l.map e := by
 induction l with
 | nil => rfl
 | cons x l ih => rw [za0, zaD, ih]; rfl
theorem Zp {n t : Nat} {cs : List AV} (hi : ∃ i, An t = some i ∧ i.isB = false ∧ i.ik = none ∧ i.isStr = false ∧ i.sl = true ∧ i.elem = 5) (h : okT An n t cs) : ∃ s : ByteArray, cs = [Bj s] ∧ Hz s := by
 obtain ⟨l, rfl, h1, _⟩ := Ae1 (α := UInt8) (enc := fun b => [.sc (.int .u8 b.toNat)]) (ok := fun _ => True) hi (fun n cs h => by obtain ⟨b, h⟩ := AbX h; exact ⟨b, h, trivial⟩) h
 refine ⟨⟨l.toArray⟩, ?_, ?_⟩
 ·rw [Aj, N8]
  simp [Bj, Bb]
  rfl
 ·exact h1
end
section
open Go
variable {β : Type} {n : Nat} {H : Aa} {r : Option β}
theorem Dl : ([] : List AV).mapM (Dn H 8) = some [] := rfl
theorem A6 {x v : AV} {xs vs : List AV} (h : Vw H x v) (hs : xs.mapM (Dn H 8) = some vs) : (x :: xs).mapM (Dn H 8) = some (v :: vs) := by
 simp only [zaU, h.now, hs, zbg, zaS, zab]
theorem Ir {i : Nat} {b : Gm} (h : H[i]? = some b) (X : List Gm) : (H ++ X)[i]? = some b := by
 rw [zag (zac.1 h).1]
 exact h
theorem Ok {i w : Nat} {cs : List AV} {K : AV → Option β} (hi : H[i]? = some ⟨cs, true, true⟩) (hw : cs.length = w) (h : K (.agg cs) = r) : Cx true w (.ptr i 0) H (fun x => K x) = r := by
 have e : Aw H i 0 w = some cs := by
  simp only [Aw, hi, if_true, za6, zaw, ← hw, zai, za3]
 rw [ldT e]
 exact h
theorem De {ty f : Nat} {args vs : List AV} {v : Value} {K : KO β} (hh : Fy f = false) (hv : args.mapM (Dn H 8) = some vs) (ht : Cy E0 n ty f vs = some (.sc v)) (h : K (.sc v) H = r) : (PR n β).call ty (.fn f [] []) args H (fun x H => K x H) = r := by
 rw [E8 hh hv ht, G9, zam]
 exact h
theorem Pm {w : Nat} {z ys : List AV} {K : KO β} (hz : z.length = w) (hy : ys.length = w) (hl : ys.all Al = true) (h : ∀ i, (H ++ [⟨ys, true, true⟩])[i]? = some ⟨ys, true, true⟩ → K (.ptr i 0) (H ++ [⟨ys, true, true⟩]) = r) :
  Iw z H (fun t H => D5 w t (.agg ys) H fun H => K t H) = r := by
 have hg : (H ++ [(⟨z, true, true⟩ : Gm)])[H.length]? = some ⟨z, true, true⟩ := by rw [zaf (zai _), zaI]; rfl
 have hc : Cq (.agg ys) = some ys := by
  show (if ys.all Al then some ys else none) = _
  rw [if_pos hl]
 show D5 w (.ptr H.length 0) (.agg ys) (H ++ [⟨z, true, true⟩]) _ = r
 rw [Fv w H.length 0 _ ⟨z, true, true⟩ ys _ _ hg hc hy (by rw [hz]; omega) rfl]
 have hs : Cd z 0 ys = ys := by
  unfold Cd
  rw [zbF, zah, zaX (by rw [hz, hy]; omega), zam]
 have e : (H ++ [(⟨z, true, true⟩ : Gm)]).set H.length ⟨ys, true, true⟩ = H ++ [⟨ys, true, true⟩] := by
  rw [List.set_append_right _ _ (zai _), zaI]
  rfl
 simp only [hs, e]
 exact h _ (by rw [zaf (zai _), zaI]; rfl)
theorem Ac6 (a b : Int) (k : AV → Option β) : E4 .eql (.sc (.int .i64 a)) (.sc (.int .i64 b)) k = k (.sc (.bool (a == b))) := rfl
theorem Ue (a b : Int) (k : AV → Option β) : E4 .leq (.sc (.int .i64 a)) (.sc (.int .i64 b)) k = k (.sc (.bool (decide (a ≤ b)))) := rfl
theorem Aka (a b : Int) (k : AV → Option β) : E4 .gtr (.sc (.int .i64 a)) (.sc (.int .i64 b)) k = k (.sc (.bool (decide (a > b)))) := rfl
theorem Rb (a b : Int) (k : AV → Option β) : E4 .add (.sc (.int .i64 a)) (.sc (.int .i64 b)) k = k (.sc (.int .i64 (IntKind.i64.wrap (a + b)))) := rfl
theorem Aki (a b : Int) (k : AV → Option β) : E4 .mul (.sc (.int .i64 a)) (.sc (.int .i64 b)) k = k (.sc (.int .i64 (IntKind.i64.wrap (a * b)))) := rfl
theorem AkH (a : Bool) (k : AV → Option β) : pUn .not (.sc (.bool a)) k = k (.sc (.bool (!a))) := rfl
theorem Sc (s : ByteArray) (k : AV → Option β) : Us (.sc (.string s)) k = k (.sc (.int .i64 s.size)) := rfl
end
section
open Go
section
variable {β : Type} {n : Nat} {H : Aa} {r : Option β} {K : AV → Option β} {KH : KO β}
theorem Jv {cs : List AV} (hf : cs.all Ie = true) (h : ∀ i, i = H.length → (H ++ [⟨cs, true, true⟩])[i]? = some ⟨cs, true, true⟩ → KH (.ptr i 0) (H ++ [⟨cs, true, true⟩]) = r) : Or (.agg cs) H (fun x H => KH x H) = r := by
 rw [Lc cs H _ hf]
 exact h _ rfl (by rw [zaf (zai _), zaI]; rfl)
theorem Nv {zs cs : List AV} {ps : List (Nat × Nat × AV)} {KL : List AV → Option β} (hf : Er zs ps = some cs) (h : KL cs = r) : ((Er zs ps).bind fun c => KL c) = r := by
 rw [hf]
 exact h
theorem Ai {o id off : Nat} (h : K (.ptr id (off + o)) = r) : Ef o (.ptr id off) (fun x => K x) = r := h
theorem Hs {o : Nat} {cells : List AV} (h : K (.rp (cells.drop o)) = r) : Ef o (.rp cells) (fun x => K x) = r := h
theorem Bo {i off : Nat} {cs : List AV} {c : AV} (hi : H[i]? = some ⟨cs, true, true⟩) (hl : off < cs.length) (hc : (cs.drop off).take 1 = [c]) (h : K c = r) : Cx false 1 (.ptr i off) H (fun x => K x) = r := by
 have e : Aw H i off 1 = some [c] := by
  simp only [Aw, hi, if_true]
  rw [if_pos (by omega), hc]
 rw [ldF e]
 exact h
theorem F6 {i off w : Nat} {cs ds : List AV} (hi : H[i]? = some ⟨cs, true, true⟩) (hl : off + w ≤ cs.length) (hc : (cs.drop off).take w = ds) (h : K (.agg ds) = r) : Cx true w (.ptr i off) H (fun x => K x) = r := by
 have e : Aw H i off w = some ds := by
  simp only [Aw, hi, if_true]
  rw [if_pos hl, hc]
 rw [ldT e]
 exact h
theorem Hj {cells : List AV} {c : AV} (hc : cells.take 1 = [c]) (h : K c = r) : Cx false 1 (.rp cells) H (fun x => K x) = r := by
 cases cells with
 | nil => cases hc
 | cons x xs =>
  obtain rfl : x = c := by simpa using hc
  rw [Nr]
  exact h
theorem Jz {w : Nat} {cells ds : List AV} (hl : w ≤ cells.length) (hc : cells.take w = ds) (h : K (.agg ds) = r) : Cx true w (.rp cells) H (fun x => K x) = r := by
 simp only [Cx, hl, if_true, hc]
 exact h
theorem Av {op : BinOp} {x y v : AV} (e : ∀ k : AV → Option β, E4 op x y k = k v) (h : K v = r) : E4 op x y (fun t => K t) = r := (e _).trans h
theorem Kq {op : BinOp} {x y v : AV} (e : ∀ k : AV → Option β, So op x y k = k v) (h : K v = r) : So op x y (fun t => K t) = r := (e _).trans h
theorem Gg {b : Bool} (h : K (.sc (.bool (!b))) = r) : pUn .not (.sc (.bool b)) (fun t => K t) = r := h
theorem AeU {s : ByteArray} (h : K (.sc (.int .i64 s.size)) = r) : Us (.sc (.string s)) (fun t => K t) = r := h
theorem Dh {m : Nat} {cs : List AV} (h : K (.sc (.int .i64 m)) = r) : Ou (.ro m cs) (fun t => K t) = r := h
theorem Ad {g : Prop} (b : Bool) (ht : b = true → g) (hf : b = false → g) : g := by
 cases h : b
 ·exact hf h
 ·exact ht h
theorem Ey {b : Bool} {x y : Option β} (hb : b = true) (h : x = r) : Gz (.sc (.bool b)) x y = r := by subst hb; exact h
theorem E7 {b : Bool} {x y : Option β} (hb : b = false) (h : y = r) : Gz (.sc (.bool b)) x y = r := by subst hb; exact h
theorem Ao {b : Bool} {m : (KO β) → Option β} (hb : b = true) (h : m (fun x H => KH x H) = r) : Hn (.sc (.bool b)) true H m (fun x H => KH x H) = r := by subst hb; exact h
theorem Ap {b : Bool} {m : (KO β) → Option β} (hb : b = false) (h : KH (.sc undef) H = r) : Hn (.sc (.bool b)) true H m (fun x H => KH x H) = r := by subst hb; exact h
theorem Cz {b : Bool} {m : (KO β) → Option β} (hb : b = false) (h : m (fun x H => KH x H) = r) : Hn (.sc (.bool b)) false H m (fun x H => KH x H) = r := by subst hb; exact h
theorem C5 {b : Bool} {m : (KO β) → Option β} (hb : b = true) (h : KH (.sc undef) H = r) : Hn (.sc (.bool b)) false H m (fun x H => KH x H) = r := by subst hb; exact h
theorem P3 {t : Bool} {m : (KO β) → Option β} (h : KH (.sc undef) H = r) : Hn (.sc undef) t H m (fun x H => KH x H) = r := h
theorem P2 {b : Bool} {x y : AV} (hb : b = true) (h : K x = r) : Nf (.sc (.bool b)) x y (fun t => K t) = r := by
 subst hb
 cases x <;> cases y <;> exact h
theorem Q0 {b : Bool} {x y : AV} (hb : b = false) (h : K y = r) : Nf (.sc (.bool b)) x y (fun t => K t) = r := by
 subst hb
 cases x <;> cases y <;> exact h
def Hk {α : Type} (p : α → α → Bool) : List α → List α → Bool
 | x :: a, y :: b => if p x y then Hk p a b else false
 | _, _ => true
theorem Ny {α : Type} {w : Nat} (enc : α → List AV) (hw : ∀ x, (enc x).length = w) (h0 : 0 < w) (pk : α → AV) (LOAD : AV → (AV → Option β) → Option β) (hld : ∀ x rest k, LOAD (.rp (enc x ++ rest)) k = k (pk x)) (NE : AV → AV → (AV → Option β) → Option β) (pr : α → α → Bool) (hne : ∀ x y k, NE (pk x) (pk y) k = k (.sc (.bool (!(pr x y)))))
  (l q : List α) (hlq : l.length = q.length) (hlen : l.length ≤ 1048576) (L : Nat → AV → Option β) (KF KT : Option β)
  (hL : ∀ m i, L (m + 1) i = E4 .lss i (.sc (.int .i64 l.length)) fun t14 => Gz t14 (Eu w (Aj enc l) i fun t19 => LOAD t19 fun t20 => Eu w (Aj enc q) i fun t23 => LOAD t23 fun t24 => NE t20 t24 fun t25 => Gz t25 KF (E4 .add i (.sc (.int .i64 1)) fun t16 => L m t16)) KT) :
  ∀ (s t pl pq : List α) (m : Nat), l = pl ++ s → q = pq ++ t → pl.length = pq.length → s.length < m → L m (.sc (.int .i64 pl.length)) = if Hk pr s t then KT else KF
 | [], t, pl, pq, m + 1, hl, hq, hpp, hm => by
  rw [zam] at hl
  subst hl
  rw [hL, Eb, D4]
  cases t <;> simp [Hk]
 | x :: s, [], pl, pq, m + 1, hl, hq, hpp, hm => by
  have h1 := congrArg List.length hl
  have h2 := congrArg List.length hq
  simp only [zae, zao, zar] at h1 h2
  omega
 | x :: s, y :: t, pl, pq, m + 1, hl, hq, hpp, hm => by
  have hlt : pl.length < l.length := by rw [hl]; simp
  rw [hL, Eb, D4, if_pos (by simpa using hlt)]
  have hel := fun k => L0 (β := β) hw h0 pl x s k
  rw [← hl] at hel
  have heq := fun k => L0 (β := β) hw h0 pq y t k
  rw [← hq, ← hpp] at heq
  rw [hel, hld, heq, hld, hne, D4, Hk]
  cases hpx : pr x y
  ·simp
  ·simp only [Bool.not_true, zan, if_false, if_true]
   rw [Fc _ _ (by omega)]
   have ih := Ny enc hw h0 pk LOAD hld NE pr hne l q hlq hlen L KF KT hL s t (pl ++ [x]) (pq ++ [y]) m (by rw [hl]; simp) (by rw [hq]; simp) (by simp [hpp]) (by simpa using hm)
   rw [zae, zal] at ih
   exact ih
def Qt (z : Int) : List AV := [.sc (.int .i64 z)]
def AaY (s : ByteArray) : List AV := [.sc (.string s)]
theorem Ji (l : List Int) : Dr l = Aj Qt l := by
 rw [Aj, show (Qt) = fun z => [AV.sc (.int .i64 z)] from rfl, N8]
theorem U0 (l : List ByteArray) : Mt l = Aj AaY l := by
 rw [Aj, show (AaY) = fun z => [AV.sc (.string z)] from rfl, N8]
theorem ldI (z : Int) (rest : List AV) (H : Aa) (k : AV → Option β) : Cx false 1 (.rp (Qt z ++ rest)) H k = k (.sc (.int .i64 z)) := Nr _ _ _ _
theorem ldS (z : ByteArray) (rest : List AV) (H : Aa) (k : AV → Option β) : Cx false 1 (.rp (AaY z ++ rest)) H k = k (.sc (.string z)) := Nr _ _ _ _
def eqI (x y : Int) : Bool := x == y
def U7 (x y : ByteArray) : Bool := x.toList == y.toList
def Pb {α : Type} (p : α → α → Bool) (a b : List α) : Bool := if a.length = b.length then Hk p a b else false
theorem neI (x y : Int) (k : AV → Option β) : E4 .neq (.sc (.int .i64 x)) (.sc (.int .i64 y)) k = k (.sc (.bool (!(eqI x y)))) := rfl
theorem neS (x y : ByteArray) (k : AV → Option β) : E4 .neq (.sc (.string x)) (.sc (.string y)) k = k (.sc (.bool (!(U7 x y)))) := rfl
theorem Afb (qs : List Nat) (cs ds : List AV) (b : Bool) (h : Kb qs cs ds = some b) (k : AV → Option β) : Oo .neq qs (.agg cs) (.agg ds) k = k (.sc (.bool (!b))) := by
 simp only [Oo, h, zab]
theorem A3 {X : Option β} (e : Bool) {K : Bool → Option β} (h1 : ∀ b, b = e → X = K b) (h2 : ∀ b, b = e → K b = r) : X = r := (h1 e rfl).trans (h2 e rfl)
theorem Ca {c v b : Bool} {y : AV} (hc : c = true) (hv : v = b) (h : K (.sc (.bool b)) = r) : Nf (.sc (.bool c)) (.sc (.bool v)) y (fun t => K t) = r := by
 subst hc
 subst hv
 cases y <;> exact h
theorem B9 {c v b : Bool} {x : AV} (hc : c = false) (hv : v = b) (h : K (.sc (.bool b)) = r) : Nf (.sc (.bool c)) x (.sc (.bool v)) (fun t => K t) = r := by
 subst hc
 subst hv
 cases x <;> exact h
theorem He {b c v : Bool} (hb : b = (c && v)) (h : c = true) : v = b := by rw [hb, h]; rfl
theorem Hd {b c v : Bool} (hb : b = (c && v)) (h : c = false) : false = b := by rw [hb, h]; rfl
theorem mOT {b c v : Bool} (hb : b = (c || v)) (h : c = true) : true = b := by rw [hb, h]; rfl
theorem mOF {b c v : Bool} (hb : b = (c || v)) (h : c = false) : v = b := by rw [hb, h]; rfl
theorem Z4 {α : Sort _} {γ : Type} {x : α} {f : α → Option γ} {r : Option γ} (h : f x = r) : Ns x f = r := h
theorem Dp {ty : Nat} {b b' : Bool} (h : b = b') : A0 An E0.tp ty H (.sc (.bool b)) = some (.sc (.bool b')) := by subst h; rfl
theorem AgJ {α : Type} {w : Nat} {enc : α → List AV} {l : List α} (hw : ∀ x, (enc x).length = w) (h0 : 0 < w) (hl : 0 < l.length) (h : ∀ x t, l = x :: t → K (.rp (enc x ++ (t.map enc).flatten)) = r) : Eu w (Aj enc l) (.sc (.int .i64 0)) (fun t => K t) = r := by
 cases l with
 | nil => simp at hl
 | cons x t =>
  have := L0 (β := β) hw h0 [] x t (fun t => K t)
  simp only [zah, zar, zbe] at this
  rw [this]
  exact h x t rfl
theorem V5 {ty : Nat} {f : FuncId} {caps args vs : List AV} {t : AV} {k : KO β} (hh : Fy f = false) (hv : (args ++ caps).mapM (Dn H 8) = some vs) (ht : Cy E0 n ty f vs = some t) :
  (PR n β).call ty (.fn f [] caps) args H k = k (Bh An E0.tp H.length ty t).1 (H ++ (Bh An E0.tp H.length ty t).2) := by
 show J9 E0 (Dm E0 n) ty f ([] ++ args ++ caps) H k = _
 simp only [J9, Ut hh, Xh hh, zah, zan, if_false, Wf, hv, zab]
 have ht : P0 E0 (Dm E0 n) ty f vs = some t := ht
 rw [ht]
 rfl
def Ja {α : Type} (p : α → Bool) : List α → Nat → Int
 | [], _ => -1
 | x :: l, i => if p x then i else Ja p l (i + 1)
theorem R3 {α : Type} {tb g w : Nat} {caps : List AV} (enc : α → List AV) (pr : α → Bool) (k : KO β) (hw : ∀ x, (enc x).length = w) (h0 : 0 < w) (hfl : ∀ x, (enc x).all Ie = true) (hh : Fy g = false) (hcv : ∀ H, caps.mapM (Dn H 8) = some caps) (L : Nat → AV → AV → AV → KO β)
  (hL : ∀ m a b c i H, L (m + 1) a b c i H = E4 .lss i c fun t9 => Gz t9 (Eu w a i fun t14 => Cx true w t14 H fun t15 => (PR n β).call tb b [t15] H fun t16 H => Gz t16 (k i H) (E4 .add i (.sc (.int .i64 1)) fun t18 => L m a b c t18 H)) (k (.sc (.int .i64 (-1))) H))
  (l : List α) (hp : ∀ x ∈ l, Cy E0 n tb g (.agg (enc x) :: caps) = some (.sc (.bool (pr x)))) (hlen : l.length ≤ 1048576) (H : Aa) : ∀ (t pre : List α) (m : Nat), l = pre ++ t → t.length < m →
   L m (Aj enc l) (.fn g [] caps) (.sc (.int .i64 l.length)) (.sc (.int .i64 pre.length)) H = k (.sc (.int .i64 (Ja pr t pre.length))) H
 | [], pre, m + 1, hl, hm => by
  rw [zam] at hl
  subst hl
  rw [hL, Eb, D4]
  simp [Ja]
 | x :: t, pre, m + 1, hl, hm => by
  have hlt : pre.length < l.length := by rw [hl]; simp
  rw [hL, Eb, D4, if_pos (by simpa using hlt)]
  have hel := fun k => L0 (β := β) hw h0 pre x t k
  rw [← hl] at hel
  rw [hel, Qh w _ _ _ _ (hw x)]
  rw [V5 (vs := .agg (enc x) :: caps) hh (by simp only [zau, zah, zaU, (E1 _ (hfl x)).now, hcv]; rfl) (hp x (by rw [hl]; simp)), G9, zam]
  simp only
  rw [D4, Ja]
  cases hpx : pr x
  ·simp only [zan, if_false]
   rw [Fc _ _ (by omega)]
   have ih := R3 enc pr k hw h0 hfl hh hcv L hL l hp hlen H t (pre ++ [x]) m (by rw [hl]; simp) (by simpa using hm)
   rw [zae, zal] at ih
   exact ih
  ·simp only [if_true]
theorem Ahr {i g : Nat} {cs : List AV} (hi : H[i]? = some ⟨cs, true, true⟩) (hfl : cs.all Ie = true) : Vw H (.fn g [] [.ptr i 0]) (.fn g [] [.rp cs]) := fun X => by
 have hg : (H ++ X)[i]? = some ⟨cs, true, true⟩ := Ir hi X
 have hr : Aw (H ++ X) i 0 (cs.length - 0) = some cs := by
  simp only [Aw, hg, if_true, Nat.sub_zero, zaw, zai, za6, za3]
 have hp : Dn (H ++ X) 7 (.ptr i 0) = some (.rp cs) := by
  show ((H ++ X)[i]?).bind (fun b => (Aw (H ++ X) i 0 (b.cells.length - 0)).bind fun cs => (cs.mapM (Dn (H ++ X) 6)).bind fun vs => some (AV.rp vs)) = _
  rw [hg, zab]
  show (Aw (H ++ X) i 0 (cs.length - 0)).bind _ = _
  rw [hr, zab, Q3 hfl]
  rfl
 show (([] : List AV).mapM (Dn (H ++ X) 7)).bind (fun us => ([AV.ptr i 0].mapM (Dn (H ++ X) 7)).bind fun cs => some (AV.fn g us cs)) = _
 simp only [zaU, List.mapM_nil, hp, zbg, zaS, zab]
theorem AiS {v : Value} (hv : Kz v = true) (h : ∀ i, i = H.length → (H ++ [⟨[.sc v], true, true⟩])[i]? = some ⟨[.sc v], true, true⟩ → KH (.ptr i 0) (H ++ [⟨[.sc v], true, true⟩]) = r) : Or (.sc v) H (fun x H => KH x H) = r := by
 have e : Cq (.sc v) = some [.sc v] := by simp only [Cq, Al, hv, if_true]
 show (Cq (.sc v)).bind _ = r
 rw [e]
 exact h _ rfl (by rw [zaf (zai _), zaI]; rfl)
theorem Ahg (s : ByteArray) (i : Nat) (b : UInt8) (k : AV → Option β) (h : s.data.toList[i]? = some b) : AbY (.sc (.string s)) (.sc (.int .i64 i)) k = k (.sc (.int .u8 b.toNat)) := by
 have hlt : i < s.size := by
  have := (zac.1 h).1
  simpa using this
 have hb : s[i]'hlt = b := by
  have := (zac.1 h).2
  simp only [Array.getElem_toList] at this
  exact this
 simp only [AbY, Yb, asS, zab, zbf]
 rw [dif_pos ⟨by omega, hlt⟩, hb]
theorem S2 {α : Type} {w : Nat} {enc : α → List AV} (hw : ∀ x, (enc x).length = w) (l : List α) (d : Nat) (hd : d ≤ l.length) (k : AV → Option β) : Iz w (Aj enc l) (some (.sc (.int .i64 d))) none k = k (Aj enc (l.drop d)) := by
 simp only [Iz, Gn, Jm, Yb, zab]
 rw [if_pos (by omega)]
 have h1 : ((l.length : Int) - d).toNat = (l.drop d).length := by rw [zaF]; omega
 have h2 : ((l.map enc).flatten.drop (d * w)) = ((l.drop d).map enc).flatten := by
  have := T2 hw (l.take d) (l.drop d)
  rw [zaR, zaL, zaQ hd] at this
  exact this
 rw [h1, zbf, h2, ← Fj hw, za3]
theorem Qb {α : Type} {tb g w : Nat} (enc : α → List AV) (pr : α → α → Bool) (k : KO β) (hk : ∀ v H H', k (.sc v) H = k (.sc v) H') (z : List AV) (hz : z.length = w) (hw : ∀ x, (enc x).length = w) (h0 : 0 < w) (hfl : ∀ x, (enc x).all Ie = true) (hh : Fy g = false) (L : Nat → AV → AV → AV → AV → KO β)
  (hL : ∀ m b f a c i H, L (m + 1) b f a c i H = E4 .lss i c fun t18 => Gz t18 (Eu w a i fun t20 => Cx true w t20 H fun t21 => Iw z H fun t8 H => D5 w t8 t21 H fun H => Eu w b i fun t24 => Cx true w t24 H fun t25 => Iw z H fun t9 H => D5 w t9 t25 H fun H => Cx true w t8 H fun t27 => Cx true w t9 H fun t28 => (PR n β).call tb f [t27, t28] H fun t29 H => pUn .not t29 fun t30 => Gz t30 (k (.sc (.bool false)) H) (E4 .add i (.sc (.int .i64 1)) fun t31 => L m b f a c t31 H)) (k (.sc (.bool true)) H))
  (l q : List α) (hp : ∀ x y, x ∈ l → y ∈ q → Cy E0 n tb g [.agg (enc x), .agg (enc y)] = some (.sc (.bool (pr x y)))) (hlq : l.length = q.length) (hlen : l.length ≤ 1048576) : ∀ (s t pl pq : List α) (m : Nat) (H : Aa), l = pl ++ s → q = pq ++ t → pl.length = pq.length → s.length < m →
   L m (Aj enc q) (.fn g [] []) (Aj enc l) (.sc (.int .i64 l.length)) (.sc (.int .i64 pl.length)) H = k (.sc (.bool (Hk pr s t))) []
 | [], t, pl, pq, m + 1, H, hl, hq, hpp, hm => by
  have ht : t = [] := by
   have h1 := congrArg List.length hl
   have h2 := congrArg List.length hq
   simp only [zae, zar] at h1 h2
   exact zap (by omega)
  subst ht
  rw [zam] at hl
  subst hl
  rw [hL, Eb, D4]
  simp only [Nat.lt_irrefl, decide_false, zan, if_false, Hk]
  exact hk _ _ _
 | x :: s, [], pl, pq, m + 1, H, hl, hq, hpp, hm => by
  have h1 := congrArg List.length hl
  have h2 := congrArg List.length hq
  simp only [zae, zao, zar] at h1 h2
  omega
 | x :: s, y :: t, pl, pq, m + 1, H, hl, hq, hpp, hm => by
  have hlt : pl.length < l.length := by rw [hl]; simp
  rw [hL, Eb, D4, if_pos (by simpa using hlt)]
  have hel := fun k => L0 (β := β) hw h0 pl x s k
  rw [← hl] at hel
  have heq := fun k => L0 (β := β) hw h0 pq y t k
  rw [← hq, ← hpp] at heq
  rw [hel, Qh w _ _ _ _ (hw x)]
  refine Pm hz (hw x) (Lm (hfl x)) fun i hi => ?_
  rw [heq, Qh w _ _ _ _ (hw y)]
  refine Pm hz (hw y) (Lm (hfl y)) fun j hj => ?_
  replace hi := Ir hi [⟨enc y, true, true⟩]
  refine Ok hi (hw x) ?_
  refine Ok hj (hw y) ?_
  refine De hh (A6 (E1 _ (hfl x)) (A6 (E1 _ (hfl y)) Dl)) (hp x y (by rw [hl]; simp) (by rw [hq]; simp)) ?_
  rw [AkH, D4, Hk]
  cases hpx : pr x y
  ·simp only [Bool.not_false, if_true, zan, if_false]
   exact hk _ _ _
  ·simp only [Bool.not_true, zan, if_false, if_true]
   rw [Fc _ _ (by omega)]
   have ih := Qb enc pr k hk z hz hw h0 hfl hh L hL l q hp hlq hlen s t (pl ++ [x]) (pq ++ [y]) m ((H ++ [⟨enc x, true, true⟩]) ++ [⟨enc y, true, true⟩]) (by rw [hl]; simp) (by rw [hq]; simp) (by simp [hpp]) (by simpa using hm)
   rw [zae, zal] at ih
   exact ih
theorem nT {b : Bool} (h : b = false) : (!b) = true := by rw [h]; rfl
theorem nF {b : Bool} (h : b = true) : (!b) = false := by rw [h]; rfl
end
end
section
open Go
theorem Zb (n : Int) : bits .and .i64 n 255 = n % 256 := by
 have h255 : (BitVec.ofInt 64 255).toNat = 2 ^ 8 - 1 := by decide
 have key : (BitVec.ofInt 64 n &&& BitVec.ofInt 64 255).toNat = (n % ((2 ^ 64 : Nat) : Int)).toNat % 2 ^ 8 := by
  rw [BitVec.toNat_and, BitVec.toNat_ofInt, h255, Nat.and_two_pow_sub_one_eq_mod]
 show IntKind.i64.wrap ((BitVec.ofInt 64 n &&& BitVec.ofInt 64 255).toNat : Nat) = n % 256
 rw [key, IntKind.wrap_i64]
 omega
section
variable {β : Type} {n : Nat} {H : Aa}
theorem La {ty : Nat} {f : FuncId} {args : List AV} {k : KO β} (hh : E0.hm f = true) (he : E0.ext f = none) : (PR n β).call ty (.fn f [] []) args H k = Dm E0 n β f args H k := by
 show J9 E0 (Dm E0 n) ty f ([] ++ args ++ []) H k = _
 simp only [J9, he, hh, zah, zam, if_true]
def cur (code : ByteArray) (i : Nat) (h : Int) : List AV := [.ro code.size (Bb code), .sc (.int .i64 i), .sc (.int .i64 h)]
def Nk (code : ByteArray) (i : Nat) (h : Int) : Gm := ⟨cur code i h, true, true⟩
theorem ldC {c o : Nat} {code : ByteArray} {i : Nat} {h : Int} {x : AV} {K : AV → Option β} {r : Option β} (hc : H[c]? = some (Nk code i h)) (hx : (cur code i h)[o]? = some x) (hk : K x = r) : Cx false 1 (.ptr c (0 + o)) H (fun t => K t) = r := by
 obtain ⟨hlt, he⟩ := zac.1 hx
 have e : ((cur code i h).drop o).take 1 = [x] := by
  rw [zbj hlt, he]
  rfl
 rw [zaw]
 simp only [Cx, Aw, hc, Nk, if_true, zan, if_false]
 rw [if_pos (by omega), zab, e]
 exact hk
theorem stC {c o : Nat} {code : ByteArray} {i i' : Nat} {h h' : Int} {v : Value} {K : Aa → Option β} {r : Option β} (hc : H[c]? = some (Nk code i h)) (hv : Kz v = true) (ho : o < 3) (hs : Cd (cur code i h) o [.sc v] = cur code i' h') (hk : K (H.set c (Nk code i' h')) = r) : D5 1 (.ptr c (0 + o)) (.sc v) H (fun H => K H) = r := by
 rw [zaw, Fv 1 c o (.sc v) (Nk code i h) [.sc v] H _ hc (by simp only [Cq, Al, hv, if_true]) rfl (by show o + 1 ≤ 3; omega) rfl]
 show K (H.set c ⟨Cd (cur code i h) o [.sc v], true, true⟩) = r
 rw [hs]
 exact hk
theorem AgC {c : Nat} {b : Gm} (hl : c < H.length) : (H.set c b)[c]? = some b := by
 rw [zaY hl]
theorem X7 (z : Int) (k : AV → Option β) : E4 .and (.sc (.int .i64 z)) (.sc (.int .i64 255)) k = k (.sc (.int .i64 (z % 256))) := by
 rw [← Zb]
 rfl
theorem Jb {id off : Nat} {K : AV → Option β} {r : Option β} (h : K (.ptr id off) = r) : Ae8 (.ptr id off) (fun t => K t) = r := h
theorem Ahn {a z : Int} {k : IntKind} {K : AV → Option β} {r : Option β} (hz : IntKind.i64.wrap a = z) (h : K (.sc (.int .i64 z)) = r) : Xe .i64 (.sc (.int k a)) (fun t => K t) = r := by
 show K (.sc (.int .i64 (IntKind.i64.wrap a))) = r
 rw [hz]
 exact h
theorem Acw (s : ByteArray) (i : Nat) (h : i < s.size) (H : Aa) (k : AV → Option β) : (Eu 1 (.ro s.size (Bb s)) (.sc (.int .i64 i)) fun t => Cx false 1 t H k) = k (.sc (.int .u8 (s.data.toList.getD i 0).toNat)) := by
 rw [Q4 1 _ _ i _ h (by rw [Ep]; omega)]
 have hd : (Bb s).drop (i * 1) = .sc (.int .u8 (s.data.toList.getD i 0).toNat) :: (Bb s).drop (i + 1) := by
  rw [Nat.mul_one, zbj (by rw [Ep]; omega)]
  congr 1
  simp [Bb, zbB, h]
 rw [hd, Nr]
theorem Wc (c : Nat) (code : ByteArray) (hs : code.size ≤ 1048576) (i : Nat) (h : Int) (hc : H[c]? = some (Nk code i h)) (ty : Nat) :
  ∃ (x i' : Nat) (h' : Int), x < 256 ∧ ∀ K : KO β, (PR (n + 1) β).call ty (.fn 97 [] []) [.ptr c 0] H K = K (si x) (H.set c (Nk code i' h')) := by
 have hl : c < H.length := (zac.1 hc).1
 obtain ⟨h1, hh1⟩ : ∃ z, IntKind.i64.wrap (IntKind.i64.wrap (h * 6364136223846793005) + 1442695040888963407) = z := ⟨_, rfl⟩
 obtain ⟨y, hy⟩ : ∃ z, bits .xor .i64 (h1 / 2 ^ (33 : Int).toNat) (h1 / 2 ^ (47 : Int).toNat) = z := ⟨_, rfl⟩
 have hc1 : (H.set c (Nk code i h1))[c]? = some (Nk code i h1) := AgC hl
 by_cases hlt : i < code.size
 have hb := (code.data.toList.getD i 0).toNat_lt
 refine ⟨((y % 256 + (code.data.toList.getD i 0).toNat) % 256).toNat, i + 1, h1, by omega, fun K => ?_⟩
 rw [La rfl rfl, AdU, f97]
 simp only [X3, Bk, A2, A4, A9, Bm, At, Bq, Df]
 refine Jb (Ai (ldC (o := 2) (x := .sc (.int .i64 h)) hc rfl (Av (v := .sc (.int .i64 (IntKind.i64.wrap (h * 6364136223846793005)))) (fun k => rfl) (Av (v := .sc (.int .i64 h1)) (fun k => by rw [← hh1]; rfl) (Jb (Ai (stC (i' := i) (h' := h1) hc rfl (by omega) rfl (Jb (Ai (ldC (o := 2) (x := .sc (.int .i64 h1)) hc1 rfl (Av (v := .sc (.int .i64 (h1 / 2 ^ (33 : Int).toNat))) (fun k => rfl) (Jb (Ai (ldC (o := 2) (x := .sc (.int .i64 h1)) hc1 rfl (Av (v := .sc (.int .i64 (h1 / 2 ^ (47 : Int).toNat))) (fun k => rfl) (Av (v := .sc (.int .i64 y)) (fun k => by rw [← hy]; rfl) (Av (v := .sc (.int .i64 (y % 256))) (fun k => X7 _ k) (Jb (Ai (ldC (o := 1) (x := .sc (.int .i64 i)) hc1 rfl (Jb (Ai (ldC (o := 0) (x := .ro code.size (Bb code)) hc1 rfl (Dh (Av (v := .sc (.bool (decide (i < code.size)))) (fun k => Eb _ _ k) (Z4 (Ey (by simpa using hlt) (Jb (Ai (ldC (o := 0) (x := .ro code.size (Bb code)) hc1 rfl (Jb (Ai (ldC (o := 1) (x := .sc (.int .i64 i)) hc1 rfl ?_)))))))))))))))))))))))))))))))))
 rw [Acw code i hlt]
 refine Ahn (z := (code.data.toList.getD i 0).toNat) (Fl _ (by omega) (by omega)) (Av (v := .sc (.int .i64 (y % 256 + (code.data.toList.getD i 0).toNat))) (fun k => by rw [Rb, Fl _ (by omega) (by omega)]) (Av (v := .sc (.int .i64 ((y % 256 + (code.data.toList.getD i 0).toNat) % 256))) (fun k => X7 _ k) (Jb (Ai (ldC (o := 1) (x := .sc (.int .i64 i)) hc1 rfl (Av (v := .sc (.int .i64 ((i + 1 : Nat) : Int))) (fun k => Fc _ k (by omega)) (Jb (Ai (stC (i' := i + 1) (h' := h1) hc1 rfl (by omega) rfl ?_)))))))))
 rw [List.set_set, show (((y % 256 + (code.data.toList.getD i 0).toNat) % 256).toNat : Int) = (y % 256 + (code.data.toList.getD i 0).toNat) % 256 by omega]
 refine ⟨(y % 256).toNat, i, h1, by omega, fun K => ?_⟩
 rw [La rfl rfl, AdU, f97]
 simp only [X3, Bk, A2, A4, A9, Bm, At, Bq, Df]
 refine Jb (Ai (ldC (o := 2) (x := .sc (.int .i64 h)) hc rfl (Av (v := .sc (.int .i64 (IntKind.i64.wrap (h * 6364136223846793005)))) (fun k => rfl) (Av (v := .sc (.int .i64 h1)) (fun k => by rw [← hh1]; rfl) (Jb (Ai (stC (i' := i) (h' := h1) hc rfl (by omega) rfl (Jb (Ai (ldC (o := 2) (x := .sc (.int .i64 h1)) hc1 rfl (Av (v := .sc (.int .i64 (h1 / 2 ^ (33 : Int).toNat))) (fun k => rfl) (Jb (Ai (ldC (o := 2) (x := .sc (.int .i64 h1)) hc1 rfl (Av (v := .sc (.int .i64 (h1 / 2 ^ (47 : Int).toNat))) (fun k => rfl) (Av (v := .sc (.int .i64 y)) (fun k => by rw [← hy]; rfl) (Av (v := .sc (.int .i64 (y % 256))) (fun k => X7 _ k) (Jb (Ai (ldC (o := 1) (x := .sc (.int .i64 i)) hc1 rfl (Jb (Ai (ldC (o := 0) (x := .ro code.size (Bb code)) hc1 rfl (Dh (Av (v := .sc (.bool (decide (i < code.size)))) (fun k => Eb _ _ k) (Z4 (E7 (by simpa using hlt) ?_)))))))))))))))))))))))))))
 rw [show ((y % 256).toNat : Int) = y % 256 by omega]
theorem AaK (c : Nat) (code : ByteArray) (hs : code.size ≤ 1048576) (i : Nat) (h : Int) (hc : H[c]? = some (Nk code i h)) (ty m : Nat) (h1 : 1 ≤ m) (h2 : m ≤ 256) :
  ∃ (x i' : Nat) (h' : Int), x < m ∧ ∀ K : KO β, (PR (n + 2) β).call ty (.fn 59 [] []) [.ptr c 0, si m] H K = K (si x) (H.set c (Nk code i' h')) := by
 obtain ⟨x, i', h', hx, hr⟩ := Wc (β := β) (n := n) c code hs i h hc 3
 refine ⟨x % m, i', h', Nat.mod_lt _ (by omega), fun K => ?_⟩
 rw [La rfl rfl, Y3, f59]
 simp only [A4, At]
 refine Av (v := .sc (.bool (decide ((m : Int) ≤ 0)))) (fun k => rfl) (E7 (by simp; omega) (Av (v := .sc (.bool (decide ((m : Int) ≤ 256)))) (fun k => rfl) (Ey (by simp; omega) ?_)))
 rw [hr]
 refine Av (v := si ((x % m : Nat) : Int)) (fun k => ?_) ?_
 show (Ye .rem .i64 (x : Int) (m : Int)).bind (fun v => k (.sc v)) = _
 have e : Ye .rem .i64 (x : Int) (m : Int) = some (.int .i64 ((x : Int).tmod m)) := by
  show (if (m : Int) = 0 then none else some (Value.int .i64 ((x : Int).tmod m))) = _
  rw [if_neg (by omega)]
 rw [e]
 show k (.sc (.int .i64 ((x : Int).tmod (m : Int)))) = _
 rw [show ((x : Int).tmod (m : Int)) = ((x % m : Nat) : Int) from rfl]
 rfl
theorem Aa1 (code : ByteArray) (h : Int) (K : KO β) : ((Er [.nl, .sc (.int .i64 0), .sc (.int .i64 0)] [(0, 1, .ro code.size (Bb code)), (2, 1, .sc (.int .i64 h))]).bind fun ct => Or (.agg ct) H fun t H => K t H) = K (.ptr H.length 0) (H ++ [Nk code 0 h]) := rfl
theorem Wz (code : ByteArray) (hs : code.size ≤ 1048576) : ∀ (j m i : Nat) (h : Int), i + j = min code.size 4000 → j < m →
  ∃ h' : Int, ∀ k : KO β, Nn (PR n β) n k m (.ro code.size (Bb code)) (si h) (si i) H = k (.ptr H.length 0) (H ++ [Nk code 0 h'])
 | 0, m + 1, i, h, hi, hm => by
  refine ⟨h, fun k => ?_⟩
  rw [Nn]
  simp only [Bm, A4, At, Bi, Pr.gT, Pr.gF, Pr.hT, Pr.hF, Pr.kT, Pr.kF, Bz, Bq, A2, Df, Be, Ct]
  refine Dh (Av (v := sb (decide (i < code.size))) (fun k => Eb _ _ k) ?_)
  by_cases hl : i < code.size
  have e : decide (i < code.size) = true := by simpa using hl
  exact Ao e (Ao e (Av (v := .sc (.bool (decide ((i : Int) < 4000)))) (fun k => rfl) (P2 e (E7 (by simp; omega) (Aa1 code h k)))))
  have e : decide (i < code.size) = false := by simpa using hl
  exact Ap e (Ap e (Q0 e (E7 rfl (Aa1 code h k))))
 | j + 1, m + 1, i, h, hi, hm => by
  have hl : i < code.size := by omega
  have hb := (code.data.toList.getD i 0).toNat_lt
  obtain ⟨h', ih⟩ := Wz code hs j m (i + 1) (bits .and .i64 (IntKind.i64.wrap (IntKind.i64.wrap (IntKind.i64.wrap (h * 137) + (code.data.toList.getD i 0).toNat) + 11)) 1073741823) (by omega) (by omega)
  refine ⟨h', fun k => ?_⟩
  rw [Nn]
  simp only [Bm, A4, At, Bi, Pr.gT, Pr.gF, Pr.hT, Pr.hF, Pr.kT, Pr.kF, Bz, Bq, A2, Df, Be, Ct]
  refine Dh (Av (v := sb (decide (i < code.size))) (fun k => Eb _ _ k) ?_)
  have e : decide (i < code.size) = true := by simpa using hl
  refine Ao e (Ao e (Av (v := .sc (.bool (decide ((i : Int) < 4000)))) (fun k => rfl) (P2 e (Ey (by simp; omega) (Av (v := .sc (.int .i64 (IntKind.i64.wrap (h * 137)))) (fun k => rfl) ?_)))))
  rw [Acw code i hl]
  exact Ahn (z := (code.data.toList.getD i 0).toNat) (Fl _ (by omega) (by omega)) (Av (v := si (IntKind.i64.wrap (IntKind.i64.wrap (h * 137) + (code.data.toList.getD i 0).toNat))) (fun k => rfl) (Av (v := si (IntKind.i64.wrap (IntKind.i64.wrap (IntKind.i64.wrap (h * 137) + (code.data.toList.getD i 0).toNat) + 11))) (fun k => rfl) (Av (v := .sc (.int .i64 (bits .and .i64 (IntKind.i64.wrap (IntKind.i64.wrap (IntKind.i64.wrap (h * 137) + (code.data.toList.getD i 0).toNat) + 11)) 1073741823))) (fun k => rfl) (Av (v := si ((i + 1 : Nat) : Int)) (fun k => Fc _ k (by omega)) (ih k)))))
theorem Agu (code : ByteArray) (hs : code.size ≤ 1048576) (hn : 4000 < n) (ty : Nat) :
  ∃ h : Int, ∀ K : KO β, (PR (n + 1) β).call ty (.fn 40 [] []) [.ro code.size (Bb code)] H K = K (.ptr H.length 0) (H ++ [Nk code 0 h]) := by
 obtain ⟨h', e⟩ := Wz (β := β) (n := n) (H := H) code hs (min code.size 4000) n 0 (IntKind.i64.wrap (128361 + (code.size : Int))) (by omega) (by omega)
 refine ⟨h', fun K => ?_⟩
 rw [La rfl rfl, AhN, f40]
 simp only [Bm, A4]
 exact Dh (Av (v := si (IntKind.i64.wrap (128361 + (code.size : Int)))) (fun k => rfl) (e K))
end
end
section
open Go
theorem M9 : ∃ i j, An 22 = some i ∧ An i.elem = some j ∧ j.size = 1 ∧ j.cty.length = 1 := ⟨_, _, rfl, rfl, rfl, rfl⟩
theorem Z2 : ∃ i j, An 39 = some i ∧ An i.elem = some j ∧ j.size = 1 ∧ j.cty.length = 1 := ⟨_, _, rfl, rfl, rfl, rfl⟩
theorem Acl : ∃ i j, An 38 = some i ∧ An i.elem = some j ∧ j.size = 1 ∧ j.cty.length = 1 := ⟨_, _, rfl, rfl, rfl, rfl⟩
structure Br where
 fTopic : ByteArray
 fBody : ByteArray
 fQos : Int
 fRetain : Bool
def Ag (x : Br) : List AV := .sc (.string x.fTopic) :: Bj x.fBody :: .sc (.int .i64 x.fQos) :: .sc (.bool x.fRetain) :: []
def Bc (x : Br) : Nat := x.fTopic.size + (x.fBody.size + 0)
def Ce (x : Br) : Prop := Hz x.fTopic ∧ Hz x.fBody ∧ Do x.fQos ∧ True
theorem Dw (x : Br) : (Ag x).length = 4 := rfl
theorem Ej (x : Br) : (Ag x).all Ie = true := rfl
def G6 : List Nat := [9, 22, 3, 4]
theorem Ni : ∃ i, An 33 = some i ∧ i.cty = G6 := ⟨_, rfl, rfl⟩
theorem Hm (d : Nat) (x : Br) : El (Gp An E0.tp (d + 2)) G6 (Ag x) := ⟨trivial, ⟨Pp (d := d + 0) M9 x.fBody, ⟨trivial, ⟨trivial, trivial⟩⟩⟩⟩
theorem Ju : ∃ i j, An 25 = some i ∧ An i.elem = some j ∧ j.size = 4 ∧ j.cty = G6 := ⟨_, _, rfl, rfl, rfl, rfl⟩
def G5 : List AV := [(.sc (.string ⟨#[]⟩)), .nl, (.sc (.int .i64 0)), (.sc (.bool false))]
structure Ah where
 fId : Int
 fM : Br
 fSt : Int
def Aq (x : Ah) : List AV := .sc (.int .i64 x.fId) :: (Ag x.fM ++ .sc (.int .i64 x.fSt) :: [])
def Au (x : Ah) : Nat := Bc x.fM + 0
def B3 (x : Ah) : Prop := Do x.fId ∧ Ce x.fM ∧ Do x.fSt
theorem Bf (x : Ah) : (Aq x).length = 6 := rfl
theorem Fg (x : Ah) : (Aq x).all Ie = true := rfl
def F1 : List Nat := [3, 9, 22, 3, 4, 3]
theorem M4 (d : Nat) (x : Ah) : El (Gp An E0.tp (d + 2)) F1 (Aq x) := ⟨trivial, Gx (ts := G6) (ts' := [3]) (Hm (d + 0) x.fM) ⟨trivial, trivial⟩⟩
theorem P1 : ∃ i j, An 24 = some i ∧ An i.elem = some j ∧ j.size = 6 ∧ j.cty = F1 := ⟨_, _, rfl, rfl, rfl, rfl⟩
def Tj : List AV := [(.sc (.int .i64 0)), (.sc (.string ⟨#[]⟩)), .nl, (.sc (.int .i64 0)), (.sc (.bool false)), (.sc (.int .i64 0))]
structure Bs where
 fLast : Int
 fFl : List Ah
 fQ : List Br
def A5 (x : Bs) : List AV := .sc (.int .i64 x.fLast) :: Aj Aq x.fFl :: Aj Ag x.fQ :: []
def D6 (x : Bs) : Nat := Fp Au x.fFl + (Fp Bc x.fQ + 0)
def Qi (x : Bs) : Prop := Do x.fLast ∧ (x.fFl.length ≤ 9223372036854775807 ∧ ∀ z ∈ x.fFl, B3 z) ∧ (x.fQ.length ≤ 9223372036854775807 ∧ ∀ z ∈ x.fQ, Ce z)
theorem AiG (x : Bs) : (A5 x).length = 3 := rfl
theorem Gs (x : Bs) : (A5 x).all Ie = true := rfl
def Gj : List Nat := [3, 24, 25]
theorem Xv : ∃ i, An 27 = some i ∧ i.cty = Gj := ⟨_, rfl, rfl⟩
theorem Ae2 (d : Nat) (x : Bs) : El (Gp An E0.tp (d + 3)) Gj (A5 x) := ⟨trivial, ⟨Gy (d := d + 2) Bf P1 (M4 (d + 0)) x.fFl, ⟨Gy (d := d + 2) Dw Ju (Hm (d + 0)) x.fQ, trivial⟩⟩⟩
def Cs : List AV := [(.sc (.int .i64 0)), .nl, .nl]
structure Ra where
 fFilter : ByteArray
 fQos : Int
def Fb (x : Ra) : List AV := .sc (.string x.fFilter) :: .sc (.int .i64 x.fQos) :: []
theorem Vq (x : Ra) : (Fb x).length = 2 := rfl
def Aff : List Nat := [9, 3]
theorem Agx (d : Nat) (x : Ra) : El (Gp An E0.tp (d + 1)) Aff (Fb x) := ⟨trivial, ⟨trivial, trivial⟩⟩
structure B0 where
 fType : Int
 fDup : Bool
 fQos : Int
 fRetain : Bool
 fId : Int
 fTopic : ByteArray
 fBody : ByteArray
 fClient : ByteArray
 fLevel : Int
 fClean : Bool
 fKeep : Int
 fHasWill : Bool
 fWTopic : ByteArray
 fWBody : ByteArray
 fWQos : Int
 fWRetain : Bool
 fHasUser : Bool
 fUser : ByteArray
 fHasPass : Bool
 fPass : ByteArray
 fCode : Int
 fPresent : Bool
 fWants : List Ra
 fNames : List ByteArray
 fCodes : List Int
def C4 (x : B0) : List AV := .sc (.int .i64 x.fType) :: .sc (.bool x.fDup) :: .sc (.int .i64 x.fQos) :: .sc (.bool x.fRetain) :: .sc (.int .i64 x.fId) :: .sc (.string x.fTopic) :: Bj x.fBody :: .sc (.string x.fClient) :: .sc (.int .i64 x.fLevel) :: .sc (.bool x.fClean) :: .sc (.int .i64 x.fKeep) :: .sc (.bool x.fHasWill) :: .sc (.string x.fWTopic) :: Bj x.fWBody :: .sc (.int .i64 x.fWQos) :: .sc (.bool x.fWRetain) :: .sc (.bool x.fHasUser) :: .sc (.string x.fUser) :: .sc (.bool x.fHasPass) :: Bj x.fPass :: .sc (.int .i64 x.fCode) :: .sc (.bool x.fPresent) :: Aj Fb x.fWants :: Mt x.fNames :: Dr x.fCodes :: []
theorem Kx (x : B0) : (C4 x).all Ie = true := rfl
def AaV : List Nat := [3, 4, 3, 4, 3, 9, 22, 9, 3, 4, 3, 4, 9, 22, 3, 4, 4, 9, 4, 22, 3, 4, 37, 38, 39]
structure B5 where
 fClient : ByteArray
 fBorn : Int
 fClean : Bool
 fConn : Int
 fGen : Int
 fO : Bs
 fIn : List Int
def Bn (x : B5) : List AV := .sc (.string x.fClient) :: .sc (.int .i64 x.fBorn) :: .sc (.bool x.fClean) :: .sc (.int .i64 x.fConn) :: .sc (.int .i64 x.fGen) :: (A5 x.fO ++ Dr x.fIn :: [])
def J3 (x : B5) : Nat := x.fClient.size + (D6 x.fO + (x.fIn.length + 0))
def Vr (x : B5) : Prop := Hz x.fClient ∧ Do x.fBorn ∧ True ∧ Do x.fConn ∧ Do x.fGen ∧ Qi x.fO ∧ (x.fIn.length ≤ 9223372036854775807 ∧ ∀ z ∈ x.fIn, Do z)
theorem Hw (x : B5) : (Bn x).all Ie = true := rfl
def U6 : List Nat := [9, 3, 4, 3, 3, 3, 24, 25, 39]
theorem AeN : ∃ i, An 53 = some i ∧ i.cty = U6 := ⟨_, rfl, rfl⟩
def Gk : List AV := [(.sc (.string ⟨#[]⟩)), (.sc (.int .i64 0)), (.sc (.bool false)), (.sc (.int .i64 0)), (.sc (.int .i64 0)), (.sc (.int .i64 0)), .nl, .nl, .nl]
end
section
open Go
section own
variable {ti : Nat → Option TI} {tp : Nat → Option (List Nat)}
theorem Fe {f : Nat → AV → Option (AV × List Nat)} {t : Nat} {ts : List Nat} {x : AV} {xs : List AV} {p : List AV × List Nat} (h : Cc f (t :: ts) (x :: xs) = some p) :
  ∃ a b, f t x = some a ∧ Cc f ts xs = some b ∧ p = (a.1 :: b.1, a.2 ++ b.2) := by
 simp only [Cc, zaa] at h
 obtain ⟨a, h1, b, h2, h3⟩ := h
 exact ⟨a, b, h1, h2, (Option.some.inj h3).symm⟩
theorem Iu {f : Nat → AV → Option (AV × List Nat)} {ts : List Nat} {p : List AV × List Nat} (h : Cc f ts [] = some p) : ts = [] ∧ p = ([], []) := by
 cases ts with
 | nil => exact ⟨rfl, (Option.some.inj h).symm⟩
 | cons t ts => simp [Cc] at h
theorem Sl {f : Nat → AV → Option (AV × List Nat)} : ∀ {ts : List Nat} {xs : List AV} {p : List AV × List Nat}, Cc f ts xs = some p → ts.length = xs.length ∧ p.1.length = xs.length
 | ts, [], p, h => by
  obtain ⟨rfl, rfl⟩ := Iu h
  exact ⟨rfl, rfl⟩
 | [], _ :: _, p, h => by simp [Cc] at h
 | t :: ts, x :: xs, p, h => by
  obtain ⟨a, b, h1, h2, rfl⟩ := Fe h
  obtain ⟨e1, e2⟩ := Sl h2
  simp [e1, e2]
theorem F8 {f : Nat → AV → Option (AV × List Nat)} : ∀ {ts us : List Nat} {xs ys : List AV} {p q : List AV × List Nat}, Cc f ts xs = some p → Cc f us ys = some q → Cc f (ts ++ us) (xs ++ ys) = some (p.1 ++ q.1, p.2 ++ q.2)
 | ts, us, [], ys, p, q, h, h' => by
  obtain ⟨rfl, rfl⟩ := Iu h
  exact h'
 | [], _, _ :: _, _, _, _, h, _ => by simp [Cc] at h
 | t :: ts, us, x :: xs, ys, p, q, h, h' => by
  obtain ⟨a, b, h1, h2, rfl⟩ := Fe h
  have ih := F8 h2 h'
  rw [zau, zau, Cc, h1, zab, ih]
  simp
theorem Ec {f f' : Nat → AV → Option (AV × List Nat)} : ∀ {ts : List Nat} {xs : List AV} {p : List AV × List Nat}, (∀ t x a, f t x = some a → (∀ i ∈ a.2, i ∈ p.2) → f' t x = some a) → Cc f ts xs = some p → Cc f' ts xs = some p
 | ts, [], p, _, h => by
  obtain ⟨rfl, rfl⟩ := Iu h
  rfl
 | [], _ :: _, p, _, h => by simp [Cc] at h
 | t :: ts, x :: xs, p, hf, h => by
  obtain ⟨a, b, h1, h2, rfl⟩ := Fe h
  have e1 := hf t x a h1 fun i hi => zat _ hi
  have e2 := Ec (f' := f') (fun t x a' h hi => hf t x a' h fun i hi' => zaq _ (hi i hi')) h2
  rw [Cc, e1, zab, e2]
  rfl
theorem Di {H H' : Aa} : ∀ (d ty : Nat) (x : AV) (p : AV × List Nat), Bx ti tp H d ty x = some p → (∀ i ∈ p.2, H'[i]? = H[i]?) → Bx ti tp H' d ty x = some p
 | 0, _, _, _, h, _ => by simp [Bx] at h
 | d + 1, ty, x, p, h, hs => by
  cases x with
  | sc v => exact h
  | nl => exact h
  | sl id off n z =>
   rw [Ft] at h ⊢
   simp only [zaa] at h
   obtain ⟨i, h1, j, h2, h3⟩ := h
   split at h3
   case isFalse => cases h3
   rename_i hz
   split at h3
   case isFalse => cases h3
   rename_i ha
   simp only [zaa] at h3
   obtain ⟨cs, h4, q, h5, h6⟩ := h3
   obtain rfl := (Option.some.inj h6).symm
   have hid := hs id za7
   have e1 : Fh H' id = true := by simpa only [Fh, hid] using ha
   have e2 : Aw H' id off (n * z) = some cs := by simpa only [Aw, hid] using h4
   have e3 := Ec (f' := Bx ti tp H' d) (fun t x a h hi => Di d t x a h fun i' hi' => hs i' (zax _ (hi i' hi'))) h5
   simp only [h1, h2, zab, hz, if_true, e1, e3]
   rw [hz] at e2
   rw [e2]
   simp only [zab, e3]
  | agg cs =>
   rw [Ek] at h ⊢
   simp only [zaa] at h
   obtain ⟨i, h1, q, h2, h3⟩ := h
   obtain rfl := (Option.some.inj h3).symm
   have e3 := Ec (f' := Bx ti tp H' d) (fun t x a h hi => Di d t x a h fun i' hi' => hs i' (hi i' hi')) h2
   rw [h1, zab, e3]
   rfl
  | tup cs =>
   rw [F4] at h ⊢
   simp only [zaa] at h
   obtain ⟨i, h1, q, h2, h3⟩ := h
   obtain rfl := (Option.some.inj h3).symm
   have e3 := Ec (f' := Bx ti tp H' d) (fun t x a h hi => Di d t x a h fun i' hi' => hs i' (hi i' hi')) h2
   rw [h1, zab, e3]
   rfl
  | _ => simp [Bx] at h
theorem Om {f : Nat → AV → Option (AV × List Nat)} {N : Nat} : ∀ {ts : List Nat} {xs : List AV} {p : List AV × List Nat}, (∀ t x a, f t x = some a → ∀ i ∈ a.2, i < N) → Cc f ts xs = some p → ∀ i ∈ p.2, i < N
 | ts, [], p, _, h => by
  obtain ⟨rfl, rfl⟩ := Iu h
  intro i hi
  cases hi
 | [], _ :: _, p, _, h => by simp [Cc] at h
 | t :: ts, x :: xs, p, hf, h => by
  obtain ⟨a, b, h1, h2, rfl⟩ := Fe h
  intro i hi
  rcases za9.1 hi with hi | hi
  ·exact hf t x a h1 i hi
  ·exact Om hf h2 i hi
theorem Kk {H : Aa} : ∀ (d ty : Nat) (x : AV) (p : AV × List Nat), Bx ti tp H d ty x = some p → ∀ i ∈ p.2, i < H.length
 | 0, _, _, _, h => by simp [Bx] at h
 | d + 1, ty, x, p, h => by
  cases x with
  | sc v =>
   obtain rfl := (Option.some.inj h).symm
   intro i hi
   cases hi
  | nl =>
   obtain rfl := (Option.some.inj h).symm
   intro i hi
   cases hi
  | sl id off n z =>
   rw [Ft] at h
   simp only [zaa] at h
   obtain ⟨i, h1, j, h2, h3⟩ := h
   split at h3
   case isFalse => cases h3
   split at h3
   case isFalse => cases h3
   rename_i ha
   simp only [zaa] at h3
   obtain ⟨cs, h4, q, h5, h6⟩ := h3
   obtain rfl := (Option.some.inj h6).symm
   intro i' hi'
   rcases zav.1 hi' with rfl | hi'
   ·unfold Fh at ha
    cases hg : H[i']? with
    | none => rw [hg] at ha; cases ha
    | some b => exact (zac.1 hg).1
   ·exact Om (fun t x a h => Kk d t x a h) h5 i' hi'
  | agg cs =>
   rw [Ek] at h
   simp only [zaa] at h
   obtain ⟨i, h1, q, h2, h3⟩ := h
   obtain rfl := (Option.some.inj h3).symm
   exact Om (fun t x a h => Kk d t x a h) h2
  | tup cs =>
   rw [F4] at h
   simp only [zaa] at h
   obtain ⟨i, h1, q, h2, h3⟩ := h
   obtain rfl := (Option.some.inj h3).symm
   exact Om (fun t x a h => Kk d t x a h) h2
  | _ => simp [Bx] at h
end own
def OwnC (d : Nat) (H : Aa) (ts : List Nat) (raw cells : List AV) (ids : List Nat) : Prop := Cc (Bx An E0.tp H d) ts raw = some (cells, ids)
theorem OwnC.frame {d : Nat} {H H' : Aa} {ts : List Nat} {raw cells : List AV} {ids : List Nat} (h : OwnC d H ts raw cells ids) (hs : ∀ i ∈ ids, H'[i]? = H[i]?) : OwnC d H' ts raw cells ids :=
 Ec (fun t x a h hi => Di d t x a h fun i hi' => hs i (hi i hi')) h
theorem OwnC.lt {d : Nat} {H : Aa} {ts : List Nat} {raw cells : List AV} {ids : List Nat} (h : OwnC d H ts raw cells ids) : ∀ i ∈ ids, i < H.length := Om (fun t x a h => Kk d t x a h) h
theorem OwnC.grow {d : Nat} {H : Aa} {ts : List Nat} {raw cells : List AV} {ids : List Nat} (h : OwnC d H ts raw cells ids) (X : List Gm) : OwnC d (H ++ X) ts raw cells ids :=
 h.frame fun i hi => zag (h.lt i hi)
theorem OwnC.append {d : Nat} {H : Aa} {ts us : List Nat} {raw raw' cells cells' : List AV} {ids ids' : List Nat} (h : OwnC d H ts raw cells ids) (h' : OwnC d H us raw' cells' ids') : OwnC d H (ts ++ us) (raw ++ raw') (cells ++ cells') (ids ++ ids') := F8 h h'
theorem OwnC.len {d : Nat} {H : Aa} {ts : List Nat} {raw cells : List AV} {ids : List Nat} (h : OwnC d H ts raw cells ids) : ts.length = raw.length ∧ cells.length = raw.length := Sl h
def OwnS (d : Nat) (H : Aa) (w : Nat) (cty : List Nat) (x : AV) (k : Nat) (cells : List AV) : Prop :=
 (x = .nl ∧ k = 0 ∧ cells = []) ∨ ∃ id raw ids, x = .sl id 0 k w ∧ H[id]? = some ⟨raw, true, true⟩ ∧ raw.length = k * w ∧ OwnC d H (zad k cty).flatten raw cells ids ∧ (id :: ids).Nodup
theorem OwnS.nil (d : Nat) (H : Aa) (w : Nat) (cty : List Nat) : OwnS d H w cty .nl 0 [] := .inl ⟨rfl, rfl, rfl⟩
theorem OwnS.grow {d : Nat} {H : Aa} {w : Nat} {cty : List Nat} {x : AV} {k : Nat} {cells : List AV} (h : OwnS d H w cty x k cells) (X : List Gm) : OwnS d (H ++ X) w cty x k cells := by
 rcases h with h | ⟨id, raw, ids, h1, h2, h3, h4, h5⟩
 ·exact .inl h
 ·exact .inr ⟨id, raw, ids, h1, by rw [zag (zac.1 h2).1]; exact h2, h3, h4.grow X, h5⟩
variable {β : Type} {n : Nat} {r : Option β}
theorem Zv (A : Aa) (b b' : Gm) (R : Aa) : (A ++ b :: R).set A.length b' = A ++ b' :: R := by
 rw [List.set_append_right _ _ (zai _), zaI]
 rfl
theorem Iy (A : Aa) (b : Gm) (R : Aa) : (A ++ b :: R)[A.length]? = some b := by
 rw [zaf (zai _), zaI]
 rfl
theorem Aaa {d : Nat} {H X : Aa} {w bytes : Nat} {cty : List Nat} {x : AV} {k : Nat} {cells er ec : List AV} {eids : List Nat} {K : KO β} (hx : OwnS d H w cty x k cells) (hw : er.length = w) (hl : er.all Al = true)
  (he : OwnC d (H ++ X) cty er ec eids) (hn : eids.Nodup) (hge : ∀ i ∈ eids, H.length ≤ i) (hb : (k + 1) * bytes ≤ 140737488355328)
  (h : ∀ x' H', OwnS d H' w cty x' (k + 1) (cells ++ ec) → K x' H' = r) :
  Fi 1 w er true (H ++ X) (fun y G => Ha w bytes x y G K) = r := by
 have hy : ∀ G : Aa, Cw (G ++ [⟨er, true, true⟩]) w (.sl G.length 0 1 w) = some er := by
  intro G
  simp only [Cw, if_true, zbv, Aw, Iy G _ [], zaw, hw, zai, za6]
  rw [← hw, za3]
 have hell : (H ++ X).length ∉ eids := fun hm => Nat.lt_irrefl _ (he.lt _ hm)
 rcases hx with ⟨rfl, rfl, rfl⟩ | ⟨id, raw, ids, rfl, h2, h3, h4, h5⟩
 ·simp only [Fi, Ha, Gn, zab, hy]
  rw [show Cw (H ++ X ++ [⟨er, true, true⟩]) w .nl = some [] from rfl]
  simp only [zab, L8]
  rw [if_pos hb, if_pos hl]
  refine h _ _ (.inr ⟨_, er, eids, rfl, ?_, by simp [hw], ?_, ?_⟩)
  ·rw [zaf (zai _), zaI]
   rfl
  ·simp only [zaw, List.replicate_one, zaD, List.flatten_nil, zam, zah]
   exact (he.grow _).grow _
  ·rw [zaH]
   refine ⟨fun hm => ?_, hn⟩
   have := he.lt _ hm
   simp at this
   omega
 ·have hid : id < H.length := (zac.1 h2).1
  have hg : (H ++ X ++ [(⟨er, true, true⟩ : Gm)])[id]? = some ⟨raw, true, true⟩ := by
   rw [zaj, zag hid]
   exact h2
  have hcx : Cw (H ++ X ++ [⟨er, true, true⟩]) w (.sl id 0 k w) = some raw := by
   simp only [Cw, if_true, Aw, hg, zaw, h3, zai, za6]
   rw [← h3, za3]
  simp only [Fi, Ha, Gn, zab, hy, hcx, L8, hg, if_true]
  rw [if_pos hb, if_pos hl]
  have hn5 := zaH.1 h5
  have hne : ∀ i ∈ ids, i ≠ id := fun i hi e => hn5.1 (e ▸ hi)
  have hne2 : ∀ i ∈ eids, i ≠ id := fun i hi e => by
   have := hge i hi
   omega
  refine h _ _ (.inr ⟨_, raw ++ er, ids ++ eids, rfl, ?_, by simp [h3, hw, zbG], ?_, ?_⟩)
  ·rw [zaf (zai _), zaI]
   rfl
  ·have e : (zad (k + 1) cty).flatten = (zad k cty).flatten ++ cty := by
    rw [List.replicate_succ', za1]
    simp
   rw [e]
   refine OwnC.append ?_ ?_
   ·refine OwnC.grow (OwnC.frame (H := H ++ X ++ [⟨er, true, true⟩]) ((h4.grow X).grow _) fun i hi => ?_) _
    rw [za4 (fun e => hne i hi e.symm)]
   ·refine OwnC.grow (OwnC.frame (H := H ++ X ++ [⟨er, true, true⟩]) (he.grow _) fun i hi => ?_) _
    rw [za4 (fun e => hne2 i hi e.symm)]
  ·rw [zaH]
   refine ⟨fun hm => ?_, ?_⟩
   ·rcases za9.1 hm with hm | hm
    ·have := h4.lt _ hm
     simp at this
     omega
    ·have := he.lt _ hm
     simp at this
     omega
   ·rw [zaJ]
    refine ⟨hn5.2, hn, fun a ha b hb e => ?_⟩
    have h1 := h4.lt a ha
    have h2 := hge b hb
    omega
theorem Aa9 {d : Nat} {H : Aa} {ts : List Nat} {cs : List AV} (h : El (Gp An E0.tp d) ts cs) : OwnC d (H ++ (Bu An E0.tp H.length ts cs).2) ts (Bu An E0.tp H.length ts cs).1 cs (zaW H.length (Bu An E0.tp H.length ts cs).2.length) :=
 Ig (fun ty t N h h' _ => Fu d ty t N h h') ts cs H.length h (Jk _ _) (E3 _ _ _)
theorem Q6 {d : Nat} {H : Aa} {w tyS k : Nat} {cty : List Nat} {x : AV} {cells : List AV} (hty : ∃ i j, An tyS = some i ∧ An i.elem = some j ∧ j.size = w ∧ j.cty = cty) (h : OwnS d H w cty x k cells) : ∃ ids, Bx An E0.tp H (d + 1) tyS x = some (.ro k cells, ids) ∧ ids.Nodup := by
 rcases h with ⟨rfl, rfl, rfl⟩ | ⟨id, raw, ids, rfl, h2, h3, h4, h5⟩
 ·exact ⟨[], rfl, zb3⟩
 ·obtain ⟨i, j, e1, e2, rfl, rfl⟩ := hty
  refine ⟨id :: ids, ?_, h5⟩
  rw [Ft]
  have ha : Fh H id = true := by simp only [Fh, h2]
  have hr : Aw H id 0 (k * j.size) = some raw := by
   simp only [Aw, h2, if_true, zaw, h3, zai, za6]
   rw [← h3, za3]
  have h4' : Cc (Bx An E0.tp H d) (zad k j.cty).flatten raw = some (cells, ids) := h4
  simp only [e1, e2, zab, if_true, ha, hr, h4']
end
section
open Go
section
variable {ti : Nat → Option TI} {tp : Nat → Option (List Nat)} {H : Aa}
theorem Mo {d d' : Nat} (hd : ∀ ty x t I, Bx ti tp H d ty x = some (t, I) → Gp ti tp d' ty t → Bx ti tp H d' ty x = some (t, I)) : ∀ (ts : List Nat) (xs cells : List AV) (I : List Nat), Cc (Bx ti tp H d) ts xs = some (cells, I) → El (Gp ti tp d') ts cells → Cc (Bx ti tp H d') ts xs = some (cells, I)
 | ts, [], cells, I, h, _ => by
  obtain ⟨rfl, e⟩ := Iu h
  cases e
  rfl
 | [], _ :: _, _, _, h, _ => by simp [Cc] at h
 | t :: ts, x :: xs, cells, I, h, ho => by
  obtain ⟨a, b, h1, h2, e⟩ := Fe h
  cases e
  have e1 := hd t x a.1 a.2 h1 ho.1
  have e2 := Mo hd ts xs b.1 b.2 h2 ho.2
  rw [Cc, e1, zab, e2]
  rfl
theorem H0 : ∀ (d d' ty : Nat) (x t : AV) (I : List Nat), Bx ti tp H d ty x = some (t, I) → Gp ti tp d' ty t → Bx ti tp H d' ty x = some (t, I)
 | 0, _, _, _, _, _, h, _ => by simp [Bx] at h
 | d + 1, 0, _, _, _, _, _, ho => by cases ho
 | d + 1, d' + 1, ty, x, t, I, h, ho => by
  cases x with
  | sc v =>
   obtain ⟨rfl, rfl⟩ : AV.sc v = t ∧ [] = I := by simpa [Bx] using h
   rfl
  | nl =>
   obtain ⟨rfl, rfl⟩ : AV.ro 0 [] = t ∧ [] = I := by simpa [Bx] using h
   rfl
  | sl id off n z =>
   rw [Ft] at h ⊢
   simp only [zaa] at h
   obtain ⟨i, h1, j, h2, h3⟩ := h
   split at h3
   case isFalse => cases h3
   rename_i hz
   split at h3
   case isFalse => cases h3
   rename_i ha
   simp only [zaa] at h3
   obtain ⟨cs, h4, q, h5, h6⟩ := h3
   obtain ⟨rfl, rfl⟩ : AV.ro n q.1 = t ∧ id :: q.2 = I := by simpa using h6
   obtain ⟨i', j', g1, g2, g3, g4⟩ := ho
   rw [h1] at g1
   cases g1
   rw [h2] at g2
   cases g2
   have e3 := Mo (fun ty x t I h ho => H0 d d' ty x t I h ho) _ _ _ _ h5 g4
   rw [hz] at h4
   simp only [h1, h2, zab, hz, if_true, ha, h4, e3]
  | agg cs =>
   rw [Ek] at h ⊢
   simp only [zaa] at h
   obtain ⟨i, h1, q, h2, h3⟩ := h
   obtain ⟨rfl, rfl⟩ : AV.agg q.1 = t ∧ q.2 = I := by simpa using h3
   obtain ⟨i', g1, g2⟩ := ho
   rw [h1] at g1
   cases g1
   have e3 := Mo (fun ty x t I h ho => H0 d d' ty x t I h ho) _ _ _ _ h2 g2
   rw [h1, zab, e3]
   rfl
  | tup cs =>
   rw [F4] at h ⊢
   simp only [zaa] at h
   obtain ⟨i, h1, q, h2, h3⟩ := h
   obtain ⟨rfl, rfl⟩ : AV.tup q.1 = t ∧ q.2 = I := by simpa using h3
   obtain ⟨i', g1, g2⟩ := ho
   rw [h1] at g1
   cases g1
   have e3 := Mo (fun ty x t I h ho => H0 d d' ty x t I h ho) _ _ _ _ h2 g2
   rw [h1, zab, e3]
   rfl
  | _ => simp [Bx] at h
theorem Un {d : Nat} (hd : ∀ ty x t I, Bx ti tp H d ty x = some (t, I) → Dn H d x = some t) : ∀ (ts : List Nat) (xs cells : List AV) (I : List Nat), Cc (Bx ti tp H d) ts xs = some (cells, I) → xs.mapM (Dn H d) = some cells
 | ts, [], cells, I, h => by
  obtain ⟨rfl, e⟩ := Iu h
  cases e
  rfl
 | [], _ :: _, _, _, h => by simp [Cc] at h
 | t :: ts, x :: xs, cells, I, h => by
  obtain ⟨a, b, h1, h2, e⟩ := Fe h
  cases e
  simp only [zaU, hd t x a.1 a.2 h1, Un hd ts xs b.1 b.2 h2, zbg, zaS, zab]
theorem Mp : ∀ (d ty : Nat) (x t : AV) (I : List Nat), Bx ti tp H d ty x = some (t, I) → Dn H d x = some t
 | 0, _, _, _, _, h => by simp [Bx] at h
 | d + 1, ty, x, t, I, h => by
  have ih := Un (ti := ti) (tp := tp) (H := H) (d := d) (fun ty x t I h => Mp d ty x t I h)
  cases x with
  | sc v =>
   obtain ⟨rfl, rfl⟩ : AV.sc v = t ∧ [] = I := by simpa [Bx] using h
   rfl
  | nl =>
   obtain ⟨rfl, rfl⟩ : AV.ro 0 [] = t ∧ [] = I := by simpa [Bx] using h
   rfl
  | sl id off n z =>
   rw [Ft] at h
   simp only [zaa] at h
   obtain ⟨i, h1, j, h2, h3⟩ := h
   split at h3
   case isFalse => cases h3
   split at h3
   case isFalse => cases h3
   simp only [zaa] at h3
   obtain ⟨cs, h4, q, h5, h6⟩ := h3
   obtain ⟨rfl, rfl⟩ : AV.ro n q.1 = t ∧ id :: q.2 = I := by simpa using h6
   rw [O4, h4, zab, ih _ _ _ _ h5]
   rfl
  | agg cs =>
   rw [Ek] at h
   simp only [zaa] at h
   obtain ⟨i, h1, q, h2, h3⟩ := h
   obtain ⟨rfl, rfl⟩ : AV.agg q.1 = t ∧ q.2 = I := by simpa using h3
   rw [Nb, ih _ _ _ _ h2]
   rfl
  | tup cs =>
   rw [F4] at h
   simp only [zaa] at h
   obtain ⟨i, h1, q, h2, h3⟩ := h
   obtain ⟨rfl, rfl⟩ : AV.tup q.1 = t ∧ q.2 = I := by simpa using h3
   show (cs.mapM (Dn H d)).bind _ = _
   rw [ih _ _ _ _ h2]
   rfl
  | _ => simp [Bx] at h
theorem K1 {f g : Nat → AV → Prop} (hfg : ∀ t x, f t x → g t x) : ∀ {ts : List Nat} {cs : List AV}, El f ts cs → El g ts cs
 | [], [], h => h
 | _ :: ts, _ :: cs, h => ⟨hfg _ _ h.1, K1 hfg h.2⟩
theorem Ol : ∀ (d ty : Nat) (x : AV), Gp ti tp d ty x → Gp ti tp (d + 1) ty x
 | 0, _, _, h => by cases h
 | d + 1, ty, x, h => by
  cases x with
  | sc v => trivial
  | ro n cells =>
   obtain ⟨i, j, h1, h2, h3, h4⟩ := h
   exact ⟨i, j, h1, h2, h3, K1 (Ol d) h4⟩
  | agg cs =>
   obtain ⟨i, h1, h2⟩ := h
   exact ⟨i, h1, K1 (Ol d) h2⟩
  | tup cs =>
   obtain ⟨i, h1, h2⟩ := h
   exact ⟨i, h1, K1 (Ol d) h2⟩
  | _ => cases h
theorem Ay {d d' ty : Nat} {x : AV} (h : Gp ti tp d ty x) (hd : d ≤ d') : Gp ti tp d' ty x := by
 induction hd with
 | refl => exact h
 | step _ ih => exact Ol _ _ _ ih
theorem Aa2 {d d' : Nat} {ts : List Nat} {cs : List AV} (h : El (Gp ti tp d) ts cs) (hd : d ≤ d') : El (Gp ti tp d') ts cs := K1 (fun _ _ h => Ay h hd) h
end
inductive Ck where
 | blk (id : Nat) (cs : List AV) (a : Bool)
 | own (x : AV) (ty : Nat) (t : AV)
 | shr (x : AV) (ty : Nat) (t : AV) (y : AV) (ty' : Nat) (t' : AV)
 | shs (x : AV) (ty : Nat) (t : AV) (ys : List (AV × Nat × AV))
def CkOk (H : Aa) (c : Ck) (I : List Nat) : Prop :=
 match c with
 | .blk id cs a => I = [id] ∧ H[id]? = some ⟨cs, true, a⟩
 | .own x ty t => Al x = true ∧ Gp An E0.tp 6 ty t ∧ Bx An E0.tp H 6 ty x = some (t, I)
 | .shr x ty t y ty' t' => (Al x = true ∧ Gp An E0.tp 6 ty t ∧ Bx An E0.tp H 6 ty x = some (t, I)) ∧ Gp An E0.tp 6 ty' t' ∧ ∃ J, Bx An E0.tp H 6 ty' y = some (t', J) ∧ ∀ i ∈ J, i ∈ I
 | .shs x ty t ys => (Al x = true ∧ Gp An E0.tp 6 ty t ∧ Bx An E0.tp H 6 ty x = some (t, I)) ∧ ∀ q ∈ ys, Gp An E0.tp 6 q.2.1 q.2.2 ∧ ∃ J, Bx An E0.tp H 6 q.2.1 q.1 = some (q.2.2, J) ∧ ∀ i ∈ J, i ∈ I
def SepI (H : Aa) : List Ck → List Nat → Prop
 | [], I => I = []
 | c :: L, I => ∃ J R, I = J ++ R ∧ CkOk H c J ∧ SepI H L R
def Sep (H : Aa) (L : List Ck) : Prop := ∃ I, SepI H L I ∧ I.Nodup
inductive Pk : List Ck → Ck → List Ck → Prop
 | here {c : Ck} {L : List Ck} : Pk (c :: L) c L
 | there {a c : Ck} {L L' : List Ck} : Pk L c L' → Pk (a :: L) c (a :: L')
section
variable {H H' : Aa} {L L' L1 L2 : List Ck} {c : Ck} {I J R : List Nat}
theorem Io : Sep H [] := ⟨[], rfl, zb3⟩
theorem CkOk.frame (h : CkOk H c I) (hs : ∀ i ∈ I, H'[i]? = H[i]?) : CkOk H' c I := by
 cases c with
 | blk id cs a =>
  obtain ⟨rfl, h2⟩ := h
  exact ⟨rfl, by rw [hs id (by simp)]; exact h2⟩
 | own x ty t => exact ⟨h.1, h.2.1, Di 6 ty x _ h.2.2 hs⟩
 | shr x ty t y ty' t' =>
  obtain ⟨⟨h1, h2, h3⟩, h4, J, h5, h6⟩ := h
  exact ⟨⟨h1, h2, Di 6 ty x _ h3 hs⟩, h4, J, Di 6 ty' y _ h5 fun i hi => hs i (h6 i hi), h6⟩
 | shs x ty t ys =>
  obtain ⟨⟨h1, h2, h3⟩, h4⟩ := h
  exact ⟨⟨h1, h2, Di 6 ty x _ h3 hs⟩, fun q hq => by
   obtain ⟨g1, J, g2, g3⟩ := h4 q hq
   exact ⟨g1, J, Di 6 _ _ _ g2 fun i hi => hs i (g3 i hi), g3⟩⟩
theorem CkOk.lt (h : CkOk H c I) : ∀ i ∈ I, i < H.length := by
 cases c with
 | blk id cs a =>
  obtain ⟨rfl, h2⟩ := h
  intro i hi
  rw [zbm] at hi
  subst hi
  exact (zac.1 h2).1
 | own x ty t => exact Kk 6 ty x _ h.2.2
 | shr x ty t y ty' t' => exact Kk 6 ty x _ h.1.2.2
 | shs x ty t ys => exact Kk 6 ty x _ h.1.2.2
theorem SepI.frame : ∀ {L : List Ck} {I : List Nat}, SepI H L I → (∀ i ∈ I, H'[i]? = H[i]?) → SepI H' L I
 | [], I, h, _ => h
 | c :: L, I, h, hs => by
  obtain ⟨J, R, rfl, h1, h2⟩ := h
  exact ⟨J, R, rfl, h1.frame fun i hi => hs i (zat _ hi), h2.frame fun i hi => hs i (zaq _ hi)⟩
theorem SepI.lt : ∀ {L : List Ck} {I : List Nat}, SepI H L I → ∀ i ∈ I, i < H.length
 | [], I, h => by
  cases (show I = [] from h)
  intro i hi
  cases hi
 | c :: L, I, h => by
  obtain ⟨J, R, rfl, h1, h2⟩ := h
  intro i hi
  rcases za9.1 hi with hi | hi
  ·exact h1.lt i hi
  ·exact h2.lt i hi
theorem SepI.grow (h : SepI H L I) (X : List Gm) : SepI (H ++ X) L I := h.frame fun i hi => zag (h.lt i hi)
theorem Sep.grow (h : Sep H L) (X : List Gm) : Sep (H ++ X) L := by
 obtain ⟨I, h1, h2⟩ := h
 exact ⟨I, h1.grow X, h2⟩
theorem Sep.new {X : List Gm} (hs : Sep H L) (hc : CkOk (H ++ X) c J) (hJ : J.Nodup) (hge : ∀ i ∈ J, H.length ≤ i) : Sep (H ++ X) (c :: L) := by
 obtain ⟨I, h1, h2⟩ := hs
 refine ⟨J ++ I, ⟨J, I, rfl, hc, h1.grow X⟩, zaJ.2 ⟨hJ, h2, fun a ha b hb e => ?_⟩⟩
 have := h1.lt b hb
 have := hge a ha
 omega
theorem Pk.sepI : ∀ {L L' : List Ck} {c : Ck} {I : List Nat}, Pk L c L' → SepI H L I → ∃ J R, CkOk H c J ∧ SepI H L' R ∧ I.Perm (J ++ R)
 | _, _, _, _, .here, h => by
  obtain ⟨J, R, rfl, h1, h2⟩ := h
  exact ⟨J, R, h1, h2, zb1.refl _⟩
 | _, _, _, _, .there p, h => by
  obtain ⟨J, R, rfl, h1, h2⟩ := h
  obtain ⟨J', R', g1, g2, g3⟩ := p.sepI h2
  refine ⟨J', J ++ R', g1, ⟨J, R', rfl, h1, g2⟩, ?_⟩
  refine (zb1.append_left J g3).trans ?_
  rw [← zaj, ← zaj]
  exact zb1.append_right R' List.perm_append_comm
theorem Sep.pick (h : Sep H L) (p : Pk L c L') : Sep H (c :: L') := by
 obtain ⟨I, h1, h2⟩ := h
 obtain ⟨J, R, g1, g2, g3⟩ := p.sepI h1
 exact ⟨J ++ R, ⟨J, R, rfl, g1, g2⟩, g3.nodup_iff.1 h2⟩
theorem Sep.tail (h : Sep H (c :: L)) : Sep H L := by
 obtain ⟨I, ⟨J, R, rfl, h1, h2⟩, h3⟩ := h
 exact ⟨R, h2, (zaJ.1 h3).2.1⟩
theorem Sep.blk {id : Nat} {cs : List AV} {a : Bool} (h : Sep H L) (p : Pk L (.blk id cs a) L') : H[id]? = some ⟨cs, true, a⟩ := by
 obtain ⟨I, ⟨J, R, rfl, h1, h2⟩, h3⟩ := h.pick p
 exact h1.2
theorem Sep.put {id : Nat} {cs : List AV} {a : Bool} (h : Sep H L) (p : Pk L (.blk id cs a) L') (cs' : List AV) (a' : Bool) : Sep (H.set id ⟨cs', true, a'⟩) (.blk id cs' a' :: L') := by
 obtain ⟨I, ⟨J, R, rfl, ⟨rfl, h1⟩, h2⟩, h3⟩ := h.pick p
 have hn := (zaH.1 h3).1
 have hl := (zac.1 h1).1
 refine ⟨[id] ++ R, ⟨[id], R, rfl, ⟨rfl, by rw [zaY hl]⟩, h2.frame fun i hi => ?_⟩, h3⟩
 rw [za4]
 rintro rfl
 exact hn hi
theorem Sep.own {x t : AV} {ty : Nat} (h : Sep H L) (p : Pk L (.own x ty t) L') : Al x = true ∧ Gp An E0.tp 6 ty t ∧ ∃ I, Bx An E0.tp H 6 ty x = some (t, I) ∧ I.Nodup := by
 obtain ⟨I, ⟨J, R, rfl, ⟨h0, h1, h1'⟩, h2⟩, h3⟩ := h.pick p
 exact ⟨h0, h1, J, h1', (zaJ.1 h3).1⟩
theorem Sep.seen {x t y t' : AV} {ty ty' : Nat} (h : Sep H L) (p : Pk L (.shr x ty t y ty' t') L') : Gp An E0.tp 6 ty' t' ∧ ∃ I, Bx An E0.tp H 6 ty' y = some (t', I) := by
 obtain ⟨I, ⟨J, R, rfl, ⟨h0, h1, J', h1', h3⟩, h2⟩, h4⟩ := h.pick p
 exact ⟨h1, J', h1'⟩
theorem Sep.toShs {x t : AV} {ty : Nat} (h : Sep H L) (p : Pk L (.own x ty t) L') : Sep H (.shs x ty t [] :: L') := by
 obtain ⟨I, ⟨J, R, rfl, h0, h2⟩, h3⟩ := h.pick p
 exact ⟨J ++ R, ⟨J, R, rfl, ⟨h0, fun q hq => by cases hq⟩, h2⟩, h3⟩
theorem Sep.ofShs {x t : AV} {ty : Nat} {ys : List (AV × Nat × AV)} (h : Sep H L) (p : Pk L (.shs x ty t ys) L') : Sep H (.own x ty t :: L') := by
 obtain ⟨I, ⟨J, R, rfl, ⟨h0, _⟩, h2⟩, h3⟩ := h.pick p
 exact ⟨J ++ R, ⟨J, R, rfl, h0, h2⟩, h3⟩
theorem Sep.seenS {x t : AV} {ty k : Nat} {ys : List (AV × Nat × AV)} {q : AV × Nat × AV} (h : Sep H L) (p : Pk L (.shs x ty t ys) L') (hk : ys[k]? = some q) : Gp An E0.tp 6 q.2.1 q.2.2 ∧ ∃ I, Bx An E0.tp H 6 q.2.1 q.1 = some (q.2.2, I) := by
 obtain ⟨I, ⟨J, R, rfl, ⟨h0, h1⟩, h2⟩, h4⟩ := h.pick p
 obtain ⟨g1, J', g2, _⟩ := h1 q (List.mem_of_getElem? hk)
 exact ⟨g1, J', g2⟩
theorem Sep.forget {x t y t' : AV} {ty ty' : Nat} (h : Sep H L) (p : Pk L (.shr x ty t y ty' t') L') : Sep H (.own x ty t :: L') := by
 obtain ⟨I, ⟨J, R, rfl, ⟨h0, _⟩, h2⟩, h4⟩ := h.pick p
 exact ⟨J ++ R, ⟨J, R, rfl, h0, h2⟩, h4⟩
theorem Sep.nl {ty : Nat} (h : Sep H L) (hty : ∃ i j, An ty = some i ∧ An i.elem = some j) : Sep H (.own .nl ty (.ro 0 []) :: L) := by
 obtain ⟨I, h1, h2⟩ := h
 obtain ⟨i, j, e1, e2⟩ := hty
 exact ⟨[] ++ I, ⟨[], I, rfl, ⟨rfl, ⟨i, j, e1, e2, by simp, by simp [El]⟩, rfl⟩, h1⟩, h2⟩
inductive OwnR : List Ck → List AV → List Nat → List AV → List Ck → Prop
 | nil {L : List Ck} : OwnR L [] [] [] L
 | sc {L L' : List Ck} {v : Value} {raw cells : List AV} {ty : Nat} {tys : List Nat} : OwnR L raw tys cells L' → OwnR L (.sc v :: raw) (ty :: tys) (.sc v :: cells) L'
 | nl {L L' : List Ck} {raw cells : List AV} {ty : Nat} {tys : List Nat} : OwnR L raw tys cells L' → OwnR L (.nl :: raw) (ty :: tys) (.ro 0 [] :: cells) L'
 | own {L L1 L' : List Ck} {x t : AV} {raw cells : List AV} {ty : Nat} {tys : List Nat} : Pk L (.own x ty t) L1 → OwnR L1 raw tys cells L' → OwnR L (x :: raw) (ty :: tys) (t :: cells) L'
 | agg {L L1 L' : List Ck} {cs ts raw cells : List AV} {ty : Nat} {tys cty : List Nat} : (∃ i, An ty = some i ∧ i.cty = cty) → OwnR L cs cty ts L1 → OwnR L1 raw tys cells L' → OwnR L (.agg cs :: raw) (ty :: tys) (.agg ts :: cells) L'
theorem OwnR.sound : ∀ {L L' : List Ck} {raw cells : List AV} {tys : List Nat} {I : List Nat}, OwnR L raw tys cells L' → SepI H L I → ∀ d, El (Gp An E0.tp d) tys cells → ∃ J R, Cc (Bx An E0.tp H d) tys raw = some (cells, J) ∧ SepI H L' R ∧ I.Perm (J ++ R)
 | _, _, _, _, _, I, .nil, h, d, _ => ⟨[], I, rfl, h, zb1.refl _⟩
 | _, _, _, _, _, I, .sc q, h, d + 1, ho => by
  obtain ⟨J, R, h1, h2, h3⟩ := q.sound h (d + 1) ho.2
  refine ⟨J, R, ?_, h2, h3⟩
  rw [Cc, Hf, zab, h1]
  rfl
 | _, _, _, _, _, I, .nl q, h, d + 1, ho => by
  obtain ⟨J, R, h1, h2, h3⟩ := q.sound h (d + 1) ho.2
  refine ⟨J, R, ?_, h2, h3⟩
  rw [Cc, show Bx An E0.tp H (d + 1) _ .nl = some (.ro 0 [], []) from rfl, zab, h1]
  rfl
 | _, _, _, _, _, I, .own p q, h, d, ho => by
  obtain ⟨J1, R1, g1, g2, g3⟩ := p.sepI h
  obtain ⟨J, R, h1, h2, h3⟩ := q.sound g2 d ho.2
  have e := H0 6 d _ _ _ _ g1.2.2 ho.1
  refine ⟨J1 ++ J, R, ?_, h2, ?_⟩
  ·rw [Cc, e, zab, h1]
   rfl
  ·refine g3.trans ?_
   rw [zaj]
   exact zb1.append_left J1 h3
 | _, _, _, _, _, I, .agg hty p q, h, d + 1, ho => by
  obtain ⟨i, e1, rfl⟩ := hty
  obtain ⟨i', g1, g2⟩ := ho.1
  rw [e1] at g1
  cases g1
  obtain ⟨J1, R1, a1, a2, a3⟩ := p.sound h (d + 1) (Aa2 g2 (Nat.le_succ d))
  obtain ⟨J, R, h1, h2, h3⟩ := q.sound a2 (d + 1) ho.2
  have a1' := Mo (fun ty x t I h ho => H0 (d + 1) d ty x t I h ho) _ _ _ _ a1 g2
  refine ⟨J1 ++ J, R, ?_, h2, ?_⟩
  ·rw [Cc, Ek, e1, zab, a1', zab, zab, h1]
   rfl
  ·refine a3.trans ?_
   rw [zaj]
   exact zb1.append_left J1 h3
 | _, _, _, _, _, I, .sc q, h, 0, ho => by cases ho.1
 | _, _, _, _, _, I, .nl q, h, 0, ho => by cases ho.1
 | _, _, _, _, _, I, .agg _ p q, h, 0, ho => by cases ho.1
end
end
section
open Go
theorem A8 {a0 x : Ck} {L : List Ck} : Pk (a0 :: x :: L) x (a0 :: L) := .there (.here)
theorem Co {a0 a1 x : Ck} {L : List Ck} : Pk (a0 :: a1 :: x :: L) x (a0 :: a1 :: L) := .there (.there (.here))
theorem C1 {a0 a1 a2 x : Ck} {L : List Ck} : Pk (a0 :: a1 :: a2 :: x :: L) x (a0 :: a1 :: a2 :: L) := .there (.there (.there (.here)))
theorem Fq {a0 a1 a2 a3 x : Ck} {L : List Ck} : Pk (a0 :: a1 :: a2 :: a3 :: x :: L) x (a0 :: a1 :: a2 :: a3 :: L) := .there (.there (.there (.there (.here))))
theorem Jg {a0 a1 a2 a3 a4 x : Ck} {L : List Ck} : Pk (a0 :: a1 :: a2 :: a3 :: a4 :: x :: L) x (a0 :: a1 :: a2 :: a3 :: a4 :: L) := .there (.there (.there (.there (.there (.here)))))
theorem Tl {a0 a1 a2 a3 a4 a5 x : Ck} {L : List Ck} : Pk (a0 :: a1 :: a2 :: a3 :: a4 :: a5 :: x :: L) x (a0 :: a1 :: a2 :: a3 :: a4 :: a5 :: L) := .there (.there (.there (.there (.there (.there (.here))))))
theorem Qs {a0 a1 a2 a3 a4 a5 a6 x : Ck} {L : List Ck} : Pk (a0 :: a1 :: a2 :: a3 :: a4 :: a5 :: a6 :: x :: L) x (a0 :: a1 :: a2 :: a3 :: a4 :: a5 :: a6 :: L) := .there (.there (.there (.there (.there (.there (.there (.here)))))))
theorem zP8 {a0 a1 a2 a3 a4 a5 a6 a7 x : Ck} {L : List Ck} : Pk (a0 :: a1 :: a2 :: a3 :: a4 :: a5 :: a6 :: a7 :: x :: L) x (a0 :: a1 :: a2 :: a3 :: a4 :: a5 :: a6 :: a7 :: L) := .there (.there (.there (.there (.there (.there (.there (.there (.here))))))))
theorem D0 {a0 a1 a2 a3 a4 a5 a6 a7 a8 x : Ck} {L : List Ck} : Pk (a0 :: a1 :: a2 :: a3 :: a4 :: a5 :: a6 :: a7 :: a8 :: x :: L) x (a0 :: a1 :: a2 :: a3 :: a4 :: a5 :: a6 :: a7 :: a8 :: L) := .there (.there (.there (.there (.there (.there (.there (.there (.there (.here)))))))))
theorem Xx {a0 a1 a2 a3 a4 a5 a6 a7 a8 a9 x : Ck} {L : List Ck} : Pk (a0 :: a1 :: a2 :: a3 :: a4 :: a5 :: a6 :: a7 :: a8 :: a9 :: x :: L) x (a0 :: a1 :: a2 :: a3 :: a4 :: a5 :: a6 :: a7 :: a8 :: a9 :: L) := .there (.there (.there (.there (.there (.there (.there (.there (.there (.there (.here))))))))))
theorem K7 {a0 a1 a2 a3 a4 a5 a6 a7 a8 a9 a10 x : Ck} {L : List Ck} : Pk (a0 :: a1 :: a2 :: a3 :: a4 :: a5 :: a6 :: a7 :: a8 :: a9 :: a10 :: x :: L) x (a0 :: a1 :: a2 :: a3 :: a4 :: a5 :: a6 :: a7 :: a8 :: a9 :: a10 :: L) := .there (.there (.there (.there (.there (.there (.there (.there (.there (.there (.there (.here)))))))))))
theorem AkQ {a0 a1 a2 a3 a4 a5 a6 a7 a8 a9 a10 a11 x : Ck} {L : List Ck} : Pk (a0 :: a1 :: a2 :: a3 :: a4 :: a5 :: a6 :: a7 :: a8 :: a9 :: a10 :: a11 :: x :: L) x (a0 :: a1 :: a2 :: a3 :: a4 :: a5 :: a6 :: a7 :: a8 :: a9 :: a10 :: a11 :: L) := .there (.there (.there (.there (.there (.there (.there (.there (.there (.there (.there (.there (.here))))))))))))
theorem Acm {a0 a1 a2 a3 a4 a5 a6 a7 a8 a9 a10 a11 a12 x : Ck} {L : List Ck} : Pk (a0 :: a1 :: a2 :: a3 :: a4 :: a5 :: a6 :: a7 :: a8 :: a9 :: a10 :: a11 :: a12 :: x :: L) x (a0 :: a1 :: a2 :: a3 :: a4 :: a5 :: a6 :: a7 :: a8 :: a9 :: a10 :: a11 :: a12 :: L) := .there (.there (.there (.there (.there (.there (.there (.there (.there (.there (.there (.there (.there (.here)))))))))))))
def Gd {β : Type} (G : Option β → Prop) (o : Option β) : Prop := G o
section
variable {β : Type} {n : Nat} {H : Aa} {L L' L1 L2 : List Ck} {G : Option β → Prop} {K : AV → Option β} {KH : KO β}
theorem D7 {a b : Option β} (e : a = b) (h : Gd G b) : Gd G a := by rw [e]; exact h
theorem Dz {cs : List AV} (hs : Sep H L) (h : ∀ i H', Sep H' (.blk i cs true :: L) → Gd G (KH (.ptr i 0) H')) : Gd G (Iw cs H fun x H => KH x H) :=
 h _ _ (hs.new (J := [H.length]) ⟨rfl, by rw [zaf (zai _), zaI]; rfl⟩ (by simp) (by simp))
theorem Bw {k w : Nat} {cs : List AV} {a : Bool} (hs : Sep H L) (h : ∀ i H', Sep H' (.blk i cs a :: L) → Gd G (KH (.sl i 0 k w) H')) : Gd G (Fi k w cs a H fun x H => KH x H) :=
 h _ _ (hs.new (J := [H.length]) ⟨rfl, by rw [zaf (zai _), zaI]; rfl⟩ (by simp) (by simp))
theorem Nd {x : AV} {cs : List AV} (hs : Sep H L) (hc : Cq x = some cs) (h : ∀ i H', Sep H' (.blk i cs true :: L) → Gd G (KH (.ptr i 0) H')) : Gd G (Or x H fun x H => KH x H) := by
 refine D7 (b := Iw cs H fun x H => KH x H) ?_ (Dz hs h)
 show (Cq x).bind _ = _
 rw [hc]
 rfl
theorem Gq {cs : List AV} (h : cs.all Ie = true) : Cq (.agg cs) = some cs := Ru h
theorem Ac {cs : List AV} (h : cs.all Al = true) : Cq (.agg cs) = some cs := by
 show (if cs.all Al then some cs else none) = _
 rw [if_pos h]
theorem Ab {x : AV} {xs : List AV} (h : Al x = true) (hs : xs.all Al = true) : (x :: xs).all Al = true := by
 rw [zaT, h, hs]
 rfl
theorem D3 {x : AV} (h : Al x = true) : Cq x = some [x] := by
 cases x <;> simp_all [Cq, Al]
theorem Bg {i o : Nat} {cs : List AV} {a : Bool} {c : AV} (hs : Sep H L) (hp : Pk L (.blk i cs a) L1) (hc : cs[o]? = some c) (h : Gd G (K c)) : Gd G (Cx false 1 (.ptr i o) H fun x => K x) := by
 refine D7 ?_ h
 obtain ⟨hlt, he⟩ := zac.1 hc
 have e : Aw H i o 1 = some [c] := by
  simp only [Aw, hs.blk hp, if_true]
  rw [if_pos (by omega), zbj hlt, he]
  rfl
 exact ldF e _
theorem Aec {i o w : Nat} {cs ds : List AV} {a : Bool} (hs : Sep H L) (hp : Pk L (.blk i cs a) L1) (hl : o + w ≤ cs.length) (hc : (cs.drop o).take w = ds) (h : Gd G (K (.agg ds))) : Gd G (Cx true w (.ptr i o) H fun x => K x) := by
 refine D7 ?_ h
 have e : Aw H i o w = some ds := by
  simp only [Aw, hs.blk hp, if_true]
  rw [if_pos hl, hc]
 exact ldT e _
theorem Af {i w : Nat} {cs : List AV} {a : Bool} (hs : Sep H L) (hp : Pk L (.blk i cs a) L1) (hl : cs.length = w) (h : Gd G (K (.agg cs))) : Gd G (Cx true w (.ptr i 0) H fun x => K x) :=
 Aec hs hp (by omega) (by rw [za6, ← hl, za3]) h
theorem Bt {i o w : Nat} {cs cs' ds : List AV} {a : Bool} {y : AV} {KS : Aa → Option β} (hs : Sep H L) (hp : Pk L (.blk i cs a) L1) (hy : Cq y = some ds) (hd : ds.length = w) (hl : o + w ≤ cs.length) (hc : Cd cs o ds = cs') (h : ∀ H', Sep H' (.blk i cs' a :: L1) → Gd G (KS H')) : Gd G (D5 w (.ptr i o) y H fun H => KS H) := by
 have hb := hs.blk hp
 refine D7 (Fv w i o y ⟨cs, true, a⟩ ds H _ hb hy hd hl rfl) ?_
 have := hs.put hp cs' a
 rw [← hc] at this
 exact h _ (by rw [← hc]; exact this)
theorem Ahe {cells : List AV} {c : AV} (hc : cells[0]? = some c) (h : Gd G (K c)) : Gd G (Cx false 1 (.rp cells) H fun x => K x) := by
 cases cells with
 | nil => cases hc
 | cons x xs =>
  obtain rfl : x = c := by simpa using hc
  refine D7 (Nr x xs H _) h
theorem AjQ {w : Nat} {cs rest : List AV} (hw : cs.length = w) (h : Gd G (K (.agg cs))) : Gd G (Cx true w (.rp (cs ++ rest)) H fun x => K x) := D7 (Qh w cs rest H _ hw) h
theorem Am {o i off o' : Nat} (e : off + o = o') (h : Gd G (K (.ptr i o'))) : Gd G (Ef o (.ptr i off) fun x => K x) := by subst e; exact h
theorem gf0 {i : Nat} (h : Gd G (K (.ptr i 0))) : Gd G (Ef 0 (.ptr i 0) fun x => K x) := Am rfl h
theorem gf1 {i : Nat} (h : Gd G (K (.ptr i 1))) : Gd G (Ef 1 (.ptr i 0) fun x => K x) := Am rfl h
theorem gf2 {i : Nat} (h : Gd G (K (.ptr i 2))) : Gd G (Ef 2 (.ptr i 0) fun x => K x) := Am rfl h
theorem gf3 {i : Nat} (h : Gd G (K (.ptr i 3))) : Gd G (Ef 3 (.ptr i 0) fun x => K x) := Am rfl h
theorem V1 {i : Nat} (h : Gd G (K (.ptr i 4))) : Gd G (Ef 4 (.ptr i 0) fun x => K x) := Am rfl h
theorem gf5 {i : Nat} (h : Gd G (K (.ptr i 5))) : Gd G (Ef 5 (.ptr i 0) fun x => K x) := Am rfl h
theorem gf6 {i : Nat} (h : Gd G (K (.ptr i 6))) : Gd G (Ef 6 (.ptr i 0) fun x => K x) := Am rfl h
theorem gf7 {i : Nat} (h : Gd G (K (.ptr i 7))) : Gd G (Ef 7 (.ptr i 0) fun x => K x) := Am rfl h
theorem gf8 {i : Nat} (h : Gd G (K (.ptr i 8))) : Gd G (Ef 8 (.ptr i 0) fun x => K x) := Am rfl h
theorem gf9 {i : Nat} (h : Gd G (K (.ptr i 9))) : Gd G (Ef 9 (.ptr i 0) fun x => K x) := Am rfl h
theorem AjR {i : Nat} (h : Gd G (K (.ptr i 10))) : Gd G (Ef 10 (.ptr i 0) fun x => K x) := Am rfl h
theorem AjS {i : Nat} (h : Gd G (K (.ptr i 11))) : Gd G (Ef 11 (.ptr i 0) fun x => K x) := Am rfl h
theorem AjT {i : Nat} (h : Gd G (K (.ptr i 12))) : Gd G (Ef 12 (.ptr i 0) fun x => K x) := Am rfl h
theorem AjU {i : Nat} (h : Gd G (K (.ptr i 13))) : Gd G (Ef 13 (.ptr i 0) fun x => K x) := Am rfl h
theorem AjV {i : Nat} (h : Gd G (K (.ptr i 14))) : Gd G (Ef 14 (.ptr i 0) fun x => K x) := Am rfl h
theorem AjW {i : Nat} (h : Gd G (K (.ptr i 15))) : Gd G (Ef 15 (.ptr i 0) fun x => K x) := Am rfl h
theorem AfX {i : Nat} (h : Gd G (K (.ptr i 16))) : Gd G (Ef 16 (.ptr i 0) fun x => K x) := Am rfl h
theorem AfY {i : Nat} (h : Gd G (K (.ptr i 17))) : Gd G (Ef 17 (.ptr i 0) fun x => K x) := Am rfl h
theorem AfZ {i : Nat} (h : Gd G (K (.ptr i 18))) : Gd G (Ef 18 (.ptr i 0) fun x => K x) := Am rfl h
theorem Aga {i : Nat} (h : Gd G (K (.ptr i 19))) : Gd G (Ef 19 (.ptr i 0) fun x => K x) := Am rfl h
theorem Ai7 {i : Nat} (h : Gd G (K (.ptr i 20))) : Gd G (Ef 20 (.ptr i 0) fun x => K x) := Am rfl h
theorem Ai8 {i : Nat} (h : Gd G (K (.ptr i 21))) : Gd G (Ef 21 (.ptr i 0) fun x => K x) := Am rfl h
theorem AjX {i : Nat} (h : Gd G (K (.ptr i 22))) : Gd G (Ef 22 (.ptr i 0) fun x => K x) := Am rfl h
theorem AjY {i : Nat} (h : Gd G (K (.ptr i 23))) : Gd G (Ef 23 (.ptr i 0) fun x => K x) := Am rfl h
theorem AjZ {i : Nat} (h : Gd G (K (.ptr i 24))) : Gd G (Ef 24 (.ptr i 0) fun x => K x) := Am rfl h
theorem AfW {o : Nat} {cells : List AV} (h : Gd G (K (.rp (cells.drop o)))) : Gd G (Ef o (.rp cells) fun x => K x) := h
theorem Gr {z cs z' r : List AV} {o n : Nat} {v : AV} {rest : List (Nat × Nat × AV)} (h : Cq v = some cs) (hl : cs.length = n) (ho : o + n ≤ z.length) (hz : Cd z o cs = z') (h2 : Er z' rest = some r) : Er z ((o, n, v) :: rest) = some r := by
 subst hz
 subst hl
 simp only [Er, h, zab, if_true, if_pos ho]
 exact h2
theorem Bp {zs cs : List AV} {ps : List (Nat × Nat × AV)} {KL : List AV → Option β} (hf : Er zs ps = some cs) (h : Gd G (KL cs)) : Gd G ((Er zs ps).bind fun c => KL c) := by
 rw [hf]
 exact h
theorem Es {i : Nat} {vs : List AV} {v : AV} (hv : vs[i]? = some v) (h : Gd G (K v)) : Gd G (Ot (.tup vs) i fun x => K x) := by
 refine D7 ?_ h
 show (vs[i]?).bind _ = _
 rw [hv]
 rfl
theorem T7 {m : Nat} {cs : List AV} (h : Gd G (K (.sc (.int .i64 m)))) : Gd G (Ou (.ro m cs) fun x => K x) := h
theorem Aed {i o m w : Nat} (h : Gd G (K (.sc (.int .i64 m)))) : Gd G (Ou (.sl i o m w) fun x => K x) := h
theorem Agp {d ty m : Nat} {x : AV} {cells : List AV} {I : List Nat} (h : Bx An E0.tp H d ty x = some (.ro m cells, I)) : Gn x = some m := by
 cases d with
 | zero => simp [Bx] at h
 | succ d =>
  cases x with
  | sc v => simp [Bx] at h
  | nl =>
   have := (Option.some.inj h)
   simp only [Prod.mk.injEq, AV.ro.injEq] at this
   rw [← this.1.1]
   rfl
  | sl id off n z =>
   rw [Ft] at h
   simp only [zaa] at h
   obtain ⟨i, h1, j, h2, h3⟩ := h
   split at h3
   case isFalse => cases h3
   split at h3
   case isFalse => cases h3
   simp only [zaa] at h3
   obtain ⟨cs, h4, q, h5, h6⟩ := h3
   obtain ⟨h7, -⟩ : AV.ro n q.1 = .ro m cells ∧ _ := by simpa only [Prod.mk.injEq, Option.some.injEq] using h6
   cases h7
   rfl
  | agg cs =>
   rw [Ek] at h
   simp only [zaa] at h
   obtain ⟨i, h1, q, h2, h3⟩ := h
   simp at h3
  | tup cs =>
   rw [F4] at h
   simp only [zaa] at h
   obtain ⟨i, h1, q, h2, h3⟩ := h
   simp at h3
  | _ => simp [Bx] at h
theorem Ic {x : AV} {ty m : Nat} {cells : List AV} (hs : Sep H L) (hp : Pk L (.own x ty (.ro m cells)) L1) (h : Gd G (K (.sc (.int .i64 m)))) : Gd G (Ou x fun x => K x) := by
 obtain ⟨_, _, I, e, _⟩ := hs.own hp
 have hl := Agp e
 refine D7 ?_ h
 have key : ∀ (x : AV), (∀ v, x ≠ .sc v) → Gn x = some m → Ou x K = K (.sc (.int .i64 m)) := by
  intro x hx hl
  cases x with
  | sc v => exact absurd rfl (hx v)
  | nl => cases hl; rfl
  | ro n cs => cases hl; rfl
  | sl a b c d => cases hl; rfl
  | _ => cases hl
 refine key x (fun v hv => ?_) hl
 subst hv
 simp [Bx] at e
theorem AjO {op : BinOp} {x y v : AV} (e : ∀ k : AV → Option β, E4 op x y k = k v) (h : Gd G (K v)) : Gd G (E4 op x y fun t => K t) := D7 (e _) h
theorem Cb {a b : Int} (h : Gd G (K (.sc (.bool (decide (a = b)))))) : Gd G (E4 .eql (.sc (.int .i64 a)) (.sc (.int .i64 b)) fun t => K t) := h
theorem Mg {a b : Int} (h : Gd G (K (.sc (.bool (!decide (a = b)))))) : Gd G (E4 .neq (.sc (.int .i64 a)) (.sc (.int .i64 b)) fun t => K t) := h
theorem Oa {a b : Int} (h : Gd G (K (.sc (.bool (decide (a < b)))))) : Gd G (E4 .lss (.sc (.int .i64 a)) (.sc (.int .i64 b)) fun t => K t) := h
theorem Aee {a b : Int} (h : Gd G (K (.sc (.bool (decide (a ≤ b)))))) : Gd G (E4 .leq (.sc (.int .i64 a)) (.sc (.int .i64 b)) fun t => K t) := h
theorem Mf {a b : Int} (h : Gd G (K (.sc (.bool (decide (b < a)))))) : Gd G (E4 .gtr (.sc (.int .i64 a)) (.sc (.int .i64 b)) fun t => K t) := h
theorem Hq {a b : Int} (h0 : -9223372036854775808 ≤ a + b) (h1 : a + b ≤ 9223372036854775807) (h : Gd G (K (.sc (.int .i64 (a + b))))) : Gd G (E4 .add (.sc (.int .i64 a)) (.sc (.int .i64 b)) fun t => K t) := by
 refine D7 ?_ h
 show K (.sc (.int .i64 (IntKind.i64.wrap (a + b)))) = _
 rw [Fl _ h0 h1]
theorem T8 {a b : Int} (h0 : -9223372036854775808 ≤ a - b) (h1 : a - b ≤ 9223372036854775807) (h : Gd G (K (.sc (.int .i64 (a - b))))) : Gd G (E4 .sub (.sc (.int .i64 a)) (.sc (.int .i64 b)) fun t => K t) := by
 refine D7 ?_ h
 show K (.sc (.int .i64 (IntKind.i64.wrap (a - b)))) = _
 rw [Fl _ h0 h1]
theorem Ahf {a b : Int} (h0 : -9223372036854775808 ≤ a * b) (h1 : a * b ≤ 9223372036854775807) (h : Gd G (K (.sc (.int .i64 (a * b))))) : Gd G (E4 .mul (.sc (.int .i64 a)) (.sc (.int .i64 b)) fun t => K t) := by
 refine D7 ?_ h
 show K (.sc (.int .i64 (IntKind.i64.wrap (a * b)))) = _
 rw [Fl _ h0 h1]
theorem L4 {b : Bool} (h : Gd G (K (.sc (.bool (!b))))) : Gd G (pUn .not (.sc (.bool b)) fun t => K t) := h
theorem Ix {α : Sort _} {γ : Type} {G : Option γ → Prop} {x : α} {f : α → Option γ} (h : Gd G (f x)) : Gd G (Ns x f) := h
theorem Dd {b : Bool} {x y : Option β} (hb : b = true) (h : Gd G x) : Gd G (Gz (.sc (.bool b)) x y) := by subst hb; exact h
theorem Cj {b : Bool} {x y : Option β} (hb : b = false) (h : Gd G y) : Gd G (Gz (.sc (.bool b)) x y) := by subst hb; exact h
theorem B4 {b t : Bool} {m : (KO β) → Option β} (hb : b = t) (h : Gd G (m fun x H => KH x H)) : Gd G (Hn (.sc (.bool b)) t H m fun x H => KH x H) := by
 subst hb
 cases b <;> exact h
theorem D9 {b t : Bool} {m : (KO β) → Option β} (hb : b = !t) (h : Gd G (KH (.sc undef) H)) : Gd G (Hn (.sc (.bool b)) t H m fun x H => KH x H) := by
 subst hb
 cases t <;> exact h
theorem Ai6 {t : Bool} {m : (KO β) → Option β} (h : Gd G (KH (.sc undef) H)) : Gd G (Hn (.sc undef) t H m fun x H => KH x H) := h
theorem It {b : Bool} {x y : AV} (hb : b = true) (h : Gd G (K x)) : Gd G (Nf (.sc (.bool b)) x y fun t => K t) := by
 subst hb
 cases x <;> cases y <;> exact h
theorem Is {b : Bool} {x y : AV} (hb : b = false) (h : Gd G (K y)) : Gd G (Nf (.sc (.bool b)) x y fun t => K t) := by
 subst hb
 cases x <;> cases y <;> exact h
inductive VwC (L : List Ck) : Nat → AV → AV → Prop
 | sc {d : Nat} {v : Value} : VwC L (d + 1) (.sc v) (.sc v)
 | nl {d : Nat} : VwC L (d + 1) .nl (.ro 0 [])
 | ro {d n : Nat} {cs : List AV} : VwC L (d + 1) (.ro n cs) (.ro n cs)
 | rp {d : Nat} {cs : List AV} : VwC L (d + 1) (.rp cs) (.rp cs)
 | own {d : Nat} {x t : AV} {ty : Nat} {L' : List Ck} : 6 ≤ d → Pk L (.own x ty t) L' → VwC L d x t
 | shr {d : Nat} {x t y t' : AV} {ty ty' : Nat} {L' : List Ck} : 6 ≤ d → Pk L (.shr x ty t y ty' t') L' → VwC L d y t'
 | shsE {d k : Nat} {x t y t' : AV} {ty ty' : Nat} {ys : List (AV × Nat × AV)} {L' : List Ck} : 6 ≤ d → Pk L (.shs x ty t ys) L' → ys[k]? = some (y, ty', t') → VwC L d y t'
 | shsO {d : Nat} {x t : AV} {ty : Nat} {ys : List (AV × Nat × AV)} {L' : List Ck} : 6 ≤ d → Pk L (.shs x ty t ys) L' → VwC L d x t
end
inductive VwL (L : List Ck) : Nat → List AV → List AV → Prop
 | nil {d : Nat} : VwL L d [] []
 | cons {d : Nat} {x t : AV} {xs ts : List AV} : VwC L d x t → VwL L d xs ts → VwL L d (x :: xs) (t :: ts)
 | agg {d : Nat} {cs ds xs ts : List AV} : VwL L d cs ds → VwL L (d + 1) xs ts → VwL L (d + 1) (.agg cs :: xs) (.agg ds :: ts)
 | aggF {d : Nat} {cs xs ts : List AV} : cs.all Ie = true → VwL L (d + 2) xs ts → VwL L (d + 2) (.agg cs :: xs) (.agg cs :: ts)
 | sl {d i k w : Nat} {cs ds xs ts : List AV} {a : Bool} {L' : List Ck} : Pk L (.blk i cs a) L' → cs.length = k * w → VwL L d cs ds → VwL L (d + 1) xs ts → VwL L (d + 1) (.sl i 0 k w :: xs) (.ro k ds :: ts)
 | slA {d i o k w : Nat} {cs ds xs ts : List AV} {a : Bool} {L' : List Ck} : Pk L (.blk i cs a) L' → o + k * w ≤ cs.length → VwL L d ((cs.drop o).take (k * w)) ds → VwL L (d + 1) xs ts → VwL L (d + 1) (.sl i o k w :: xs) (.ro k ds :: ts)
 | ptr {d i : Nat} {cs ds xs ts : List AV} {a : Bool} {L' : List Ck} : Pk L (.blk i cs a) L' → VwL L d cs ds → VwL L (d + 1) xs ts → VwL L (d + 1) (.ptr i 0 :: xs) (.rp ds :: ts)
 | fn {d f : Nat} {ps cs ps' cs' xs ts : List AV} : VwL L d ps ps' → VwL L d cs cs' → VwL L (d + 1) xs ts → VwL L (d + 1) (.fn f ps cs :: xs) (.fn f ps' cs' :: ts)
section
variable {β : Type} {n : Nat} {H : Aa} {L L' L1 L2 : List Ck} {G : Option β → Prop} {K : AV → Option β} {KH : KO β}
theorem VwC.sound (hs : Sep H L) {d : Nat} {x t : AV} (h : VwC L d x t) : Dn H d x = some t := by
 cases h with
 | sc => rfl
 | nl => rfl
 | ro => rfl
 | rp => rfl
 | own hd hp =>
  obtain ⟨_, h1, I, h2, _⟩ := hs.own hp
  exact Mp d _ _ _ I (H0 6 d _ _ _ _ h2 (Ay h1 hd))
 | shr hd hp =>
  obtain ⟨h1, I, h2⟩ := hs.seen hp
  exact Mp d _ _ _ I (H0 6 d _ _ _ _ h2 (Ay h1 hd))
 | shsE hd hp hk =>
  obtain ⟨h1, I, h2⟩ := hs.seenS hp hk
  exact Mp d _ _ _ I (H0 6 d _ _ _ _ h2 (Ay h1 hd))
 | shsO hd hp =>
  obtain ⟨_, h1, I, h2, _⟩ := (hs.ofShs hp).own .here
  exact Mp d _ _ _ I (H0 6 d _ _ _ _ h2 (Ay h1 hd))
theorem Ii {d : Nat} {x t : AV} {xs ts : List AV} (h : Dn H d x = some t) (hs : xs.mapM (Dn H d) = some ts) : (x :: xs).mapM (Dn H d) = some (t :: ts) := by
 simp only [zaU, h, hs, zbg, zaS, zab]
theorem VwL.sound (hs : Sep H L) : ∀ {d : Nat} {xs ts : List AV}, VwL L d xs ts → xs.mapM (Dn H d) = some ts
 | _, _, _, .nil => rfl
 | _, _, _, .cons h q => Ii (h.sound hs) (q.sound hs)
 | _, _, _, .agg h q => Ii (by rw [Nb, h.sound hs]; rfl) (q.sound hs)
 | _, _, _, .aggF h q => Ii (by rw [Nb, Q3 h]; rfl) (q.sound hs)
 | _, _, _, .sl (i := i) (k := k) (w := w) (cs := cs) hp hl h q => Ii (by
   rw [O4]
   have hb := hs.blk hp
   have e : Aw H i 0 (k * w) = some cs := by
    simp only [Aw, hb, if_true, za6, zaw, ← hl, zai, za3]
   rw [e, zab, h.sound hs]
   rfl) (q.sound hs)
 | _, _, _, .slA (i := i) (o := o) (k := k) (w := w) (cs := cs) hp hl h q => Ii (by
   rw [O4]
   have hb := hs.blk hp
   have e : Aw H i o (k * w) = some ((cs.drop o).take (k * w)) := by
    simp only [Aw, hb, if_true, hl]
   rw [e, zab, h.sound hs]
   rfl) (q.sound hs)
 | _, _, _, .ptr (i := i) (cs := cs) hp h q => Ii (by
   have hb := hs.blk hp
   show ((H[i]?).bind fun b => (Aw H i 0 (b.cells.length - 0)).bind fun cs => (cs.mapM (Dn H _)).bind fun vs => some (AV.rp vs)) = _
   rw [hb, zab]
   have e : Aw H i 0 (cs.length - 0) = some cs := by
    simp only [Aw, hb, if_true, za6, zaw, Nat.sub_zero, zai, za3]
   show (Aw H i 0 (cs.length - 0)).bind _ = _
   rw [e, zab, h.sound hs]
   rfl) (q.sound hs)
 | _, _, _, .fn (d := d) (ps := ps) (cs := cs) h1 h2 q => Ii (by
   show ((ps.mapM (Dn H d)).bind fun us => (cs.mapM (Dn H d)).bind fun ws => some (AV.fn _ us ws)) = _
   rw [h1.sound hs, zab, h2.sound hs]
   rfl) (q.sound hs)
theorem Vi {ty : Nat} {f : FuncId} {caps args vs : List AV} {t : AV} (hs : Sep H L) (hh : Fy f = false) (hv : VwL L 8 (args ++ caps) vs) (ht : Cy E0 n ty f vs = some t) (h : Gd G (KH (Bh An E0.tp H.length ty t).1 (H ++ (Bh An E0.tp H.length ty t).2))) : Gd G ((PR n β).call ty (.fn f [] caps) args H fun x H => KH x H) := D7 (V5 hh (hv.sound hs) ht) h
theorem Fm {ty : Nat} {f : FuncId} {args vs : List AV} {v : Value} (hs : Sep H L) (hh : Fy f = false) (hv : VwL L 8 args vs) (ht : Cy E0 n ty f vs = some (.sc v)) (h : Gd G (KH (.sc v) H)) : Gd G ((PR n β).call ty (.fn f [] []) args H fun x H => KH x H) := by
 refine Vi hs hh (by rw [zam]; exact hv) ht ?_
 rw [G9, zam]
 exact h
theorem Aeq {ty m : Nat} {cells : List AV} (hs : Sep H L) (hok : Gp An E0.tp 6 ty (.ro m cells)) : Al (Bh An E0.tp H.length ty (.ro m cells)).1 = true ∧ Sep (H ++ (Bh An E0.tp H.length ty (.ro m cells)).2) (.own (Bh An E0.tp H.length ty (.ro m cells)).1 ty (.ro m cells) :: L) := by
 have hl : Al (Bh An E0.tp H.length ty (.ro m cells)).1 = true := rfl
 refine ⟨hl, hs.new (J := zaW H.length (Bh An E0.tp H.length ty (.ro m cells)).2.length) ⟨hl, hok, Fu 6 ty _ H.length hok (Jk _ _)⟩ zaP fun i hi => ?_⟩
 rw [zaK] at hi
 exact hi.1
def InsL (ts : List Nat) (cs : List AV) (Φ : List AV → List Ck → Prop) : Prop := ∀ (H : Aa) (L : List Ck), Sep H L → ∃ xs Lx, xs = (Bu An E0.tp H.length ts cs).1 ∧ Sep (H ++ (Bu An E0.tp H.length ts cs).2) (Lx ++ L) ∧ Φ xs Lx
theorem Gl {ts : List Nat} : InsL ts [] fun xs Lx => xs = [] ∧ Lx = [] := fun H L hs => ⟨[], [], rfl, by simpa [Bu] using hs, rfl, rfl⟩
theorem Dg {ts : List Nat} {v : Value} {cs : List AV} {Φ : List AV → List Ck → Prop} (h : InsL ts.tail cs Φ) : InsL ts (.sc v :: cs) fun xs Lx => ∃ ys, xs = .sc v :: ys ∧ Φ ys Lx := fun H L hs => by
 obtain ⟨ys, Ly, e1, e2, e3⟩ := h H L hs
 refine ⟨.sc v :: ys, Ly, ?_, ?_, ys, rfl, e3⟩
 ·simp only [Bu, G9, zar, zaZ]
  rw [e1]
 ·simpa only [Bu, G9, zar, zaZ, zah] using e2
theorem Id {ts : List Nat} {m ty : Nat} {cells cs : List AV} {Φ : List AV → List Ck → Prop} (hty : ts.headD 0 = ty) (hok : Gp An E0.tp 6 ty (.ro m cells)) (h : InsL ts.tail cs Φ) : InsL ts (.ro m cells :: cs) fun xs Lx => ∃ x ys Ly, Al x = true ∧ xs = x :: ys ∧ Lx = Ly ++ [.own x ty (.ro m cells)] ∧ Φ ys Ly := fun H L hs => by
 subst hty
 obtain ⟨h1, h2⟩ := Aeq hs hok
 obtain ⟨ys, Ly, e1, e2, e3⟩ := h _ _ h2
 refine ⟨_ :: ys, Ly ++ [.own _ (ts.headD 0) (.ro m cells)], ?_, ?_, _, ys, Ly, h1, rfl, rfl, e3⟩
 ·simp only [Bu]
  rw [e1, zae]
 ·simp only [Bu]
  rw [zae, zaj] at e2
  rw [zaj]
  exact e2
theorem Hy {ts cty : List Nat} {cs rest : List AV} {Φ Ψ : List AV → List Ck → Prop} (hty : ∃ i, An (ts.headD 0) = some i ∧ i.cty = cty) (h1 : InsL cty cs Ψ) (h : InsL ts.tail rest Φ) : InsL ts (.agg cs :: rest) fun xs Lx => ∃ ys zs Ly Lz, xs = .agg ys :: zs ∧ Lx = Lz ++ Ly ∧ Ψ ys Ly ∧ Φ zs Lz := fun H L hs => by
 obtain ⟨i, hi, rfl⟩ := hty
 obtain ⟨ys, Ly, a1, a2, a3⟩ := h1 H L hs
 obtain ⟨zs, Lz, b1, b2, b3⟩ := h _ _ a2
 refine ⟨.agg ys :: zs, Lz ++ Ly, ?_, ?_, ys, zs, Ly, Lz, rfl, rfl, a3, b3⟩
 ·simp only [Bu, Gi, hi, za5]
  rw [a1, b1, zae]
 ·simp only [Bu, Gi, hi, za5]
  rw [zae, zaj] at b2
  rw [zaj]
  exact b2
theorem G3 {ty : Nat} {f : FuncId} {args vs cs : List AV} {cty : List Nat} {Φ : List AV → List Ck → Prop} (hs : Sep H L) (hh : Fy f = false) (hv : VwL L 8 args vs) (ht : Cy E0 n ty f vs = some (.agg cs)) (hty : ∃ i, An ty = some i ∧ i.cty = cty) (hi : InsL cty cs Φ) (h : ∀ xs Lx H', Φ xs Lx → Sep H' (Lx ++ L) → Gd G (KH (.agg xs) H')) : Gd G ((PR n β).call ty (.fn f [] []) args H fun x H => KH x H) := by
 refine Vi hs hh (by rw [zam]; exact hv) ht ?_
 obtain ⟨i, e1, rfl⟩ := hty
 obtain ⟨xs, Lx, a1, a2, a3⟩ := hi H L hs
 rw [Gi, e1, za5, ← a1]
 exact h _ _ _ a3 a2
theorem Im {ty : Nat} {f : FuncId} {args vs cs : List AV} {tys : List Nat} {Φ : List AV → List Ck → Prop} (hs : Sep H L) (hh : Fy f = false) (hv : VwL L 8 args vs) (ht : Cy E0 n ty f vs = some (.tup cs)) (hty : E0.tp ty = some tys) (hi : InsL tys cs Φ) (h : ∀ xs Lx H', Φ xs Lx → Sep H' (Lx ++ L) → Gd G (KH (.tup xs) H')) : Gd G ((PR n β).call ty (.fn f [] []) args H fun x H => KH x H) := by
 refine Vi hs hh (by rw [zam]; exact hv) ht ?_
 obtain ⟨xs, Lx, a1, a2, a3⟩ := hi H L hs
 rw [Pi, hty, za5, ← a1]
 exact h _ _ _ a3 a2
theorem Gv {ty : Nat} {f : FuncId} {caps args : List AV} (hh : E0.hm f = true) (he : E0.ext f = none) (h : Gd G (Dm E0 n β f (args ++ caps) H fun x H => KH x H)) : Gd G ((PR n β).call ty (.fn f [] caps) args H fun x H => KH x H) := by
 refine D7 ?_ h
 show J9 E0 (Dm E0 n) ty f ([] ++ args ++ caps) H _ = _
 simp only [J9, he, hh, zah, if_true]
def Src (H : Aa) (L : List Ck) (sz : Nat) (cty : List Nat) (y : AV) (m : Nat) (cb : List AV) (L' : List Ck) : Prop :=
 ∀ I, SepI H L I → ∃ raw J R X, Gn y = some m ∧ Cw H sz y = some raw ∧ raw.all Al = true ∧ raw.length = m * sz ∧ Cc (Bx An E0.tp H 5) (zad m cty).flatten raw = some (cb, J) ∧ SepI H L' R ∧ I.Perm (J ++ (R ++ X))
def R7 : AV → Bool
 | .sc v => Kz v
 | _ => false
theorem AbT {l : List AV} (h : l.all R7 = true) : l.all Al = true := by
 rw [zaE] at h ⊢
 intro x hx
 have := h x hx
 cases x <;> simp_all [R7, Al]
theorem Ul {d : Nat} : ∀ {ts : List Nat} {l : List AV}, ts.length = l.length → l.all R7 = true → Cc (Bx An E0.tp H (d + 1)) ts l = some (l, [])
 | [], [], _, _ => rfl
 | t :: ts, x :: l, h, hl => by
  rw [zaT, zak] at hl
  cases x with
  | sc v =>
   rw [Cc, Hf, zab, Ul (ts := ts) (l := l) (by simpa using h) hl.2]
   rfl
  | _ => simp [R7] at hl
 | [], _ :: _, h, _ => by simp at h
 | _ :: _, [], h, _ => by simp at h
theorem AiR {sz m : Nat} {cty : List Nat} {cells : List AV} (hc : cty.length = sz) (hl : cells.length = m * sz) (hf : cells.all R7 = true) : Src H L sz cty (.ro m cells) m cells L := fun I h => by
 refine ⟨cells, [], I, [], rfl, ?_, AbT hf, hl, Ul (by simp [hc, hl]) hf, h, by simp⟩
 show (if cells.length = m * sz then some cells else none) = _
 rw [if_pos hl]
theorem O1 {sz m i : Nat} {cty : List Nat} {raw cb : List AV} {a : Bool} (hp : Pk L (.blk i raw a) L1) (hl : raw.length = m * sz) (hf : raw.all Al = true) (hr : OwnR L1 raw (zad m cty).flatten cb L2) (hok : El (Gp An E0.tp 5) (zad m cty).flatten cb) : Src H L sz cty (.sl i 0 m sz) m cb L2 := fun I h => by
 obtain ⟨J, R, ⟨rfl, h1⟩, h2, h3⟩ := hp.sepI h
 obtain ⟨J', R', g1, g2, g3⟩ := hr.sound h2 5 hok
 refine ⟨raw, J', R', [i], rfl, ?_, hf, hl, g1, g2, ?_⟩
 ·show (if sz = sz then Aw H i 0 (m * sz) else none) = _
  simp only [if_true, Aw, h1, zaw, za6, ← hl, zai, za3]
 ·refine h3.trans (List.perm_append_comm.trans ?_)
  rw [← zaj]
  exact zb1.append_right [i] g3
theorem Lr {d ty m : Nat} {x : AV} {cells : List AV} {I : List Nat} {i j : TI} (h1 : An ty = some i) (h2 : An i.elem = some j) (h : Bx An E0.tp H (d + 1) ty x = some (.ro m cells, I)) :
  (x = .nl ∧ m = 0 ∧ cells = [] ∧ I = []) ∨ ∃ id off raw J b, x = .sl id off m j.size ∧ I = id :: J ∧ H[id]? = some b ∧ b.live = true ∧ b.app = true ∧ Aw H id off (m * j.size) = some raw ∧ Cc (Bx An E0.tp H d) (zad m j.cty).flatten raw = some (cells, J) := by
 cases x with
 | sc v => simp [Bx] at h
 | nl =>
  have := (Option.some.inj h)
  simp only [Prod.mk.injEq, AV.ro.injEq] at this
  obtain ⟨⟨rfl, rfl⟩, rfl⟩ := this
  exact .inl ⟨rfl, rfl, rfl, rfl⟩
 | sl id off n z =>
  rw [Ft] at h
  simp only [h1, h2, zab] at h
  split at h
  case isFalse => cases h
  rename_i hz
  split at h
  case isFalse => cases h
  rename_i ha
  simp only [zaa] at h
  obtain ⟨cs, h4, q, h5, h6⟩ := h
  simp only [Option.some.injEq, Prod.mk.injEq, AV.ro.injEq] at h6
  obtain ⟨⟨rfl, rfl⟩, rfl⟩ := h6
  subst hz
  obtain ⟨hl, b, hb, hlv, _, _⟩ := Hh h4
  have ha' : b.app = true := by simpa only [Fh, hb] using ha
  exact .inr ⟨id, off, cs, q.2, b, rfl, rfl, hb, hlv, ha', h4, h5⟩
 | agg cs =>
  rw [Ek] at h
  simp only [zaa] at h
  obtain ⟨i, h1, q, h2, h3⟩ := h
  simp at h3
 | tup cs =>
  rw [F4] at h
  simp only [zaa] at h
  obtain ⟨i, h1, q, h2, h3⟩ := h
  simp at h3
 | _ => simp [Bx] at h
theorem Ps {f : Nat → AV → Option (AV × List Nat)} : ∀ {ts : List Nat} {xs : List AV} {p : List AV × List Nat}, (∀ t x a I, f t x = some (a, I) → Ie a = true → Al x = true) → Cc f ts xs = some p → p.1.all Ie = true → xs.all Al = true
 | ts, [], p, _, h, _ => rfl
 | [], _ :: _, p, _, h, _ => by simp [Cc] at h
 | t :: ts, x :: xs, p, hf, h, hl => by
  obtain ⟨a, b, h1, h2, rfl⟩ := Fe h
  rw [zaT, zak] at hl
  rw [zaT, zak]
  exact ⟨hf t x a.1 a.2 h1 hl.1, Ps hf h2 hl.2⟩
theorem Xa {d ty : Nat} {x a : AV} {I : List Nat} (h : Bx An E0.tp H d ty x = some (a, I)) (hl : Ie a = true) : Al x = true := by
 cases d with
 | zero => simp [Bx] at h
 | succ d =>
  cases x with
  | sc v =>
   obtain ⟨rfl, _⟩ : AV.sc v = a ∧ [] = I := by simpa [Bx] using h
   exact hl
  | nl => rfl
  | sl id off n z => rfl
  | agg cs =>
   rw [Ek] at h
   simp only [zaa] at h
   obtain ⟨i, h1, q, h2, h3⟩ := h
   obtain ⟨rfl, _⟩ : AV.agg q.1 = a ∧ q.2 = I := by simpa using h3
   cases hl
  | tup cs =>
   rw [F4] at h
   simp only [zaa] at h
   obtain ⟨i, h1, q, h2, h3⟩ := h
   obtain ⟨rfl, _⟩ : AV.tup q.1 = a ∧ q.2 = I := by simpa using h3
   cases hl
  | _ => simp [Bx] at h
theorem Aeb {sz bytes k m ty : Nat} {cty : List Nat} {x y : AV} {ca cb : List AV} (hs : Sep H L) (hty : ∃ i j, An ty = some i ∧ An i.elem = some j ∧ j.size = sz ∧ j.cty = cty) (hx : Pk L (.own x ty (.ro k ca)) L1) (hy : Src H L1 sz cty y m cb L2) (hok : El (Gp An E0.tp 5) (zad m cty).flatten cb) (hb : (k + m) * bytes ≤ 140737488355328)
  (h : ∀ x' H', Al x' = true → Sep H' (.own x' ty (.ro (k + m) (ca ++ cb)) :: L2) → (∃ id cx cy, x' = .sl id 0 (k + m) sz ∧ H'[id]? = some ⟨cx ++ cy, true, true⟩ ∧ Cw H sz y = some cy ∧ cx.length = k * sz) → Gd G (KH x' H')) : Gd G (Ha sz bytes x y H fun x H => KH x H) := by
 obtain ⟨i, j, e1, e2, rfl, rfl⟩ := hty
 obtain ⟨I, hI, hn⟩ := hs
 obtain ⟨J, R, ⟨hlx, hox, h1⟩, h2, h3⟩ := hx.sepI hI
 obtain ⟨raw, Jy, Ry, X, q1, q2, q3, q4, q5, q6, q7⟩ := hy R h2
 have hn' : (J ++ (Jy ++ (Ry ++ X))).Nodup := (h3.trans (zb1.append_left J q7)).nodup_iff.1 hn
 have hRlt : ∀ i ∈ Jy ++ Ry, i < H.length := fun z hz => by
  refine h2.lt z ?_
  refine q7.symm.mem_iff.1 ?_
  rw [← zaj]
  exact zat _ hz
 have hok' : Gp An E0.tp 6 ty (.ro (k + m) (ca ++ cb)) := by
  obtain ⟨i', j', g1, g2, g3, g4⟩ := hox
  rw [e1] at g1
  cases g1
  rw [e2] at g2
  cases g2
  refine ⟨i, j, e1, e2, ?_, ?_⟩
  ·have := W4 hok
   have hq := Sl q5
   rw [zae, g3, hq.2, q4, zaV]
  ·rw [← zaB, za1]
   exact Gx g4 hok
 have fin : ∀ (H1 : Aa) (cx : List AV) (Jx : List Nat), H1.length = H.length → cx.all Al = true ∨ True → Cc (Bx An E0.tp H1 5) (zad k j.cty).flatten cx = some (ca, Jx) → Cc (Bx An E0.tp H1 5) (zad m j.cty).flatten raw = some (cb, Jy) → SepI H1 L2 Ry → (Jx ++ (Jy ++ (Ry ++ X))).Nodup → (∀ i ∈ Jx, i < H1.length) → cx.length = k * j.size →
   Sep (H1 ++ [⟨cx ++ raw, true, true⟩]) (.own (.sl H1.length 0 (k + m) j.size) ty (.ro (k + m) (ca ++ cb)) :: L2) := by
  intro H1 cx Jx hl1 _ a1 a2 a3 a4 a5 a6
  have hg : (H1 ++ [(⟨cx ++ raw, true, true⟩ : Gm)])[H1.length]? = some ⟨cx ++ raw, true, true⟩ := by
   rw [zaf (zai _), zaI]
   rfl
  have fr : ∀ z, z < H1.length → (H1 ++ [(⟨cx ++ raw, true, true⟩ : Gm)])[z]? = H1[z]? := fun z hz => zag hz
  have b1 := Ec (f' := Bx An E0.tp (H1 ++ [⟨cx ++ raw, true, true⟩]) 5) (fun t x a h hi => Di 5 t x a h fun z hz => fr z (a5 z (hi z hz))) a1
  have b2 := Ec (f' := Bx An E0.tp (H1 ++ [⟨cx ++ raw, true, true⟩]) 5) (fun t x a h hi => Di 5 t x a h fun z hz => fr z (by rw [hl1]; exact hRlt z (zat _ (hi z hz)))) a2
  have b3 := a3.grow [⟨cx ++ raw, true, true⟩]
  have b4 := F8 b1 b2
  rw [← za1, zaB] at b4
  refine ⟨(H1.length :: (Jx ++ Jy)) ++ Ry, ⟨H1.length :: (Jx ++ Jy), Ry, rfl, ⟨rfl, hok', ?_⟩, b3⟩, ?_⟩
  ·rw [Ft]
   have ha : Fh (H1 ++ [⟨cx ++ raw, true, true⟩]) H1.length = true := by simp only [Fh, hg]
   have hrd : Aw (H1 ++ [⟨cx ++ raw, true, true⟩]) H1.length 0 ((k + m) * j.size) = some (cx ++ raw) := by
    have : (cx ++ raw).length = (k + m) * j.size := by rw [zae, a6, q4, zaV]
    simp only [Aw, hg, if_true, zaw, za6, ← this, zai, za3]
   simp only [e1, e2, zab, if_true, ha, hrd, b4]
  ·rw [zau, zaH]
   have hn3 : (Jx ++ Jy ++ Ry).Nodup := by
    rw [zaj]
    have : (Jx ++ (Jy ++ Ry) ++ X).Nodup := by simpa only [zaj] using a4
    exact (zaJ.1 this).1
   refine ⟨fun hm => ?_, hn3⟩
   rcases za9.1 hm with hm | hm
   ·rcases za9.1 hm with hm | hm
    ·exact Nat.lt_irrefl _ (a5 _ hm)
    ·have := hRlt _ (zat _ hm)
     omega
   ·have := hRlt _ (zaq _ hm)
    omega
 rcases Lr e1 e2 h1 with ⟨rfl, rfl, rfl, rfl⟩ | ⟨id, off, cx, J', b, rfl, rfl, hb1, hlv, hap, h4, h5⟩
 ·have hc : Cw H j.size .nl = some [] := rfl
  refine D7 (b := KH (.sl H.length 0 (0 + m) j.size) (H ++ [⟨[] ++ raw, true, true⟩])) ?_ (h _ _ rfl (fin H [] [] rfl (.inr trivial) (by simp [Cc]) q5 q6 (by simpa using hn') (by simp) (by simp)) ⟨_, [], raw, rfl, by rw [zaf (zai _), zaI]; rfl, q2, by simp⟩)
  have hl0 : Gn .nl = some 0 := rfl
  have hk0 : L8 H .nl = some H := rfl
  simp only [Ha, hl0, zab, q1, q2, hc, hk0]
  rw [if_pos hb, if_pos q3]
  rfl
 ·have hc : Cw H j.size (.sl id off k j.size) = some cx := by
   show (if j.size = j.size then Aw H id off (k * j.size) else none) = _
   rw [if_pos rfl, h4]
  have hk : L8 H (.sl id off k j.size) = some (H.set id { b with live := false }) := by
   show (H[id]?).bind (fun b => if b.app then some (H.set id { b with live := false }) else none) = _
   rw [hb1, zab, if_pos hap]
  have hn2 : (id :: (J' ++ (Jy ++ (Ry ++ X)))).Nodup := hn'
  have hnid := (zaH.1 hn2).1
  have hset : ∀ z, z ≠ id → (H.set id { b with live := false })[z]? = H[z]? := fun z hz => za4 (fun e => hz e.symm)
  have c1 := Ec (f' := Bx An E0.tp (H.set id { b with live := false }) 5) (fun t x a h hi => Di 5 t x a h fun z hz => hset z (fun e => hnid (e ▸ zat _ (hi z hz)))) h5
  have c2 := Ec (f' := Bx An E0.tp (H.set id { b with live := false }) 5) (fun t x a h hi => Di 5 t x a h fun z hz => hset z (fun e => hnid (e ▸ zaq _ (zat _ (hi z hz))))) q5
  have c3 := q6.frame (H' := H.set id { b with live := false }) fun z hz => hset z (fun e => hnid (e ▸ zaq _ (zaq _ (zat _ hz))))
  have hJlt : ∀ z ∈ J', z < H.length := fun z hz => Kk 6 ty _ _ h1 z (zax _ hz)
  refine D7 (b := KH (.sl (H.set id { b with live := false }).length 0 (k + m) j.size) (H.set id { b with live := false } ++ [⟨cx ++ raw, true, true⟩])) ?_ (h _ _ rfl (fin _ cx J' (by simp) (.inr trivial) c1 c2 c3 (zaH.1 hn2).2 (fun z hz => by rw [zbh]; exact hJlt z hz) (Hh h4).1) ⟨_, cx, raw, rfl, by rw [zaf (zai _), zaI]; rfl, q2, (Hh h4).1⟩)
  have hl0 : Gn (.sl id off k j.size) = some k := rfl
  simp only [Ha, hl0, zab, q1, q2, hc, hk]
  rw [if_pos hb, if_pos q3]
  rfl
theorem Wp {sz bytes k m ty : Nat} {cty : List Nat} {x y : AV} {ca cb : List AV} (hs : Sep H L) (hty : ∃ i j, An ty = some i ∧ An i.elem = some j ∧ j.size = sz ∧ j.cty = cty) (hx : Pk L (.own x ty (.ro k ca)) L1) (hy : Src H L1 sz cty y m cb L2) (hok : El (Gp An E0.tp 5) (zad m cty).flatten cb) (hb : (k + m) * bytes ≤ 140737488355328)
  (h : ∀ x' H', Al x' = true → Sep H' (.own x' ty (.ro (k + m) (ca ++ cb)) :: L2) → Gd G (KH x' H')) : Gd G (Ha sz bytes x y H fun x H => KH x H) := Aeb hs hty hx hy hok hb fun x' H' h1 h2 _ => h x' H' h1 h2
theorem Iq {G : Option AV → Prop} {o : Option AV} (h : Gd G o) : G o := h
theorem Eh {ty : Nat} {tys : List Nat} {raw cells : List AV} (hs : Sep H L) (hts : E0.tp ty = some tys) (hr : OwnR L raw tys cells L') (hok : El (Gp An E0.tp 7) tys cells) : A0 An E0.tp ty H (.tup raw) = some (.tup cells) := by
 obtain ⟨I, h1, h2⟩ := hs
 obtain ⟨J, R, g1, g2, g3⟩ := hr.sound h1 7 hok
 have hn := (zaJ.1 (g3.nodup_iff.1 h2)).1
 rw [A0, F4, hts, zab, g1, zab, zab, if_pos hn]
theorem M7 {ty : Nat} {cty : List Nat} {raw cells : List AV} (hs : Sep H L) (hty : ∃ i, An ty = some i ∧ i.cty = cty) (hr : OwnR L raw cty cells L') (hok : El (Gp An E0.tp 7) cty cells) : A0 An E0.tp ty H (.agg raw) = some (.agg cells) := by
 obtain ⟨i, e1, rfl⟩ := hty
 obtain ⟨I, h1, h2⟩ := hs
 obtain ⟨J, R, g1, g2, g3⟩ := hr.sound h1 7 hok
 have hn := (zaJ.1 (g3.nodup_iff.1 h2)).1
 rw [A0, Ek, e1, zab, g1, zab, zab, if_pos hn]
theorem Ee {G : Option AV → Prop} {ty : Nat} {x t : AV} (e : A0 An E0.tp ty H x = some t) (h : G (some t)) : Gd G (A0 An E0.tp ty H x) := by
 rw [e]
 exact h
end
theorem Mv {L : List Ck} {d : Nat} {a0 a1 : Value} {xs ts : List AV} (h : VwL L (d + 1) xs ts) : VwL L (d + 1) (.sc a0 :: .sc a1 :: xs) (.sc a0 :: .sc a1 :: ts) := (.cons .sc (.cons .sc h))
theorem vS3 {L : List Ck} {d : Nat} {a0 a1 a2 : Value} {xs ts : List AV} (h : VwL L (d + 1) xs ts) : VwL L (d + 1) (.sc a0 :: .sc a1 :: .sc a2 :: xs) (.sc a0 :: .sc a1 :: .sc a2 :: ts) := (.cons .sc (.cons .sc (.cons .sc h)))
theorem Tv {L : List Ck} {d : Nat} {a0 a1 a2 a3 a4 : Value} {xs ts : List AV} (h : VwL L (d + 1) xs ts) : VwL L (d + 1) (.sc a0 :: .sc a1 :: .sc a2 :: .sc a3 :: .sc a4 :: xs) (.sc a0 :: .sc a1 :: .sc a2 :: .sc a3 :: .sc a4 :: ts) := (.cons .sc (.cons .sc (.cons .sc (.cons .sc (.cons .sc h)))))
theorem J5 {L : List Ck} {d : Nat} {a0 a1 a2 a3 a4 a5 : Value} {xs ts : List AV} (h : VwL L (d + 1) xs ts) : VwL L (d + 1) (.sc a0 :: .sc a1 :: .sc a2 :: .sc a3 :: .sc a4 :: .sc a5 :: xs) (.sc a0 :: .sc a1 :: .sc a2 :: .sc a3 :: .sc a4 :: .sc a5 :: ts) := (.cons .sc (.cons .sc (.cons .sc (.cons .sc (.cons .sc (.cons .sc h))))))
theorem oS3 {L L' : List Ck} {a0 a1 a2 : Value} {t0 t1 t2 : Nat} {xs cs : List AV} {ts : List Nat} (h : OwnR L xs ts cs L') : OwnR L (.sc a0 :: .sc a1 :: .sc a2 :: xs) (t0 :: t1 :: t2 :: ts) (.sc a0 :: .sc a1 :: .sc a2 :: cs) L' := (.sc (.sc (.sc h)))
theorem W0 {L L' : List Ck} {a0 a1 a2 a3 a4 : Value} {t0 t1 t2 t3 t4 : Nat} {xs cs : List AV} {ts : List Nat} (h : OwnR L xs ts cs L') : OwnR L (.sc a0 :: .sc a1 :: .sc a2 :: .sc a3 :: .sc a4 :: xs) (t0 :: t1 :: t2 :: t3 :: t4 :: ts) (.sc a0 :: .sc a1 :: .sc a2 :: .sc a3 :: .sc a4 :: cs) L' := (.sc (.sc (.sc (.sc (.sc h)))))
theorem Ki {L L' : List Ck} {a0 a1 a2 a3 a4 a5 : Value} {t0 t1 t2 t3 t4 t5 : Nat} {xs cs : List AV} {ts : List Nat} (h : OwnR L xs ts cs L') : OwnR L (.sc a0 :: .sc a1 :: .sc a2 :: .sc a3 :: .sc a4 :: .sc a5 :: xs) (t0 :: t1 :: t2 :: t3 :: t4 :: t5 :: ts) (.sc a0 :: .sc a1 :: .sc a2 :: .sc a3 :: .sc a4 :: .sc a5 :: cs) L' := (.sc (.sc (.sc (.sc (.sc (.sc h))))))
theorem Tk {P : Prop} (h : P) : True ∧ True ∧ P := ⟨trivial, trivial, h⟩
theorem tK3 {P : Prop} (h : P) : True ∧ True ∧ True ∧ P := ⟨trivial, trivial, trivial, h⟩
theorem Vz {P : Prop} (h : P) : True ∧ True ∧ True ∧ True ∧ True ∧ P := ⟨trivial, trivial, trivial, trivial, trivial, h⟩
theorem Kp {P : Prop} (h : P) : True ∧ True ∧ True ∧ True ∧ True ∧ True ∧ P := ⟨trivial, trivial, trivial, trivial, trivial, trivial, h⟩
theorem C6 {β : Type} {G : Option β → Prop} {H : Aa} {L L1 : List Ck} {i o : Nat} {cs : List AV} {a : Bool} {y : AV} {KS : Aa → Option β} (hs : Sep H L) (hp : Pk L (.blk i cs a) L1) (hy : Al y = true) (hl : Nat.ble (o + 1) cs.length = true) (h : ∀ H', Sep H' (.blk i (cs.set o y) a :: L1) → Gd G (KS H')) : Gd G (D5 1 (.ptr i o) y H fun H => KS H) := Bt hs hp (D3 hy) rfl (Bd hl) (by
 unfold Cd
 have := Bd hl
 rw [List.set_eq_take_append_cons_drop, if_pos (by omega)]
 simp) h
end
section
open Go
variable {β : Type}
theorem G4 {d ty : Nat} {cty : List Nat} {cs : List AV} (hty : ∃ i, An ty = some i ∧ i.cty = cty) (h : El (Gp An E0.tp d) cty cs) : Gp An E0.tp (d + 1) ty (.agg cs) := by
 obtain ⟨i, hi, rfl⟩ := hty
 exact ⟨i, hi, h⟩
theorem AkL {d ty : Nat} (h : ∃ i j, An ty = some i ∧ An i.elem = some j) : Gp An E0.tp (d + 1) ty (.ro 0 []) := by
 obtain ⟨i, j, h1, h2⟩ := h
 exact ⟨i, j, h1, h2, by simp, by simp [El]⟩
theorem H5 {d ty : Nat} (h : ∃ i j, An ty = some i ∧ An i.elem = some j := by exact ⟨_, _, rfl, rfl⟩) : Gp An E0.tp (d + 1) ty (.ro 0 []) := AkL h
theorem Gd.both {G : Option β → Prop} {a b : Option β} (h1 : Gd G a) (h2 : a = b) : Gd G (Mq a b) := by
 rw [Oq rfl h2.symm]
 exact h1
theorem Jd (s : ByteArray) : Gp An E0.tp 6 22 (Bj s) := Pp (d := 4) M9 s
theorem Aez (s : ByteArray) : Gp An E0.tp 5 22 (Bj s) := Pp (d := 3) M9 s
theorem Kj (l : List Int) : Gp An E0.tp 6 39 (Dr l) := Si (d := 4) (fun z : Int => .int .i64 z) Z2 l
theorem Zo (l : List ByteArray) : Gp An E0.tp 6 38 (Mt l) := Si (d := 4) (fun z : ByteArray => .string z) Acl l
theorem Eg (l : List Br) : Gp An E0.tp 6 25 (Aj Ag l) := Gy (d := 5) Dw ⟨_, _, rfl, rfl, rfl, rfl⟩ (Hm 3) l
theorem Cu (l : List Ah) : Gp An E0.tp 6 24 (Aj Aq l) := Gy (d := 5) Bf ⟨_, _, rfl, rfl, rfl, rfl⟩ (M4 3) l
theorem Lq (l : List Ra) : Gp An E0.tp 6 37 (Aj Fb l) := Gy (d := 5) Vq ⟨_, _, rfl, rfl, rfl, rfl⟩ (Agx 4) l
theorem InsL.mono {ts : List Nat} {cs : List AV} {Φ Ψ : List AV → List Ck → Prop} (h : InsL ts cs Φ) (m : ∀ xs Lx, Φ xs Lx → Ψ xs Lx) : InsL ts cs Ψ := fun H L hs => by
 obtain ⟨xs, Lx, a, b, c⟩ := h H L hs
 exact ⟨xs, Lx, a, b, m _ _ c⟩
theorem AiA (p : Br) : InsL G6 (Ag p) fun xs Lx => ∃ x1 : AV, Al x1 = true ∧ xs = [.sc (.string p.fTopic), x1, .sc (.int .i64 p.fQos), .sc (.bool p.fRetain)] ∧ Lx = [.own x1 22 (Bj p.fBody)] :=
 InsL.mono (Dg (Id (ty := 22) rfl (Jd p.fBody) (Dg (Dg Gl)))) (by
  rintro _ _ ⟨_, rfl, ⟨x1, _, _, l1, rfl, rfl, ⟨_, rfl, ⟨_, rfl, ⟨rfl, rfl⟩⟩⟩⟩⟩
  exact ⟨x1, l1, rfl, rfl⟩)
theorem Mi (p : Bs) : InsL Gj (A5 p) fun xs Lx => ∃ x1 x2 : AV, Al x1 = true ∧ Al x2 = true ∧ xs = [.sc (.int .i64 p.fLast), x1, x2] ∧ Lx = [.own x2 25 (Aj Ag p.fQ), .own x1 24 (Aj Aq p.fFl)] :=
 InsL.mono (Dg (Id (ty := 24) rfl (Cu p.fFl) (Id (ty := 25) rfl (Eg p.fQ) Gl))) (by
  rintro _ _ ⟨_, rfl, ⟨x1, _, _, l1, rfl, rfl, ⟨x2, _, _, l2, rfl, rfl, ⟨rfl, rfl⟩⟩⟩⟩
  exact ⟨x1, x2, l1, l2, rfl, rfl⟩)
theorem Hr (p : B0) : InsL AaV (C4 p) fun xs Lx => ∃ x6 x13 x19 x22 x23 x24 : AV, Al x6 = true ∧ Al x13 = true ∧ Al x19 = true ∧ Al x22 = true ∧ Al x23 = true ∧ Al x24 = true ∧ xs = [.sc (.int .i64 p.fType), .sc (.bool p.fDup), .sc (.int .i64 p.fQos), .sc (.bool p.fRetain), .sc (.int .i64 p.fId), .sc (.string p.fTopic), x6, .sc (.string p.fClient), .sc (.int .i64 p.fLevel), .sc (.bool p.fClean), .sc (.int .i64 p.fKeep), .sc (.bool p.fHasWill), .sc (.string p.fWTopic), x13, .sc (.int .i64 p.fWQos), .sc (.bool p.fWRetain), .sc (.bool p.fHasUser), .sc (.string p.fUser), .sc (.bool p.fHasPass), x19, .sc (.int .i64 p.fCode), .sc (.bool p.fPresent), x22, x23, x24] ∧ Lx = [.own x24 39 (Dr p.fCodes), .own x23 38 (Mt p.fNames), .own x22 37 (Aj Fb p.fWants), .own x19 22 (Bj p.fPass), .own x13 22 (Bj p.fWBody), .own x6 22 (Bj p.fBody)] :=
 InsL.mono (Dg (Dg (Dg (Dg (Dg (Dg (Id (ty := 22) rfl (Jd p.fBody) (Dg (Dg (Dg (Dg (Dg (Dg (Id (ty := 22) rfl (Jd p.fWBody) (Dg (Dg (Dg (Dg (Dg (Id (ty := 22) rfl (Jd p.fPass) (Dg (Dg (Id (ty := 37) rfl (Lq p.fWants) (Id (ty := 38) rfl (Zo p.fNames) (Id (ty := 39) rfl (Kj p.fCodes) Gl))))))))))))))))))))))))) (by
  rintro _ _ ⟨_, rfl, ⟨_, rfl, ⟨_, rfl, ⟨_, rfl, ⟨_, rfl, ⟨_, rfl, ⟨x6, _, _, l6, rfl, rfl, ⟨_, rfl, ⟨_, rfl, ⟨_, rfl, ⟨_, rfl, ⟨_, rfl, ⟨_, rfl, ⟨x13, _, _, l13, rfl, rfl, ⟨_, rfl, ⟨_, rfl, ⟨_, rfl, ⟨_, rfl, ⟨_, rfl, ⟨x19, _, _, l19, rfl, rfl, ⟨_, rfl, ⟨_, rfl, ⟨x22, _, _, l22, rfl, rfl, ⟨x23, _, _, l23, rfl, rfl, ⟨x24, _, _, l24, rfl, rfl, ⟨rfl, rfl⟩⟩⟩⟩⟩⟩⟩⟩⟩⟩⟩⟩⟩⟩⟩⟩⟩⟩⟩⟩⟩⟩⟩⟩⟩⟩
  exact ⟨x6, x13, x19, x22, x23, x24, l6, l13, l19, l22, l23, l24, rfl, rfl⟩)
theorem Ln (p : B5) : InsL U6 (Bn p) fun xs Lx => ∃ x6 x7 x8 : AV, Al x6 = true ∧ Al x7 = true ∧ Al x8 = true ∧ xs = [.sc (.string p.fClient), .sc (.int .i64 p.fBorn), .sc (.bool p.fClean), .sc (.int .i64 p.fConn), .sc (.int .i64 p.fGen), .sc (.int .i64 p.fO.fLast), x6, x7, x8] ∧ Lx = [.own x8 39 (Dr p.fIn), .own x7 25 (Aj Ag p.fO.fQ), .own x6 24 (Aj Aq p.fO.fFl)] :=
 InsL.mono (Dg (Dg (Dg (Dg (Dg (Dg (Id (ty := 24) rfl (Cu p.fO.fFl) (Id (ty := 25) rfl (Eg p.fO.fQ) (Id (ty := 39) rfl (Kj p.fIn) Gl))))))))) (by
  rintro _ _ ⟨_, rfl, ⟨_, rfl, ⟨_, rfl, ⟨_, rfl, ⟨_, rfl, ⟨_, rfl, ⟨x6, _, _, l6, rfl, rfl, ⟨x7, _, _, l7, rfl, rfl, ⟨x8, _, _, l8, rfl, rfl, ⟨rfl, rfl⟩⟩⟩⟩⟩⟩⟩⟩⟩⟩
  exact ⟨x6, x7, x8, l6, l7, l8, rfl, rfl⟩)
theorem Ah7 {raw : List AV} {y : Br} (hl : raw.length = 4) (hlf : raw.all Al = true) (hs : ∀ (k : Nat) (v : Value), (Ag y)[k]? = some (AV.sc v) → raw[k]? = some (AV.sc v)) : ∃ r1 : AV, Al r1 = true ∧ raw = [.sc (.string y.fTopic), r1, .sc (.int .i64 y.fQos), .sc (.bool y.fRetain)] := by
 match raw, hl with
 | [r0, r1, r2, r3], _ =>
  obtain rfl : r0 = _ := Option.some.inj (hs 0 _ rfl)
  obtain rfl : r2 = _ := Option.some.inj (hs 2 _ rfl)
  obtain rfl : r3 = _ := Option.some.inj (hs 3 _ rfl)
  simp only [zaT, zak] at hlf
  exact ⟨r1, hlf.2.1, rfl⟩
theorem Kw {raw : List AV} {y : Ah} (hl : raw.length = 6) (hlf : raw.all Al = true) (hs : ∀ (k : Nat) (v : Value), (Aq y)[k]? = some (AV.sc v) → raw[k]? = some (AV.sc v)) : ∃ r2 : AV, Al r2 = true ∧ raw = [.sc (.int .i64 y.fId), .sc (.string y.fM.fTopic), r2, .sc (.int .i64 y.fM.fQos), .sc (.bool y.fM.fRetain), .sc (.int .i64 y.fSt)] := by
 match raw, hl with
 | [r0, r1, r2, r3, r4, r5], _ =>
  obtain rfl : r0 = _ := Option.some.inj (hs 0 _ rfl)
  obtain rfl : r1 = _ := Option.some.inj (hs 1 _ rfl)
  obtain rfl : r3 = _ := Option.some.inj (hs 3 _ rfl)
  obtain rfl : r4 = _ := Option.some.inj (hs 4 _ rfl)
  obtain rfl : r5 = _ := Option.some.inj (hs 5 _ rfl)
  simp only [zaT, zak] at hlf
  exact ⟨r2, hlf.2.2.1, rfl⟩
end
section
open Go
inductive Sel : List Ck → List Ck → Prop
 | nil {L : List Ck} : Sel L []
 | cons {L L1 L' : List Ck} {c : Ck} : Pk L c L1 → Sel L1 L' → Sel L (c :: L')
 | rest {L : List Ck} : Sel L L
 | skip {L L' : List Ck} {c : Ck} : Sel L L' → Sel (c :: L) L'
theorem Q8 {a0 a1 : Ck} {L : List Ck} : Sel (a0 :: a1 :: L) L := .skip (.skip (.rest))
theorem zS3 {a0 a1 a2 : Ck} {L : List Ck} : Sel (a0 :: a1 :: a2 :: L) L := .skip (.skip (.skip (.rest)))
theorem zS4 {a0 a1 a2 a3 : Ck} {L : List Ck} : Sel (a0 :: a1 :: a2 :: a3 :: L) L := .skip (.skip (.skip (.skip (.rest))))
theorem zS5 {a0 a1 a2 a3 a4 : Ck} {L : List Ck} : Sel (a0 :: a1 :: a2 :: a3 :: a4 :: L) L := .skip (.skip (.skip (.skip (.skip (.rest)))))
theorem zS8 {a0 a1 a2 a3 a4 a5 a6 a7 : Ck} {L : List Ck} : Sel (a0 :: a1 :: a2 :: a3 :: a4 :: a5 :: a6 :: a7 :: L) L := .skip (.skip (.skip (.skip (.skip (.skip (.skip (.skip (.rest))))))))
theorem Ij {a0 a1 a2 a3 a4 a5 a6 a7 a8 : Ck} {L : List Ck} : Sel (a0 :: a1 :: a2 :: a3 :: a4 :: a5 :: a6 :: a7 :: a8 :: L) L := .skip (.skip (.skip (.skip (.skip (.skip (.skip (.skip (.skip (.rest)))))))))
section
variable {β : Type} {n : Nat} {H : Aa} {L L' L1 L2 : List Ck} {G : Option β → Prop} {K : AV → Option β} {KH : KO β}
theorem Sep.none (h : Sep H L) : Sep H [] := by
 induction L with
 | nil => exact h
 | cons c L ih => exact ih h.tail
theorem Sel.sepI : ∀ {L L' : List Ck} {I : List Nat}, Sel L L' → SepI H L I → ∃ J X, SepI H L' J ∧ I.Perm (J ++ X)
 | _, _, I, .nil, h => ⟨[], I, rfl, zb1.refl _⟩
 | _, _, I, .rest, h => ⟨I, [], h, by simp⟩
 | _, _, I, .skip q, h => by
  obtain ⟨J, R, rfl, g1, g2⟩ := h
  obtain ⟨J', X, e1, e2⟩ := q.sepI g2
  refine ⟨J', J ++ X, e1, ?_⟩
  refine (zb1.append_left J e2).trans ?_
  rw [← zaj, ← zaj]
  exact zb1.append_right X List.perm_append_comm
 | _, _, I, .cons p q, h => by
  obtain ⟨J, R, g1, g2, g3⟩ := p.sepI h
  obtain ⟨J', X, e1, e2⟩ := q.sepI g2
  refine ⟨J ++ J', X, ⟨J, J', rfl, g1, e1⟩, ?_⟩
  rw [zaj]
  exact g3.trans (zb1.append_left J e2)
theorem Sep.sel (h : Sep H L) (q : Sel L L') : Sep H L' := by
 obtain ⟨I, h1, h2⟩ := h
 obtain ⟨J, X, g1, g2⟩ := q.sepI h1
 exact ⟨J, g1, (zaJ.1 (g2.nodup_iff.1 h2)).1⟩
theorem Gd.bothE {r a b : Option β} (h1 : Gd (· = r) a) (h2 : Gd (· = r) b) : Gd (· = r) (Mq a b) := Oq h1 h2
theorem Za {α : Type} {w : Nat} {enc : α → List AV} {l pre t : List α} {x : α} {i : Int} (hi : i = (pre.length : Nat)) (hw : ∀ x, (enc x).length = w) (h0 : 0 < w) (hl : l = pre ++ x :: t) (h : Gd G (K (.rp (enc x ++ (t.map enc).flatten)))) : Gd G (Eu w (Aj enc l) (.sc (.int .i64 i)) fun t => K t) := by
 subst hl
 subst hi
 exact D7 (L0 hw h0 pre x t _) h
theorem AbS {l pre t : List Int} {x i : Int} (hi : i = (pre.length : Nat)) (hl : l = pre ++ x :: t) (h : Gd G (K (.rp (Qt x ++ (t.map Qt).flatten)))) : Gd G (Eu 1 (Dr l) (.sc (.int .i64 i)) fun t => K t) := by
 rw [Ji]
 exact Za hi (fun _ => rfl) (by decide) hl h
theorem Sv {α : Type} {enc : α → List AV} (l q : List α) : Aj enc (l ++ q) = .ro (l.length + q.length) ((l.map enc).flatten ++ (q.map enc).flatten) := by
 show AV.ro _ _ = _
 rw [zae, zaA, za1]
theorem Y9 {α : Type} {enc : α → List AV} {sz bytes ty : Nat} {cty : List Nat} {x : AV} {l : List α} {i : Nat} {raw cb : List AV} {a : Bool} {e : α} {L3 : List Ck} (hs : Sep H L) (hty : ∃ i j, An ty = some i ∧ An i.elem = some j ∧ j.size = sz ∧ j.cty = cty) (hx : Pk L (.own x ty (Aj enc l)) L1) (hp : Pk L1 (.blk i raw a) L2) (hl : raw.length = sz) (hf : raw.all Al = true) (hr : OwnR L2 raw cty cb L3) (hok : El (Gp An E0.tp 5) cty cb) (he : cb = enc e) (hb : (l.length + 1) * bytes ≤ 140737488355328)
  (h : ∀ x' H', Al x' = true → Sep H' (.own x' ty (Aj enc (l ++ [e])) :: L3) → Gd G (KH x' H')) : Gd G (Ha sz bytes x (.sl i 0 1 sz) H fun x H => KH x H) := by
 have e1 : (zad 1 cty).flatten = cty := by simp
 refine Wp hs hty hx (O1 hp (by omega) hf (by rw [e1]; exact hr) (by rw [e1]; exact hok)) (by rw [e1]; exact hok) hb fun x' H' lx hs' => h x' H' lx ?_
 rw [Sv]
 simpa [he] using hs'
theorem Vh {ty : Nat} {cty : List Nat} {x : AV} {l : List Int} {i : Nat} {z : Int} {a : Bool} (hs : Sep H L) (hx : Pk L (.own x ty (Dr l)) L1) (hp : Pk L1 (.blk i [.sc (.int .i64 z)] a) L2) (hty : ∃ i j, An ty = some i ∧ An i.elem = some j ∧ j.size = 1 ∧ j.cty = cty) (hc : cty.length = 1) (hb : (l.length + 1) * 8 ≤ 140737488355328)
  (h : ∀ x' H', Al x' = true → Sep H' (.own x' ty (Dr (l ++ [z])) :: L2) → Gd G (KH x' H')) : Gd G (Ha 1 8 x (.sl i 0 1 1) H fun x H => KH x H) := by
 obtain ⟨c, rfl⟩ := zb5.1 hc
 rw [Ji] at hx h
 exact Y9 hs hty hx hp rfl rfl (.sc .nil) ⟨trivial, trivial⟩ rfl hb h
theorem Aa8 {f : Nat → AV → Option (AV × List Nat)} : ∀ {ts : List Nat} {xs cells : List AV} {I : List Nat} {k ty : Nat} {y t : AV}, Cc f ts xs = some (cells, I) → xs[k]? = some y → ts[k]? = some ty → cells[k]? = some t → ∃ J, f ty y = some (t, J) ∧ ∀ i ∈ J, i ∈ I
 | ts, [], cells, I, k, ty, y, t, h, hy, _, _ => by simp at hy
 | [], _ :: _, _, _, _, _, _, _, h, _, _, _ => by simp [Cc] at h
 | t0 :: ts, x :: xs, cells, I, k, ty, y, t, h, hy, ht, hc => by
  obtain ⟨a, b, h1, h2, e⟩ := Fe h
  cases e
  cases k with
  | zero =>
   simp only [zbo, Option.some.injEq] at hy ht hc
   subst hy
   subst ht
   subst hc
   exact ⟨a.2, h1, fun i hi => zat _ hi⟩
  | succ k =>
   obtain ⟨J, g1, g2⟩ := Aa8 (cells := b.1) (I := b.2) h2 (by simpa using hy) (by simpa using ht) (by simpa using hc)
   exact ⟨J, g1, fun i hi => zaq _ (g2 i hi)⟩
theorem AfU {α : Type} {enc : α → List AV} {sz bytes ty : Nat} {cty : List Nat} {x : AV} {l : List α} {i k ty' : Nat} {y t' : AV} {raw cb : List AV} {a : Bool} {e : α} {L3 : List Ck} (hs : Sep H L) (hty : ∃ i j, An ty = some i ∧ An i.elem = some j ∧ j.size = sz ∧ j.cty = cty) (hx : Pk L (.own x ty (Aj enc l)) L1) (hp : Pk L1 (.blk i raw a) L2) (hl : raw.length = sz) (hf : raw.all Al = true) (hr : OwnR L2 raw cty cb L3) (hok : El (Gp An E0.tp 5) cty cb) (he : cb = enc e) (hb : (l.length + 1) * bytes ≤ 140737488355328)
  (hw : ∀ x, (enc x).length = sz) (hc : cty.length = sz) (hk : raw[k]? = some y) (hk2 : cty[k]? = some ty') (hk3 : cb[k]? = some t') (hok5 : Gp An E0.tp 6 ty' t')
  (h : ∀ x' H', Al x' = true → Sep H' (.shr x' ty (Aj enc (l ++ [e])) y ty' t' :: L3) → Gd G (KH x' H')) : Gd G (Ha sz bytes x (.sl i 0 1 sz) H fun x H => KH x H) := by
 have e1 : (zad 1 cty).flatten = cty := by simp
 have hblk := (hs.pick hx).tail.blk hp
 obtain ⟨ti, tj, t1, t2, t3, t4⟩ := hty
 refine Aeb hs ⟨ti, tj, t1, t2, t3, t4⟩ hx (O1 hp (by omega) hf (by rw [e1]; exact hr) (by rw [e1]; exact hok)) (by rw [e1]; exact hok) hb fun x' H' lx hs' ⟨id, cx, cy, q1, q2, q3, q4⟩ => h x' H' lx ?_
 have hcy : cy = raw := by
  have : Cw H sz (.sl i 0 1 sz) = some raw := by
   show (if sz = sz then Aw H i 0 (1 * sz) else none) = _
   simp only [if_true, Aw, hblk, zbv, zaw, za6, ← hl, zai, za3]
  rw [this] at q3
  exact (Option.some.inj q3).symm
 subst hcy
 obtain ⟨I, ⟨J, R, rfl, ⟨h0, h1, h2⟩, h3⟩, h4⟩ := hs'
 have hrow : AV.ro (l.length + 1) ((l.map enc).flatten ++ cb) = Aj enc (l ++ [e]) := by
  rw [Sv]
  simp [he]
 rw [hrow] at h1 h2
 refine ⟨J ++ R, ⟨J, R, rfl, ⟨⟨h0, h1, h2⟩, hok5, ?_⟩, h3⟩, h4⟩
 rw [← hrow] at h2
 rcases Lr t1 t2 h2 with ⟨rfl, _⟩ | ⟨id', off, raw', J', b, p1, p2, p3, p4, p5, p6, p7⟩
 ·cases q1
 ·rw [q1] at p1
  cases p1
  rw [q2] at p3
  cases p3
  have hraw : raw' = cx ++ cy := by
   have hlen : (cx ++ cy).length = (l.length + 1) * tj.size := by rw [zae, q4, hl, t3, zaV, zbv]
   simp only [Aw, q2, if_true, zaw, za6] at p6
   rw [if_pos (by rw [hlen]; exact zai _), ← hlen, za3] at p6
   exact (Option.some.inj p6).symm
  subst hraw
  have hlk : k < cy.length := (zac.1 hk).1
  obtain ⟨J2, g1, g2⟩ := Aa8 (k := l.length * tj.size + k) (ty := ty') (y := y) (t := t') p7 (by
   rw [zaf (by omega), q4, zbq]
   exact hk) (by
   rw [List.replicate_succ', za1, zaf (by simp [t4, hc])]
   simp [t4, hc, hk2]) (by
   have hlr := Fj hw l
   rw [zaf (by omega), hlr, zbq]
   exact hk3)
  exact ⟨J2, H0 5 6 ty' y t' J2 g1 hok5, fun z hz => by rw [p2]; exact zax _ (g2 z hz)⟩
theorem Ai5 {α : Type} {enc : α → List AV} {sz bytes ty : Nat} {cty : List Nat} {x y : AV} {l q : List α} (hs : Sep H L) (hty : ∃ i j, An ty = some i ∧ An i.elem = some j ∧ j.size = sz ∧ j.cty = cty) (hx : Pk L (.own x ty (Aj enc l)) L1) (hy : Src H L1 sz cty y q.length (q.map enc).flatten L2) (hok : El (Gp An E0.tp 5) (zad q.length cty).flatten (q.map enc).flatten) (hb : (l.length + q.length) * bytes ≤ 140737488355328)
  (h : ∀ x' H', Al x' = true → Sep H' (.own x' ty (Aj enc (l ++ q)) :: L2) → Gd G (KH x' H')) : Gd G (Ha sz bytes x y H fun x H => KH x H) := by
 refine Wp hs hty hx hy hok hb fun x' H' lx hs' => h x' H' lx ?_
 rw [Sv]
 exact hs'
theorem Ai4 {sz bytes m ty : Nat} {cty : List Nat} {y : AV} {cb : List AV} (hs : Sep H L) (hty : ∃ i j, An ty = some i ∧ An i.elem = some j ∧ j.size = sz ∧ j.cty = cty) (hy : Src H L sz cty y m cb L2) (hok : El (Gp An E0.tp 5) (zad m cty).flatten cb) (hb : m * bytes ≤ 140737488355328)
  (h : ∀ x' H', Al x' = true → Sep H' (.own x' ty (.ro m cb) :: L2) → Gd G (KH x' H')) : Gd G (Ha sz bytes .nl y H fun x H => KH x H) := by
 obtain ⟨i, j, e1, e2, e3, e4⟩ := hty
 refine Wp (hs.nl (ty := ty) ⟨i, j, e1, e2⟩) ⟨i, j, e1, e2, e3, e4⟩ .here hy hok (by rw [zaw]; exact hb) fun x' H' lx hs' => h x' H' lx ?_
 rw [zaw, zah] at hs'
 exact hs'
theorem Sh {d : Nat} : ∀ {ts : List Nat} {l : List AV}, ts.length = l.length → l.all R7 = true → El (Gp An E0.tp (d + 1)) ts l
 | [], [], _, _ => trivial
 | t :: ts, x :: l, h, hl => by
  rw [zaT, zak] at hl
  refine ⟨?_, Sh (by simpa using h) hl.2⟩
  cases x with
  | sc v => trivial
  | _ => simp [R7] at hl
 | [], _ :: _, h, _ => by simp at h
 | _ :: _, [], h, _ => by simp at h
theorem Xj (s : ByteArray) : (Bb s).all R7 = true := by
 simp only [Bb, List.all_map, zaE]
 intro b _
 rfl
theorem Agq {cty : List Nat} {w m : Nat} (h : cty.length = w) : ((zad m cty).flatten).length = m * w := by simp [h]
theorem AfV {s : ByteArray} (hs : Sep H L) (hb : s.size ≤ 140737488355328) (h : ∀ x' H', Al x' = true → Sep H' (.own x' 22 (Bj s) :: L) → Gd G (KH x' H')) : Gd G (Ha 1 1 .nl (Bj s) H fun x H => KH x H) :=
 Ai4 hs ⟨_, _, rfl, rfl, rfl, rfl⟩ (AiR rfl (by rw [Ep]; omega) (Xj s)) (Sh (by rw [Agq (w := 1) rfl, Ep, Nat.mul_one]) (Xj s)) (by omega) h
end
end
section
open Go
section
variable {β : Type} {n : Nat} {H : Aa} {L L' L1 L2 : List Ck} {G : Option β → Prop} {K : AV → Option β} {KH : KO β}
theorem Qk {d : Nat} : ∀ {ts : List Nat} {l : List AV}, ts.length = l.length → l.all R7 = true → Cc (Bx An E0.tp H (d + 1)) ts l = some (l, [])
 | [], [], _, _ => rfl
 | t :: ts, x :: l, h, hl => by
  rw [zaT, zak] at hl
  cases x with
  | sc v =>
   rw [Cc, Hf, zab, Qk (by simpa using h) hl.2]
   rfl
  | _ => simp [R7] at hl
 | [], _ :: _, h, _ => by simp at h
 | _ :: _, [], h, _ => by simp at h
theorem Sep.closeR {sz m ty id : Nat} {pre cells post : List AV} (hty : ∃ i j, An ty = some i ∧ An i.elem = some j ∧ j.size = sz ∧ j.cty.length = sz) (hs : Sep H (.blk id (pre ++ (cells ++ post)) true :: L)) (hf : cells.all R7 = true) (hl : cells.length = m * sz) : Sep H (.own (.sl id pre.length m sz) ty (.ro m cells) :: L) := by
 obtain ⟨i, j, e1, e2, rfl, e4⟩ := hty
 obtain ⟨I, ⟨J, R, rfl, ⟨rfl, h1⟩, h2⟩, h3⟩ := hs
 have hlen : ((zad m j.cty).flatten).length = cells.length := by simp [e4, hl]
 refine ⟨[id] ++ R, ⟨[id], R, rfl, ⟨rfl, ⟨i, j, e1, e2, hl, Sh hlen hf⟩, ?_⟩, h2⟩, h3⟩
 rw [Ft]
 have ha : Fh H id = true := by simp only [Fh, h1]
 have hrd : Aw H id pre.length (m * j.size) = some cells := by
  simp only [Aw, h1, if_true]
  rw [if_pos (by simp only [zae]; omega), zbA, ← hl, List.take_left']
  rfl
  rfl
 simp only [e1, e2, zab, if_true, ha, hrd, Qk (d := 4) hlen hf]
theorem N9 {w m o d : Nat} {z : Int} {K : AV → Option β} (h0 : 0 ≤ z) (h1 : z < m) (hk : Gd G (K (.ptr d (o + z.toNat * w)))) : Gd G (Eu w (.sl d o m w) (.sc (.int .i64 z)) fun t => K t) := by
 have e := Agc w m d o z.toNat (fun t => K t) (by omega)
 rw [show ((z.toNat : Nat) : Int) = z by omega] at e
 exact D7 e hk
end
end
section
open Go
section
variable {β : Type} {n : Nat} {H : Aa} {L L' L1 L2 : List Ck} {G : Option β → Prop} {K : AV → Option β} {KH : KO β}
theorem Um {d : Nat} : ∀ {ts : List Nat} {xs cells : List AV} {I : List Nat} {k : Nat} {v : Value}, Cc (Bx An E0.tp H d) ts xs = some (cells, I) → cells[k]? = some (.sc v) → xs[k]? = some (.sc v)
 | ts, [], cells, I, k, v, h, hk => by
  obtain ⟨_, e⟩ := Iu h
  cases e
  simp at hk
 | [], _ :: _, _, _, _, _, h, _ => by simp [Cc] at h
 | t :: ts, x :: xs, cells, I, k, v, h, hk => by
  obtain ⟨a, b, h1, h2, e⟩ := Fe h
  cases e
  cases k with
  | zero =>
   obtain ⟨a1, a2⟩ := a
   have : a1 = .sc v := by simpa using hk
   subst this
   rw [Zq h1]
   rfl
  | succ k => simpa using Um h2 (by simpa using hk)
end
end
section
open Go
section
variable {β : Type} {n : Nat} {H : Aa} {L L' L1 L2 : List Ck} {G : Option β → Prop} {K : AV → Option β} {KH : KO β}
def AiT : List AV → List Nat → List AV → List (AV × Nat × AV)
 | x :: xs, t :: ts, c :: cs => (x, t, c) :: AiT xs ts cs
 | _, _, _ => []
theorem Jr {f : Nat → AV → Option (AV × List Nat)} : ∀ {ts1 ts2 : List Nat} {xs cells : List AV} {I : List Nat}, Cc f (ts1 ++ ts2) xs = some (cells, I) → ts1.length ≤ xs.length → ∃ I1 I2, Cc f ts1 (xs.take ts1.length) = some (cells.take ts1.length, I1) ∧ Cc f ts2 (xs.drop ts1.length) = some (cells.drop ts1.length, I2) ∧ (∀ i ∈ I1, i ∈ I) ∧ ∀ i ∈ I2, i ∈ I
 | [], ts2, xs, cells, I, h, _ => ⟨[], I, by simp [Cc], by simpa using h, by simp, fun i hi => hi⟩
 | t :: ts1, ts2, [], cells, I, h, hl => by simp at hl
 | t :: ts1, ts2, x :: xs, cells, I, h, hl => by
  obtain ⟨a, b, h1, h2, e⟩ := Fe h
  cases e
  obtain ⟨I1, I2, g1, g2, g3, g4⟩ := Jr (ts1 := ts1) (ts2 := ts2) h2 (by simpa using hl)
  refine ⟨a.2 ++ I1, I2, ?_, ?_, ?_, ?_⟩
  show Cc f (t :: ts1) (x :: xs.take ts1.length) = some (a.1 :: b.1.take ts1.length, a.2 ++ I1)
  rw [Cc, h1, zab, g1]
  rfl
  simpa using g2
  intro i hi
  rcases za9.1 hi with hi | hi
  exact zat _ hi
  exact zaq _ (g3 i hi)
  intro i hi
  exact zaq _ (g4 i hi)
theorem Uo {d : Nat} {I0 : List Nat} : ∀ {ts : List Nat} {xs cells : List AV} {I : List Nat}, Cc (Bx An E0.tp H d) ts xs = some (cells, I) → El (Gp An E0.tp 6) ts cells → (∀ i ∈ I, i ∈ I0) → ∀ q ∈ AiT xs ts cells, Gp An E0.tp 6 q.2.1 q.2.2 ∧ ∃ J, Bx An E0.tp H 6 q.2.1 q.1 = some (q.2.2, J) ∧ ∀ i ∈ J, i ∈ I0
 | ts, [], cells, I, h, _, _ => by intro q hq; cases ts <;> cases hq
 | [], _ :: _, _, _, h, _, _ => by simp [Cc] at h
 | t :: ts, x :: xs, cells, I, h, ho, hI => by
  obtain ⟨a, b, h1, h2, e⟩ := Fe h
  cases e
  intro q hq
  rcases zav.1 hq with rfl | hq
  exact ⟨ho.1, a.2, H0 d 6 t x a.1 a.2 h1 ho.1, fun i hi => hI i (zat _ hi)⟩
  exact Uo h2 ho.2 (fun i hi => hI i (zaq _ hi)) q hq
theorem Gc {f : Nat → AV → Prop} : ∀ {ts1 ts2 : List Nat} {cs : List AV}, El f (ts1 ++ ts2) cs → El f ts1 (cs.take ts1.length) ∧ El f ts2 (cs.drop ts1.length)
 | [], ts2, cs, h => ⟨by simp [El], by simpa using h⟩
 | t :: ts1, ts2, [], h => by cases h
 | t :: ts1, ts2, c :: cs, h => by
  obtain ⟨g1, g2⟩ := Gc (ts1 := ts1) h.2
  exact ⟨⟨h.1, g1⟩, by simpa using g2⟩
theorem T6 {α : Type} {enc : α → List AV} {w ty : Nat} {cty : List Nat} {x : AV} {l : List α} {y : α} {i : Int} {ys : List (AV × Nat × AV)} (hs : Sep H L) (hty : ∃ i j, An ty = some i ∧ An i.elem = some j ∧ j.size = w ∧ j.cty = cty) (hp : Pk L (.shs x ty (Aj enc l) ys) L1)
  (hi : 0 ≤ i) (hy : l[i.toNat]? = some y) (hw : ∀ x, (enc x).length = w) (hf : ∀ x, (enc x).all Ie = true) (hc : cty.length = w)
  (h : ∀ id off raw, raw.length = w → raw.all Al = true → Aw H id off w = some raw → (∀ (k : Nat) (v : Value), (enc y)[k]? = some (AV.sc v) → raw[k]? = some (AV.sc v)) → Sep H (.shs x ty (Aj enc l) (AiT raw cty (enc y) ++ ys) :: L1) → Gd G (K (.ptr id off))) : Gd G (Eu w x (si i) fun t => K t) := by
 obtain ⟨ti, tj, e1, e2, rfl, rfl⟩ := hty
 obtain ⟨I, ⟨J, R, rfl, ⟨⟨hlf, hok, e⟩, hys⟩, h2⟩, h3⟩ := hs.pick hp
 have hlt : i.toNat < l.length := (zac.1 hy).1
 rcases Lr e1 e2 e with ⟨rfl, h0, _, _⟩ | ⟨id, off, raw, J', b, rfl, rfl, hb, hlv, ha, h4, h5⟩
 omega
 obtain ⟨hl, b', hb', _, hle, hcs⟩ := Hh h4
 rw [hb] at hb'
 cases hb'
 have hm : (i.toNat + 1) * tj.size ≤ l.length * tj.size := zbd _ hlt
 have hrep : (zad l.length tj.cty).flatten = (zad i.toNat tj.cty).flatten ++ (tj.cty ++ (zad (l.length - i.toNat - 1) tj.cty).flatten) := by
  rw [show l.length = i.toNat + (1 + (l.length - i.toNat - 1)) by omega, ← zaB, ← zaB, za1, za1]
  simp
 have hl1 : ((zad i.toNat tj.cty).flatten).length = i.toNat * tj.size := by simp [hc]
 rw [hrep] at h5
 obtain ⟨I1, I2, g1, g2, g3, g4⟩ := Jr h5 (by rw [hl1, hl, zaV] at *; omega)
 obtain ⟨I3, I4, k1, k2, k3, k4⟩ := Jr g2 (by rw [zaF, hl1, hl, hc]; rw [zaV] at hm; omega)
 rw [hl1, hc] at k1
 have hcell : (((l.map enc).flatten).drop (i.toNat * tj.size)).take tj.size = enc y := by
  obtain ⟨_, hey⟩ := zac.1 hy
  have hsplit : l = l.take i.toNat ++ y :: l.drop (i.toNat + 1) := by
   rw [← hey, ← zbj hlt, zaR]
  have hpre : ((l.take i.toNat).map enc).flatten.length = i.toNat * tj.size := by
   rw [Fj hw, zaL, zaQ (Nat.le_of_lt hlt)]
  rw [hsplit, zaA, za1, za0, zaD]
  have e0 : (l.take i.toNat ++ y :: l.drop (i.toNat + 1)).take i.toNat = l.take i.toNat := by rw [← hsplit]
  rw [zbn (by omega), ← hpre, List.drop_length, zah, zb2 (by rw [hw]; exact zai _), ← hw y, za3]
 rw [hcell] at k1
 have hokE : El (Gp An E0.tp 6) tj.cty (enc y) := by
  obtain ⟨i', j', q1, q2, q3, q4⟩ := hok
  rw [e1] at q1
  cases q1
  rw [e2] at q2
  cases q2
  rw [hrep] at q4
  have q5 := (Gc (Gc q4).2).1
  rw [hl1, hc] at q5
  show El (Gp An E0.tp 6) tj.cty (enc y)
  have hcell' : (((Aj enc l |> fun _ => (l.map enc).flatten)).drop (i.toNat * tj.size)).take tj.size = enc y := hcell
  rw [← hcell]
  exact Aa2 q5 (by decide)
 have hrd : Aw H id (off + i.toNat * tj.size) tj.size = some ((raw.drop (i.toNat * tj.size)).take tj.size) := by
  simp only [Aw, hb, hlv, if_true]
  rw [zaV] at hm
  rw [if_pos (by omega), hcs, List.drop_take, List.take_take, zbb, zaQ (by omega)]
 have hrl : ((raw.drop (i.toNat * tj.size)).take tj.size).length = tj.size := by
  rw [zaL, zaF, hl]
  rw [zaV] at hm
  omega
 refine N9 hi (by omega) (h id _ _ hrl (Ps (fun t x a I h hl => Xa h hl) k1 (hf y)) hrd (fun k v hk => Um k1 hk) ⟨(id :: J') ++ R, ⟨id :: J', R, rfl, ⟨⟨hlf, hok, e⟩, fun q hq => ?_⟩, h2⟩, h3⟩)
 rcases za9.1 hq with hq | hq
 exact Uo k1 hokE (fun i hi => zax _ (g4 i (k3 i hi))) q hq
 exact hys q hq
theorem Pg {id o w : Nat} {cs : List AV} (e : Aw H id o w = some cs) (h : Gd G (K (.agg cs))) : Gd G (Cx true w (.ptr id o) H fun x => K x) := D7 (ldT e _) h
def Ov (s : ByteArray) (b : Int) : ByteArray := s.push (UInt8.ofNat b.toNat)
theorem Dt (s : ByteArray) (b : Int) : (Ov s b).size = s.size + 1 := by
 unfold Ov
 exact ByteArray.size_push
theorem Yg (s : ByteArray) (b : Int) (h0 : 0 ≤ b) (h1 : b < 256) : Bj (Ov s b) = .ro (s.size + 1) (Bb s ++ [.sc (.int .u8 b)]) := by
 show AV.ro (Ov s b).size (Bb (Ov s b)) = _
 rw [Dt]
 congr 1
 have e : ((UInt8.ofNat b.toNat).toNat : Int) = b := by
  rw [UInt8.toNat_ofNat']
  omega
 unfold Bb Ov
 rw [ByteArray.data_push, Array.toList_push, zaA, za0, zb0, e]
theorem AfS {ty : Nat} {cty : List Nat} {x : AV} {s : ByteArray} {i : Nat} {z : Int} {a : Bool} (hs : Sep H L) (hx : Pk L (.own x ty (Bj s)) L1) (hp : Pk L1 (.blk i [.sc (.int .u8 z)] a) L2) (hty : ∃ i j, An ty = some i ∧ An i.elem = some j ∧ j.size = 1 ∧ j.cty = cty) (hc : cty.length = 1) (hb : 0 ≤ z ∧ z < 256 ∧ s.size + 1 ≤ 140737488355328)
  (h : ∀ x' H', Al x' = true → Sep H' (.own x' ty (Bj (Ov s z)) :: L2) → Gd G (KH x' H')) : Gd G (Ha 1 1 x (.sl i 0 1 1) H fun x H => KH x H) := by
 obtain ⟨c, rfl⟩ := zb5.1 hc
 have e1 : (zad 1 [c]).flatten = [c] := by simp
 rw [Yg s z hb.1 hb.2.1] at h
 exact Wp (m := 1) (cb := [.sc (.int .u8 z)]) hs hty hx (O1 hp rfl rfl (by rw [e1]; exact .sc .nil) (by rw [e1]; exact ⟨trivial, trivial⟩)) (by rw [e1]; exact ⟨trivial, trivial⟩) (by omega) fun x' H' lx hs' => h x' H' lx hs'
theorem AjP {k k' : IntKind} {a z : Int} {K : AV → Option β} (hz : k.wrap a = z) (h : Gd G (K (.sc (.int k z)))) : Gd G (Xe k (.sc (.int k' a)) fun t => K t) := by
 subst hz
 exact h
theorem AeQ {a : Int} (h0 : 0 ≤ a) (h1 : a < 256) : IntKind.u8.wrap a = a := by
 simp only [IntKind.wrap, IntKind.bits, IntKind.signed]
 simp
 omega
end
end
section
open Go
section
variable {β : Type} {n : Nat} {H : Aa} {L L' L1 L2 : List Ck} {G : Option β → Prop} {K : AV → Option β} {KH : KO β}
theorem Vv {cty : List Nat} {m a b : Nat} (ha : a ≤ b) (hb : b ≤ m) : (zad m cty).flatten = (zad a cty).flatten ++ ((zad (b - a) cty).flatten ++ (zad (m - b) cty).flatten) := by
 rw [show m = a + ((b - a) + (m - b)) by omega, ← zaB, ← zaB, za1, za1]
 congr 4
 omega
def Acr (w : Nat) (x : AV) (a b : Nat) (y : AV) : Prop := (x = .nl ∧ y = .nl) ∨ ∃ id off m, x = .sl id off m w ∧ y = .sl id (off + a * w) (b - a) w
theorem Aeg {sz m ty a b : Nat} {cty : List Nat} {x : AV} {cells : List AV} {ys : List (AV × Nat × AV)} {lo hi : Option AV} (hs : Sep H L) (hty : ∃ i j, An ty = some i ∧ An i.elem = some j ∧ j.size = sz ∧ j.cty = cty) (hp : Pk L (.shs x ty (.ro m cells) ys) L1)
  (hlo : Jm lo 0 = some ((a : Nat) : Int)) (hhi : Jm hi m = some ((b : Nat) : Int)) (hab : a ≤ b) (hb : b ≤ m) (hc : cty.length = sz)
  (h : ∀ y, Al y = true → Acr sz x a b y → Sep H (.shs x ty (.ro m cells) ((y, ty, .ro (b - a) ((cells.drop (a * sz)).take ((b - a) * sz))) :: ys) :: L1) → Gd G (K y)) : Gd G (Iz sz x lo hi fun t => K t) := by
 obtain ⟨ti, tj, e1, e2, rfl, rfl⟩ := hty
 obtain ⟨I, ⟨J, R, rfl, ⟨⟨hlf, hok, e⟩, hys⟩, h2⟩, h3⟩ := hs.pick hp
 have hcl : cells.length = m * tj.size ∧ El (Gp An E0.tp 5) (zad m tj.cty).flatten cells := by
  obtain ⟨i', j', q1, q2, q3, q4⟩ := hok
  rw [e1] at q1
  cases q1
  rw [e2] at q2
  cases q2
  exact ⟨q3, q4⟩
 have hrl : ∀ k, ((zad k tj.cty).flatten).length = k * tj.size := fun k => by simp [hc]
 have hm1 : a * tj.size ≤ b * tj.size := zbd _ hab
 have hm2 : b * tj.size ≤ m * tj.size := zbd _ hb
 have hm3 : (b - a) * tj.size = b * tj.size - a * tj.size := Nat.sub_mul ..
 have hokP : Gp An E0.tp 6 ty (.ro (b - a) ((cells.drop (a * tj.size)).take ((b - a) * tj.size))) := by
  refine ⟨ti, tj, e1, e2, ?_, ?_⟩
  rw [zaL, zaF, hcl.1]
  omega
  have q := hcl.2
  rw [Vv hab hb] at q
  have q2 := (Gc (Gc q).2).1
  rw [hrl, hrl] at q2
  exact q2
 have fin : ∀ y JP, Al y = true → Acr tj.size x a b y → Bx An E0.tp H 6 ty y = some (.ro (b - a) ((cells.drop (a * tj.size)).take ((b - a) * tj.size)), JP) → (∀ i ∈ JP, i ∈ J) → Gd G (K y) := by
  intro y JP hy1 hq hy hJ
  refine h y hy1 hq ⟨J ++ R, ⟨J, R, rfl, ⟨⟨hlf, hok, e⟩, fun q hq => ?_⟩, h2⟩, h3⟩
  rcases zav.1 hq with rfl | hq
  exact ⟨hokP, JP, hy, hJ⟩
  exact hys q hq
 rcases Lr e1 e2 e with ⟨rfl, rfl, rfl, rfl⟩ | ⟨id, off, raw, J', bb, rfl, rfl, hbb, hlv, ha, h4, h5⟩
 have hb0 : b = 0 := by omega
 have ha0 : a = 0 := by omega
 subst hb0
 subst ha0
 refine D7 (b := K .nl) ?_ (fin .nl [] rfl (.inl ⟨rfl, rfl⟩) (by simp [Bx]) (by simp))
 have hl0 : Gn .nl = some 0 := rfl
 simp only [Iz, hl0, hlo, hhi, zab]
 rfl
 obtain ⟨hl, b', hb', _, hle, hcs⟩ := Hh h4
 rw [hbb] at hb'
 cases hb'
 rw [Vv hab hb] at h5
 obtain ⟨I1, I2, g1, g2, g3, g4⟩ := Jr h5 (by rw [hrl, hl]; omega)
 obtain ⟨I3, I4, k1, k2, k3, k4⟩ := Jr g2 (by rw [hrl, zaF, hrl, hl]; omega)
 rw [hrl, hrl] at k1
 refine D7 (b := K (.sl id (off + a * tj.size) (b - a) tj.size)) ?_ (fin _ (id :: I3) rfl (.inr ⟨id, off, m, rfl, rfl⟩) ?_ ?_)
 have hl0 : Gn (.sl id off m tj.size) = some m := rfl
 simp only [Iz, hl0, hlo, hhi, zab, if_true]
 rw [if_pos (by omega)]
 congr 2
 omega
 rw [Ft]
 have hap : Fh H id = true := by simp only [Fh, hbb]; exact ha
 have hrd : Aw H id (off + a * tj.size) ((b - a) * tj.size) = some ((raw.drop (a * tj.size)).take ((b - a) * tj.size)) := by
  simp only [Aw, hbb, hlv, if_true]
  rw [if_pos (by omega), hcs, List.drop_take, List.take_take, zbb, zaQ (by omega)]
 simp only [e1, e2, zab, if_true, hap, hrd, k1]
 intro i hi
 rcases zav.1 hi with rfl | hi
 exact za7
 exact zax _ (g4 i (k3 i hi))
theorem Sw {α : Type} {enc : α → List AV} {w : Nat} (hw : ∀ x, (enc x).length = w) (l : List α) (a b : Nat) (hab : a ≤ b) (hb : b ≤ l.length) : (AV.ro (b - a) ((((l.map enc).flatten).drop (a * w)).take ((b - a) * w))) = Aj enc ((l.drop a).take (b - a)) := by
 have h1 : (((l.map enc).flatten).drop (a * w)) = ((l.drop a).map enc).flatten := by
  have e : l = l.take a ++ l.drop a := (zaR a l).symm
  have hp : ((l.take a).map enc).flatten.length = a * w := by rw [Fj hw, zaL, zaQ (by omega)]
  rw [e, zaA, za1]
  have e0 : (l.take a ++ l.drop a).drop a = l.drop a := by rw [← e]
  rw [e0, zbn (by omega), ← hp, List.drop_length, zah]
 have h2 : (((l.drop a).map enc).flatten).take ((b - a) * w) = (((l.drop a).take (b - a)).map enc).flatten := by
  have e : l.drop a = (l.drop a).take (b - a) ++ (l.drop a).drop (b - a) := (zaR _ _).symm
  have hp : (((l.drop a).take (b - a)).map enc).flatten.length = (b - a) * w := by rw [Fj hw, zaL, zaF, zaQ (by omega)]
  have e0 : ((l.drop a).take (b - a) ++ (l.drop a).drop (b - a)).take (b - a) = (l.drop a).take (b - a) := by rw [← e]
  rw [e, zaA, za1, e0, zb2 (by omega), ← hp, za3]
 rw [h1, h2]
 show _ = AV.ro _ _
 rw [zaL, zaF, zaQ (by omega)]
theorem Ky {α : Type} {enc : α → List AV} {w ty : Nat} {a b : Int} {cty : List Nat} {x : AV} {l : List α} {ys : List (AV × Nat × AV)} {lo hi : Option AV} (hs : Sep H L) (hty : ∃ i j, An ty = some i ∧ An i.elem = some j ∧ j.size = w ∧ j.cty = cty) (hp : Pk L (.shs x ty (Aj enc l) ys) L1)
  (hlo : Jm lo 0 = some a) (hhi : Jm hi l.length = some b) (h0 : 0 ≤ a) (hab : a ≤ b) (hb : b ≤ (l.length : Nat)) (hw : ∀ x, (enc x).length = w) (hc : cty.length = w)
  (h : ∀ y, Al y = true → Acr w x a.toNat b.toNat y → Sep H (.shs x ty (Aj enc l) ((y, ty, Aj enc ((l.drop a.toNat).take (b.toNat - a.toNat))) :: ys) :: L1) → Gd G (K y)) : Gd G (Iz w x lo hi fun t => K t) := by
 obtain ⟨a', rfl⟩ : ∃ a' : Nat, a = a' := ⟨a.toNat, by omega⟩
 obtain ⟨b', rfl⟩ : ∃ b' : Nat, b = b' := ⟨b.toNat, by omega⟩
 refine Aeg (cells := (l.map enc).flatten) hs hty hp hlo hhi (by omega) (by omega) hc fun y hy hq hs' => h y hy (by simpa using hq) ?_
 rw [Sw hw l a' b' (by omega) (by omega)] at hs'
 exact hs'
end
end
section
open Go
section
variable {β : Type} {n : Nat} {H : Aa} {L L' L1 L2 : List Ck} {G : Option β → Prop} {K : AV → Option β} {KH : KO β} {c : Nat} {code : ByteArray} {i : Nat} {h : Int}
abbrev Cr (c : Nat) (code : ByteArray) (i : Nat) (h : Int) : Ck := .blk c (cur code i h) true
theorem AgO (s : Sep H L) (p : Pk L (Cr c code i h) L1) : H[c]? = some (Nk code i h) := s.blk p
theorem Aab {ty : Nat} (hs : code.size ≤ 1048576) (s : Sep H L) (p : Pk L (Cr c code i h) L1)
  (hk : ∀ (x : Int) (i' : Nat) (h' : Int) (H' : Aa), 0 ≤ x ∧ x < 256 → Sep H' (Cr c code i' h' :: L1) → Gd G (KH (si x) H')) :
  Gd G ((PR (n + 1) β).call ty (.fn 97 [] []) [.ptr c 0] H fun x H => KH x H) := by
 obtain ⟨x, i', h', hx, hr⟩ := Wc (β := β) (n := n) c code hs i h (AgO s p) ty
 rw [hr]
 exact hk x i' h' _ (by omega) (s.put p (cur code i' h') true)
theorem Fx {ty : Nat} {m : Int} (hs : code.size ≤ 1048576) (hm : m ≤ 4294967296) (s : Sep H L) (p : Pk L (Cr c code i h) L1)
  (hk : ∀ (x : Int) (i' : Nat) (h' : Int) (H' : Aa), 0 ≤ x ∧ (0 < m → x < m) ∧ (m ≤ 0 → x = 0) → Sep H' (Cr c code i' h' :: L1) → Gd G (KH (si x) H')) :
  Gd G ((PR (n + 2) β).call ty (.fn 59 [] []) [.ptr c 0, si m] H fun x H => KH x H) := by
 by_cases h0 : m ≤ 0
 rw [La rfl rfl, Y3, f59]
 simp only [A4, At]
 exact Aee (Dd (by simp; omega) (hk 0 i h H ⟨by omega, by omega, fun _ => rfl⟩ (s.pick p)))
 by_cases h1 : m ≤ 256
 obtain ⟨x, i', h', hx, hr⟩ := AaK (β := β) (n := n) c code hs i h (AgO s p) ty m.toNat (by omega) (by omega)
 rw [show ((m.toNat : Nat) : Int) = m by omega] at hr
 rw [hr]
 exact hk x i' h' _ ⟨by omega, by omega, by omega⟩ (s.put p (cur code i' h') true)
 rw [La rfl rfl, Y3, f59]
 simp only [A4, At]
 refine Aee (Cj (by simp; omega) (Aee (Cj (by simp; omega) (Aab hs s p fun x i1 k1 H1 hx s1 => Aab hs s1 .here fun y i2 k2 H2 hy s2 => Aab hs s2 .here fun z i3 k3 H3 hz s3 => Ahf (by omega) (by omega) (Ahf (by omega) (by omega) (Hq (by omega) (by omega) (Hq (by omega) (by omega) (AjO (v := .sc (.int .i64 ((x * 65536 + y * 256 + z).tmod m))) (fun k => ?_) ?_))))))))
 show (Ye .rem .i64 (x * 65536 + y * 256 + z) m).bind (fun v => k (.sc v)) = _
 have e : Ye .rem .i64 (x * 65536 + y * 256 + z) m = some (.int .i64 ((x * 65536 + y * 256 + z).tmod m)) := by
  show (if m = 0 then none else some (Value.int .i64 ((x * 65536 + y * 256 + z).tmod m))) = _
  rw [if_neg (by omega)]
 rw [e]
 rfl
 have hnn : 0 ≤ x * 65536 + y * 256 + z := by omega
 have e := Int.tmod_eq_emod_of_nonneg (b := m) hnn
 have e1 := Int.emod_nonneg (x * 65536 + y * 256 + z) (show m ≠ 0 by omega)
 have e2 := Int.emod_lt_of_pos (x * 65536 + y * 256 + z) (show 0 < m by omega)
 exact hk _ i3 k3 H3 ⟨by rw [e]; exact e1, fun _ => by rw [e]; exact e2, by omega⟩ s3
theorem Ds {ty d m : Nat} {cs : List AV} {a : Bool} (hs : code.size ≤ 1048576) (hm : m ≤ 256) (h1 : 1 ≤ m) (hc : cs.length = m) (s : Sep H L) (p : Pk L (Cr c code i h) L1) (q : Pk L1 (.blk d cs a) L2)
  (hk : ∀ (x : AV) (i' : Nat) (h' : Int) (H' : Aa), x ∈ cs → Sep H' (Cr c code i' h' :: L1) → Gd G (KH x H')) :
  Gd G ((PR (n + 3) β).call ty (.fn 61 [] []) [.ptr c 0, .sl d 0 m 1] H fun x H => KH x H) := by
 rw [La rfl rfl, Aic, f61]
 simp only [Bm, Bq, A2]
 refine Aed (Fx hs (by omega) s p fun z i' h' H' hz s' => N9 (by omega) (by omega) ?_)
 have hlt : 0 + z.toNat * 1 < cs.length := by omega
 refine Bg (c := cs[0 + z.toNat * 1]) s' (.there q) (zas hlt) ?_
 exact hk _ i' h' H' (List.getElem_mem hlt) s'
theorem AkG {ty : Nat} (hs : code.size ≤ 1048576) (hn : 4000 < n) (s : Sep H L) (hk : ∀ (c : Nat) (h : Int) (H' : Aa), Sep H' (Cr c code 0 h :: L) → Gd G (KH (.ptr c 0) H')) :
  Gd G ((PR (n + 1) β).call ty (.fn 40 [] []) [Bj code] H fun x H => KH x H) := by
 obtain ⟨h, hr⟩ := Agu (β := β) (n := n) (H := H) code hs hn ty
 show Gd G ((PR (n + 1) β).call ty (.fn 40 [] []) [.ro code.size (Bb code)] H fun x H => KH x H)
 rw [hr]
 exact hk _ h _ (s.new (J := [H.length]) ⟨rfl, by rw [zaf (zai _), zaI]; rfl⟩ (by simp) (by simp))
theorem Ax {x : AV} {l : List Int} {lo hi : Int} (h : x ∈ l.map fun z => AV.sc (.int .i64 z)) (hl : ∀ z ∈ l, lo ≤ z ∧ z ≤ hi) : ∃ z : Int, x = .sc (.int .i64 z) ∧ lo ≤ z ∧ z ≤ hi := by
 obtain ⟨z, h1, rfl⟩ := zbE.1 h
 exact ⟨z, rfl, hl z h1⟩
theorem Mm {x : AV} {l : List ByteArray} {m : Nat} (h : x ∈ l.map fun z => AV.sc (.string z)) (hl : ∀ z ∈ l, z.size ≤ m) : ∃ z : ByteArray, x = .sc (.string z) ∧ z.size ≤ m := by
 obtain ⟨z, h1, rfl⟩ := zbE.1 h
 exact ⟨z, rfl, hl z h1⟩
theorem Lv {α : Type} {w : α → Nat} : Fp w [] = 0 := rfl
theorem Hb {α : Type} {w : α → Nat} : ∀ (l : List α) (x : α), Fp w (l ++ [x]) = Fp w l + (1 + w x)
 | [], x => by show 1 + w x + 0 = 0 + (1 + w x); omega
 | y :: l, x => by
  show 1 + w y + Fp w (l ++ [x]) = 1 + w y + Fp w l + (1 + w x)
  rw [Hb l x]
  omega
theorem Jl {α : Type} {p : α → Prop} {l : List α} {x : α} (h : ∀ y ∈ l, p y) (hx : p x) : ∀ y ∈ l ++ [x], p y := by
 intro y hy
 rcases za9.1 hy with hy | hy
 exact h y hy
 rw [zbm.1 hy]
 exact hx
theorem I7 {α : Type} (w : α → Nat) : ∀ (l : List α), l.length ≤ Fp w l
 | [] => zai _
 | x :: l => by
  have := I7 w l
  show l.length + 1 ≤ 1 + w x + Fp w l
  omega
theorem Cn : (⟨#[]⟩ : ByteArray).size = 0 := rfl
end
end
section
open Go
section
variable {β : Type} {n : Nat} {H : Aa} {L L' L1 L2 : List Ck} {G : Option β → Prop} {K : AV → Option β} {KH : KO β} {c : Nat} {code : ByteArray} {i : Nat} {h : Int}
theorem Sj {ty : Nat} {m : Int} (hs : code.size ≤ 1048576) (hm : m ≤ 4294967296) (s : Sep H L) (p : Pk L (Cr c code i h) L1)
  (hk : ∀ (b : Bool) (i' : Nat) (h' : Int) (H' : Aa), Sep H' (Cr c code i' h' :: L1) → Gd G (KH (sb b) H')) :
  Gd G ((PR (n + 3) β).call ty (.fn 60 [] []) [.ptr c 0, si m] H fun x H => KH x H) := by
 rw [La rfl rfl, Aib, f60]
 simp only [A4]
 exact Fx hs hm s p fun x i' h' H' hx s' => Cb (hk _ i' h' H' s')
theorem AeK {ty d m : Nat} {cs : List AV} {a : Bool} (hs : code.size ≤ 1048576) (hm : m ≤ 256) (h1 : 1 ≤ m) (hc : cs.length = m) (s : Sep H L) (p : Pk L (Cr c code i h) L1) (q : Pk L1 (.blk d cs a) L2)
  (hk : ∀ (x : AV) (i' : Nat) (h' : Int) (H' : Aa), x ∈ cs → Sep H' (Cr c code i' h' :: L1) → Gd G (KH x H')) :
  Gd G ((PR (n + 3) β).call ty (.fn 107 [] []) [.ptr c 0, .sl d 0 m 1] H fun x H => KH x H) := by
 rw [La rfl rfl, Afo, f107]
 simp only [Bm, Bq, A2]
 refine Aed (Fx hs (by omega) s p fun z i' h' H' hz s' => N9 (by omega) (by omega) ?_)
 have hlt : 0 + z.toNat * 1 < cs.length := by omega
 refine Bg (c := cs[0 + z.toNat * 1]) s' (.there q) (zas hlt) ?_
 exact hk _ i' h' H' (List.getElem_mem hlt) s'
end
end
end Go.Proofs.YtdofipeaomgbbaaGreatDoor.Abs
set_option maxHeartbeats 1600000
namespace Go.Proofs.YtdofipeaomgbbaaGreatDoor.Abs
open _root_.Option renaming bind_eq_some_iff → zaa, bind_some → zab, getD_some → za5, map_eq_some_iff → zaN, bind_eq_bind → zaS, pure_def → zbg
open _root_.List renaming getElem?_eq_some_iff → zac, replicate → zad, length_append → zae, getElem?_append_right → zaf, getElem?_append_left → zag, nil_append → zah, append_assoc → zaj, length_singleton → zal, append_nil → zam, length_cons → zao, eq_nil_of_length_eq_zero → zap, mem_append_right → zaq, length_nil → zar, getElem?_eq_getElem → zas, mem_append_left → zat, cons_append → zau, mem_cons → zav, mem_cons_of_mem → zax, not_mem_nil → zay, map_cons → za0, flatten_append → za1, take_length → za3, getElem?_set_ne → za4, drop_zero → za6, mem_cons_self → za7, mem_append → za9, map_append → zaA, replicate_append_replicate → zaB, flatten_cons → zaD, all_eq_true → zaE, length_drop → zaF, nodup_cons → zaH, nodup_append → zaJ, mem_range'_1 → zaK, length_take → zaL, nodup_range' → zaP, take_append_drop → zaR, all_cons → zaT, mapM_cons → zaU, range' → zaW, drop_of_length_le → zaX, getElem?_set_self → zaY, drop_drop → zbb, getElem?_map → zbc, length_set → zbh, take_of_length_le → zbi, drop_eq_getElem_cons → zbj, getElem?_drop → zbk, mem_singleton → zbm, drop_append_of_le_length → zbn, getElem?_cons_zero → zbo, any_cons → zbt, length_map → zbz, map_nil → zb0, Perm → zb1, take_append_of_le_length → zb2, nodup_nil → zb3, length_eq_one_iff → zb5, headD_cons → zb9, drop_left' → zbA, getD_eq_getElem?_getD → zbB, tail_cons → zbC, mem_map → zbE, take_zero → zbF, map_map → zbH
open _root_.Nat renaming le_refl → zai, zero_add → zaw, sub_self → zaI, add_assoc → zaO, min_eq_left → zaQ, add_mul → zaV, add_zero → zaZ, eq_of_beq_eq_true → zba, mul_le_mul_right → zbd, add_sub_cancel_left → zbq, one_mul → zbv, beq → zb4, add_comm → zbD, succ_mul → zbG
open _root_.Bool renaming and_eq_true → zak, false_eq_true → zan, eq_iff_iff → zaM
open _root_.Array renaming ext' → zbl, replicate → zbx
open _root_.Int renaming natCast_zero → zbe, toNat_natCast → zbf
section
open Go
theorem Sb (n : Nat) (hn : 1048576 < n) (code : ByteArray) (hcode : code.size ≤ 1048576) (c i : Nat) (h : Int)   {β : Type} {G : Option β → Prop} {KH : KO β} {H : Aa} {L : List Ck} (s0 : Sep H (Cr c code i h :: L)) (hk : ∀ (r0 : ByteArray) (i' : Nat) (h' : Int) (H' : Aa), (r0.size ≤ 7) → Sep H' (Cr c code i' h' :: L) → Gd G (KH (.sc (.string r0)) H')) : Gd G (Dm E0 (n + 5) β 123 [.ptr c 0] H fun x H => KH x H) := by
 rw [Af1, f123]
 try simp only [Ba, Be]
 refine Bp (cs := [ss (⟨#[97]⟩), ss (⟨#[98]⟩), ss (⟨#[97, 47, 98]⟩), ss (⟨#[97, 47, 99]⟩), ss (⟨#[97, 47, 98, 47, 99]⟩), ss (⟨#[97, 47, 98, 47, 99, 47, 100]⟩), ss (⟨#[36, 115]⟩), ss (⟨#[36, 115, 47, 97]⟩), ss (⟨#[47]⟩), ss (⟨#[97, 47]⟩), ss (⟨#[47, 97]⟩), ss (⟨#[98, 47, 98]⟩), ss (⟨#[195, 169, 47, 97]⟩)]) rfl (Bw s0 fun i1 H s2 => AeK hcode (by omega) (by omega) rfl s2 A8 (.here) fun z3a iq4 hq4 H mz3 sq4 => ?_)
 have s5 := (sq4.pick A8).tail
 obtain ⟨z3, rfl, hz3⟩ := Mm (l := [⟨#[97]⟩, ⟨#[98]⟩, ⟨#[97, 47, 98]⟩, ⟨#[97, 47, 99]⟩, ⟨#[97, 47, 98, 47, 99]⟩, ⟨#[97, 47, 98, 47, 99, 47, 100]⟩, ⟨#[36, 115]⟩, ⟨#[36, 115, 47, 97]⟩, ⟨#[47]⟩, ⟨#[97, 47]⟩, ⟨#[47, 97]⟩, ⟨#[98, 47, 98]⟩, ⟨#[195, 169, 47, 97]⟩]) (m := 7) mz3 (by decide)
 have e6 : z3.size ≤ 7 := by
  first | omega | (simp only [Dt, Cn]; omega) | (simp; omega)
 exact hk z3 iq4 hq4 _ e6 (s5.sel (.cons (.here) .rest))
theorem Wx (n : Nat) (hn : 1048576 < n) (code : ByteArray) (hcode : code.size ≤ 1048576) (c i : Nat) (h : Int) (k : Int) (hk0 : k ≤ 1048576) {β : Type} {G : Option β → Prop} {KH : KO β} {H : Aa} {L : List Ck} (s0 : Sep H (Cr c code i h :: L)) (hk : ∀ (r0 : ByteArray) (r0x : AV) (i' : Nat) (h' : Int) (H' : Aa), (Al r0x = true) → (r0.size ≤ k.toNat) → Sep H' (.own r0x 22 (Bj r0) :: Cr c code i' h' :: L) → Gd G (KH (r0x) H')) : Gd G (Dm E0 (n + 3) β 105 [.ptr c 0, .sc (.int .i64 k)] H fun x H => KH x H) := by
 rw [Afm, f105]
 try simp only [Cf]
 have lp1 : ∀ (j m : Nat) (z : Int) (a2 : ByteArray) (a2x : AV) (i : Nat) (h : Int) (H : Aa), j < m → 0 ≤ z ∧ z + ((j : Nat) : Int) = max (k) 0 → Al a2x = true → (a2.size = (z : Int).toNat) → Sep H (.own a2x 22 (Bj a2) :: Cr c code i h :: L) → Gd G (Lh (PR ((n + 2)) β) ((n + 2)) (fun x H => KH x H) m (.ptr c 0) (si k) (a2x) (si z) H) := by
  clear s0
  intro j
  induction j with
  | zero =>
   intro m0 z a2 a2x i h H hm hz la2x hinv s0
   obtain ⟨m, rfl⟩ : ∃ m, m0 = m + 1 := ⟨m0 - 1, by omega⟩
   rw [Lh]
   try simp only [Ba, A4, At, Be, Cg, Df]
   refine Oa (Cj (decide_eq_false (by omega)) ?_)
   have e2 : a2.size ≤ k.toNat := by
    first | omega | (simp only [Dt, Cn]; omega) | (simp; omega)
   exact hk a2 a2x i h _ la2x e2 (s0.sel (.cons (.here) (.cons (.here) .rest)))
  | succ j ih =>
   intro m0 z a2 a2x i h H hm hz la2x hinv s0
   obtain ⟨m, rfl⟩ : ∃ m, m0 = m + 1 := ⟨m0 - 1, by omega⟩
   rw [Lh]
   try simp only [Ba, A4, At, Be, Cg, Df]
   refine Oa (Dd (decide_eq_true (by omega)) (Aab hcode s0 A8 fun z3 iq4 hq4 H hz3 sq4 => AjP (AeQ (by omega) (by omega)) (Bp (cs := [.sc (.int .u8 z3)]) rfl (Bw sq4 fun i5 H s6 => AfS s6 Co (.here) ⟨_, _, rfl, rfl, rfl, rfl⟩ rfl (by first | omega | (simp only [zbz]; omega)) fun x7 H lx7 s8 => Hq (by omega) (by omega) ?_))))
   have e9 : (Ov a2 z3).size = ((z + 1) : Int).toNat := by
    simp only [Dt, Cn]; omega
   exact ih m _ (Ov a2 z3) x7 iq4 hq4 _ (by omega) (by omega) lx7 e9 (s8.sel (.cons (.here) (.cons (.here) .rest)))
 have s10 := s0.nl (ty := 22) ⟨_, _, rfl, rfl⟩
 have e11 : (⟨#[]⟩ : ByteArray).size = (0 : Int).toNat := by
  simp only [Dt, Cn]; omega
 exact lp1 (max (k) 0 - 0).toNat _ _ (⟨#[]⟩ : ByteArray) .nl i h _ (by omega) (by omega) rfl e11 (s10.sel (.cons (.here) (.cons (.here) .rest)))
theorem Oh (n : Nat) (hn : 1048576 < n) (code : ByteArray) (hcode : code.size ≤ 1048576) (c i : Nat) (h : Int)   {β : Type} {G : Option β → Prop} {KH : KO β} {H : Aa} {L : List Ck} (s0 : Sep H (Cr c code i h :: L)) (hk : ∀ (r0 : Br) (r0x1 : AV) (i' : Nat) (h' : Int) (H' : Aa), (Al r0x1 = true) → (Ce r0 ∧ Bc r0 ≤ 9) → Sep H' (.own r0x1 22 (Bj r0.fBody) :: Cr c code i' h' :: L) → Gd G (KH (.agg [.sc (.string r0.fTopic), r0x1, .sc (.int .i64 r0.fQos), .sc (.bool r0.fRetain)]) H')) : Gd G (Dm E0 (n + 7) β 103 [.ptr c 0] H fun x H => KH x H) := by
 rw [Afk, f103]
 try simp only [Cf, A2, A9, Be]
 refine Dz s0 fun i1 H s2 => Gv rfl rfl (Sb _ (by omega) code hcode c i h   (s2.pick A8) fun r3 iq4 hq4 H hr3 sq4 => Fx (m := 3) hcode (by omega) sq4 (.here) fun z5 iq6 hq6 H hz5 sq6 => ?_)
 replace hz5 : 0 ≤ z5 ∧ z5 < 3 := by omega
 refine Gv rfl rfl (Wx _ (by omega) code hcode c iq6 hq6 z5 (by omega) (sq6.pick (.here)) fun r7 r7x iq8 hq8 H lr7x hr7 sq8 => Fx (m := 3) hcode (by omega) sq8 A8 fun z9 iq10 hq10 H hz9 sq10 => ?_)
 replace hz9 : 0 ≤ z9 ∧ z9 < 3 := by omega
 refine Sj hcode (by omega) sq10 (.here) fun b11 iq12 hq12 H sq12 => Bp (cs := [ss r3, r7x, si z9, sb b11]) (Gr (z' := [ss r3, .nl, i0, bF]) (D3 rfl) rfl (Bd rfl) rfl (Gr (z' := [ss r3, r7x, i0, bF]) (D3 lr7x) rfl (Bd rfl) rfl (Gr (z' := [ss r3, r7x, si z9, bF]) (D3 rfl) rfl (Bd rfl) rfl (Gr (z' := [ss r3, r7x, si z9, sb b11]) (D3 rfl) rfl (Bd rfl) rfl (rfl))))) (Bt (cs' := [ss r3, r7x, si z9, sb b11]) sq12 Co (Ac (Ab rfl (Ab lr7x rfl))) rfl (Bd rfl) rfl fun H s13 => Af s13 (.here) rfl ?_)
 have e14 : Ce (⟨r3, r7, z9, b11⟩ : Br) ∧ Bc (⟨r3, r7, z9, b11⟩ : Br) ≤ 9 := by
  simp only [Ce, Bc, Hz, Do, and_true, true_and, Cn]; first | omega | ((repeat' apply And.intro) <;> first | trivial | omega | assumption | (intro y hy; cases hy; done))
 exact hk (⟨r3, r7, z9, b11⟩ : Br) r7x iq12 hq12 _ lr7x e14 (s13.sel (.cons Co (.cons A8 (.skip .rest))))
theorem Ud (n : Nat) (hn : 1048576 < n) (code : ByteArray) (hcode : code.size ≤ 1048576) (c i : Nat) (h : Int) (most : Int) (hm0 : 0 ≤ most ∧ most ≤ 8) {β : Type} {G : Option β → Prop} {KH : KO β} {H : Aa} {L : List Ck} (s0 : Sep H (Cr c code i h :: L)) (hk : ∀ (r0 : List Br) (r0x : AV) (i' : Nat) (h' : Int) (H' : Aa), (Al r0x = true) → ((∀ y ∈ r0, Ce y) ∧ Fp Bc r0 ≤ 80) → Sep H' (.own r0x 25 (Aj Ag r0) :: Cr c code i' h' :: L) → Gd G (KH (r0x) H')) : Gd G (Dm E0 (n + 9) β 112 [.ptr c 0, .sc (.int .i64 most)] H fun x H => KH x H) := by
 rw [Afu, f112]
 try simp only [A4]
 refine Hq (by omega) (by omega) (Fx (m := (most + 1)) hcode (by omega) s0 (.here) fun z1 iq2 hq2 H hz1 sq2 => ?_)
 have lp3 : ∀ (j m : Nat) (z : Int) (a1 : List Br) (a1x : AV) (i : Nat) (h : Int) (H : Aa), j < m → z = ((j : Nat) : Int) → Al a1x = true → ((∀ y ∈ a1, Ce y) ∧ Fp Bc a1 + 10 * j ≤ 80) → Sep H (.own a1x 25 (Aj Ag a1) :: Cr c code i h :: L) → Gd G (Li (PR ((n + 8)) β) ((n + 8)) (fun x H => KH x H) m (.ptr c 0) (a1x) (si z) H) := by
  clear s0 sq2
  intro j
  induction j with
  | zero =>
   intro m0 z a1 a1x i h H hm hz la1x hinv s0
   obtain ⟨m, rfl⟩ : ∃ m, m0 = m + 1 := ⟨m0 - 1, by omega⟩
   obtain ⟨hv1, hv2⟩ := hinv
   have hinv := And.intro hv1 hv2
   have ga1 := I7 Bc a1
   rw [Li]
   try simp only [Ba, A4, At, Be, Cg]
   refine Mf (Cj (decide_eq_false (by omega)) ?_)
   have e4 : (∀ y ∈ a1, Ce y) ∧ Fp Bc a1 ≤ 80 := by
    first | exact ⟨by assumption, by omega⟩ | exact ⟨by simp, by simp [Lv]⟩ | exact ⟨Jl (by assumption) (by assumption), by rw [Hb]; omega⟩
   exact hk a1 a1x i h _ la1x e4 (s0.sel (.cons (.here) (.cons (.here) .rest)))
  | succ j ih =>
   intro m0 z a1 a1x i h H hm hz la1x hinv s0
   obtain ⟨m, rfl⟩ : ∃ m, m0 = m + 1 := ⟨m0 - 1, by omega⟩
   obtain ⟨hv1, hv2⟩ := hinv
   have hinv := And.intro hv1 hv2
   have ga1 := I7 Bc a1
   rw [Li]
   try simp only [Ba, A4, At, Be, Cg]
   refine Mf (Dd (decide_eq_true (by omega)) (Gv rfl rfl (Oh _ (by omega) code hcode c i h   (s0.pick A8) fun r5 r5x1 iq6 hq6 H lr5x1 hr5 sq6 => ?_)))
   obtain ⟨or5, wr5⟩ := hr5
   have ur5 := or5
   have vr5 := wr5
   simp only [Ce, Bc, Hz, Do, and_true, true_and] at ur5 vr5
   refine Bp (cs := [.sc (.string r5.fTopic), r5x1, .sc (.int .i64 r5.fQos), .sc (.bool r5.fRetain)]) (Gr (z' := [.sc (.string r5.fTopic), r5x1, .sc (.int .i64 r5.fQos), .sc (.bool r5.fRetain)]) (Ac (Ab rfl (Ab lr5x1 rfl))) rfl (Bd rfl) rfl (rfl)) (Bw sq6 fun i7 H s8 => Y9 (cty := [9, 22, 3, 4]) (e := (r5 : Br)) s8 ⟨_, _, rfl, rfl, rfl, rfl⟩ C1 (.here) rfl (Ab rfl (Ab lr5x1 rfl)) (.sc (.own (.here) (.sc (.sc .nil)))) ⟨trivial, ⟨(Aez r5.fBody), (Tk trivial)⟩⟩ rfl (by first | omega | (simp only [zae, zal]; omega)) fun x9 H lx9 s10 => T8 (by omega) (by omega) ?_)
   have e11 : (∀ y ∈ (a1 ++ [r5]), Ce y) ∧ Fp Bc (a1 ++ [r5]) + 10 * j ≤ 80 := by
    first | omega | exact ⟨fun y hy => (by cases hy), by simp only [Lv]; omega⟩ | exact ⟨Jl hinv.1 (by assumption), by have h0 := hinv.2; rw [Hb]; omega⟩ | (simp only [Dt, Cn] at *; omega) | (simp only [Hz, Do, Lv, Hb, zar, zae, zal, zay, false_implies, implies_true, and_true, true_and] at *; first | omega | (refine ⟨?_, ?_⟩ <;> first | omega | assumption))
   exact ih m _ (a1 ++ [r5]) x9 iq6 hq6 _ (by omega) (by omega) lx9 e11 (s10.sel (.cons (.here) (.cons (.here) .rest)))
 have s12 := sq2.nl (ty := 25) ⟨_, _, rfl, rfl⟩
 have e13 : (∀ y ∈ ([] : List Br), Ce y) ∧ Fp Bc ([] : List Br) + 10 * (z1).toNat ≤ 80 := by
  first | omega | exact ⟨fun y hy => (by cases hy), by simp only [Lv]; omega⟩ | exact ⟨Jl hinv.1 (by assumption), by have h0 := hinv.2; rw [Hb]; omega⟩ | (simp only [Dt, Cn] at *; omega) | (simp only [Hz, Do, Lv, Hb, zar, zae, zal, zay, false_implies, implies_true, and_true, true_and] at *; first | omega | (refine ⟨?_, ?_⟩ <;> first | omega | assumption))
 exact lp3 (z1).toNat _ _ ([] : List Br) .nl iq2 hq2 _ (by omega) (by omega) rfl e13 (s12.sel (.cons (.here) (.cons (.here) .rest)))
theorem AbV (n : Nat) (hn : 1048576 < n) (code : ByteArray) (hcode : code.size ≤ 1048576) (c i : Nat) (h : Int)   {β : Type} {G : Option β → Prop} {KH : KO β} {H : Aa} {L : List Ck} (s0 : Sep H (Cr c code i h :: L)) (hk : ∀ (r0 : ByteArray) (i' : Nat) (h' : Int) (H' : Aa), (r0.size ≤ 7) → Sep H' (Cr c code i' h' :: L) → Gd G (KH (.sc (.string r0)) H')) : Gd G (Dm E0 (n + 6) β 124 [.ptr c 0] H fun x H => KH x H) := by
 rw [Af2, f124]
 try simp only [Ba, At, Be]
 refine Sj hcode (by omega) s0 (.here) fun b1 iq2 hq2 H sq2 => Ad (b1) (fun h3 => ?_) fun h3 => ?_
 refine Dd h3 (Gv rfl rfl (Sb _ (by omega) code hcode c iq2 hq2   (sq2.pick (.here)) fun r4 iq5 hq5 H hr4 sq5 => ?_))
 have e6 : r4.size ≤ 7 := by
  first | omega | (simp only [Dt, Cn]; omega) | (simp; omega)
 exact hk r4 iq5 hq5 _ e6 (sq5.sel (.cons (.here) .rest))
 refine Cj h3 (Bp (cs := [ss (⟨#[35]⟩), ss (⟨#[43]⟩), ss (⟨#[97, 47, 35]⟩), ss (⟨#[97, 47, 43]⟩), ss (⟨#[43, 47, 98]⟩), ss (⟨#[43, 47, 43]⟩), ss (⟨#[97, 47, 43, 47, 99]⟩), ss (⟨#[97, 47, 98, 47, 35]⟩), ss (⟨#[36, 115, 47, 35]⟩), ss (⟨#[36, 115, 47, 43]⟩), ss (⟨#[43, 47, 35]⟩), ss (⟨#[47, 43]⟩), ss (⟨#[47, 35]⟩), ss (⟨#[97, 47, 43, 47, 35]⟩), ss (⟨#[98, 47, 35]⟩), ss (⟨#[43, 47, 98, 47, 43]⟩)]) rfl (Bw sq2 fun i7 H s8 => AeK hcode (by omega) (by omega) rfl s8 A8 (.here) fun z9a iq10 hq10 H mz9 sq10 => ?_))
 have s11 := (sq10.pick A8).tail
 obtain ⟨z9, rfl, hz9⟩ := Mm (l := [⟨#[35]⟩, ⟨#[43]⟩, ⟨#[97, 47, 35]⟩, ⟨#[97, 47, 43]⟩, ⟨#[43, 47, 98]⟩, ⟨#[43, 47, 43]⟩, ⟨#[97, 47, 43, 47, 99]⟩, ⟨#[97, 47, 98, 47, 35]⟩, ⟨#[36, 115, 47, 35]⟩, ⟨#[36, 115, 47, 43]⟩, ⟨#[43, 47, 35]⟩, ⟨#[47, 43]⟩, ⟨#[47, 35]⟩, ⟨#[97, 47, 43, 47, 35]⟩, ⟨#[98, 47, 35]⟩, ⟨#[43, 47, 98, 47, 43]⟩]) (m := 5) mz9 (by decide)
 have e12 : z9.size ≤ 7 := by
  first | omega | (simp only [Dt, Cn]; omega) | (simp; omega)
 exact hk z9 iq10 hq10 _ e12 (s11.sel (.cons (.here) .rest))
theorem AiE (n : Nat) (hn : 1048576 < n) (code : ByteArray) (hcode : code.size ≤ 1048576) (c i : Nat) (h : Int)   {β : Type} {G : Option β → Prop} {KH : KO β} {H : Aa} {L : List Ck} (s0 : Sep H (Cr c code i h :: L)) (hk : ∀ (r0 : ByteArray) (i' : Nat) (h' : Int) (H' : Aa), (r0.size ≤ 61) → Sep H' (Cr c code i' h' :: L) → Gd G (KH (.sc (.string r0)) H')) : Gd G (Dm E0 (n + 7) β 104 [.ptr c 0] H fun x H => KH x H) := by
 rw [Afl, f104]
 try simp only [Ba, A4, At, Be]
 refine Fx (m := 3) hcode (by omega) s0 (.here) fun z1 iq2 hq2 H hz1 sq2 => ?_
 replace hz1 : 0 ≤ z1 ∧ z1 < 3 := by omega
 refine Cb (Ad ((decide (z1 = 0))) (fun h3 => ?_) fun h3 => ?_)
 refine Dd h3 (Gv rfl rfl (Sb _ (by omega) code hcode c iq2 hq2   (sq2.pick (.here)) fun r4 iq5 hq5 H hr4 sq5 => ?_))
 have e6 : r4.size ≤ 61 := by
  first | omega | (simp only [Dt, Cn]; omega) | (simp; omega)
 exact hk r4 iq5 hq5 _ e6 (sq5.sel (.cons (.here) .rest))
 refine Cj h3 (Cb (Ad ((decide (z1 = 1))) (fun h7 => ?_) fun h7 => ?_))
 refine Dd h7 (Gv rfl rfl (AbV _ (by omega) code hcode c iq2 hq2   (sq2.pick (.here)) fun r8 iq9 hq9 H hr8 sq9 => ?_))
 have e10 : r8.size ≤ 61 := by
  first | omega | (simp only [Dt, Cn]; omega) | (simp; omega)
 exact hk r8 iq9 hq9 _ e10 (sq9.sel (.cons (.here) .rest))
 refine Cj h7 (Bp (cs := [sE, ss (⟨#[97, 43]⟩), ss (⟨#[97, 47, 98, 43]⟩), ss (⟨#[43, 97]⟩), ss (⟨#[35, 47, 97]⟩), ss (⟨#[97, 35]⟩), ss (⟨#[97, 47, 35, 47, 98]⟩), ss (⟨#[35, 35]⟩), ss (⟨#[43, 43]⟩), ss (⟨#[97, 47, 98, 47, 99, 47, 100, 47, 101, 47, 102]⟩), ss (⟨#[97, 47, 98, 47, 99, 47, 100, 47, 101, 47, 102, 47, 103]⟩), ss (⟨#[47, 47, 47, 47, 47]⟩), ss (⟨#[47, 47, 47, 47, 47, 47]⟩), ss (⟨#[0]⟩), ss (⟨#[255]⟩), ss (⟨#[49, 50, 51, 52, 53, 54, 55, 56, 57, 48, 49, 50, 51, 52, 53, 54, 55, 56, 57, 48, 49, 50, 51, 52, 53, 54, 55, 56, 57, 48, 49, 50, 51, 52, 53, 54, 55, 56, 57, 48, 49, 50, 51, 52, 53, 54, 55, 56, 57, 48, 49, 50, 51, 52, 53, 54, 55, 56, 57, 48, 49]⟩)]) rfl (Bw sq2 fun i11 H s12 => AeK hcode (by omega) (by omega) rfl s12 A8 (.here) fun z13a iq14 hq14 H mz13 sq14 => ?_))
 have s15 := (sq14.pick A8).tail
 obtain ⟨z13, rfl, hz13⟩ := Mm (l := [⟨#[]⟩, ⟨#[97, 43]⟩, ⟨#[97, 47, 98, 43]⟩, ⟨#[43, 97]⟩, ⟨#[35, 47, 97]⟩, ⟨#[97, 35]⟩, ⟨#[97, 47, 35, 47, 98]⟩, ⟨#[35, 35]⟩, ⟨#[43, 43]⟩, ⟨#[97, 47, 98, 47, 99, 47, 100, 47, 101, 47, 102]⟩, ⟨#[97, 47, 98, 47, 99, 47, 100, 47, 101, 47, 102, 47, 103]⟩, ⟨#[47, 47, 47, 47, 47]⟩, ⟨#[47, 47, 47, 47, 47, 47]⟩, ⟨#[0]⟩, ⟨#[255]⟩, ⟨#[49, 50, 51, 52, 53, 54, 55, 56, 57, 48, 49, 50, 51, 52, 53, 54, 55, 56, 57, 48, 49, 50, 51, 52, 53, 54, 55, 56, 57, 48, 49, 50, 51, 52, 53, 54, 55, 56, 57, 48, 49, 50, 51, 52, 53, 54, 55, 56, 57, 48, 49, 50, 51, 52, 53, 54, 55, 56, 57, 48, 49]⟩]) (m := 61) mz13 (by decide)
 have e16 : z13.size ≤ 61 := by
  first | omega | (simp only [Dt, Cn]; omega) | (simp; omega)
 exact hk z13 iq14 hq14 _ e16 (s15.sel (.cons (.here) .rest))
theorem Lo (n : Nat) (hn : 1048576 < n) (code : ByteArray) (hcode : code.size ≤ 1048576) (c i : Nat) (h : Int)   {β : Type} {G : Option β → Prop} {KH : KO β} {H : Aa} {L : List Ck} (s0 : Sep H (Cr c code i h :: L)) (hk : ∀ (r0 : Br) (r0x1 : AV) (i' : Nat) (h' : Int) (H' : Aa), (Al r0x1 = true) → (Ce r0 ∧ Bc r0 ≤ 102) → Sep H' (.own r0x1 22 (Bj r0.fBody) :: Cr c code i' h' :: L) → Gd G (KH (.agg [.sc (.string r0.fTopic), r0x1, .sc (.int .i64 r0.fQos), .sc (.bool r0.fRetain)]) H')) : Gd G (Dm E0 (n + 9) β 66 [.ptr c 0] H fun x H => KH x H) := by
 rw [Aig, f66]
 try simp only [Cf, Ba, Bk, A2, A9, A4, At, Be]
 refine Dz s0 fun i1 H s2 => Gv rfl rfl (Oh _ (by omega) code hcode c i h   (s2.pick A8) fun r3 r3x1 iq4 hq4 H lr3x1 hr3 sq4 => ?_)
 obtain ⟨or3, wr3⟩ := hr3
 have ur3 := or3
 have vr3 := wr3
 simp only [Ce, Bc, Hz, Do, and_true, true_and] at ur3 vr3
 refine Dz sq4 fun i5 H s6 => Bt (cs' := [ss r3.fTopic, r3x1, si r3.fQos, sb r3.fRetain]) s6 (.here) (Ac (Ab rfl (Ab lr3x1 rfl))) rfl (Bd rfl) rfl fun H s7 => Fx (m := 12) hcode (by omega) s7 Co fun z8 iq9 hq9 H hz8 sq9 => ?_
 replace hz8 : 0 ≤ z8 ∧ z8 < 12 := by omega
 refine Cb (Ad ((decide (z8 = 0))) (fun h10 => ?_) fun h10 => ?_)
 refine Dd h10 (Gv rfl rfl (AiE _ (by omega) code hcode c iq9 hq9   (sq9.pick (.here)) fun r11 iq12 hq12 H hr11 sq12 => Am (o' := 0) rfl (C6 sq12 A8 rfl rfl fun H s13 => Af s13 (.here) rfl (Bt (cs' := [ss r11, r3x1, si r3.fQos, sb r3.fRetain]) s13 C1 (Ac (Ab rfl (Ab lr3x1 rfl))) rfl (Bd rfl) rfl fun H s14 => Af s14 (.here) rfl ?_))))
 have e15 : Ce (⟨r11, r3.fBody, r3.fQos, r3.fRetain⟩ : Br) ∧ Bc (⟨r11, r3.fBody, r3.fQos, r3.fRetain⟩ : Br) ≤ 102 := by
  simp only [Ce, Bc, Hz, Do, and_true, true_and, Cn]; first | omega | ((repeat' apply And.intro) <;> first | trivial | omega | assumption | (intro y hy; cases hy; done))
 exact hk (⟨r11, r3.fBody, r3.fQos, r3.fRetain⟩ : Br) r3x1 iq12 hq12 _ lr3x1 e15 (s14.sel (.cons C1 (.cons Co Q8)))
 refine Cj h10 (Cb (Ad ((decide (z8 = 1))) (fun h16 => ?_) fun h16 => ?_))
 refine Dd h16 (Bp (cs := [si 40, si 41]) rfl (Bw sq9 fun i17 H s18 => Ds hcode (by omega) (by omega) rfl s18 A8 (.here) fun z19a iq20 hq20 H mz19 sq20 => ?_))
 have s21 := (sq20.pick A8).tail
 obtain ⟨z19, rfl, hz19⟩ := Ax (l := [40, 41]) (lo := 40) (hi := 41) mz19 (by decide)
 refine Gv rfl rfl (Wx _ (by omega) code hcode c iq20 hq20 z19 (by omega) (s21.pick (.here)) fun r22 r22x iq23 hq23 H lr22x hr22 sq23 => Am (o' := 1) rfl (C6 sq23 Co lr22x rfl fun H s24 => Af s24 (.here) rfl (Bt (cs' := [ss r3.fTopic, r22x, si r3.fQos, sb r3.fRetain]) s24 Fq (Ac (Ab rfl (Ab lr22x rfl))) rfl (Bd rfl) rfl fun H s25 => Af s25 (.here) rfl ?_)))
 have e26 : Ce (⟨r3.fTopic, r22, r3.fQos, r3.fRetain⟩ : Br) ∧ Bc (⟨r3.fTopic, r22, r3.fQos, r3.fRetain⟩ : Br) ≤ 102 := by
  simp only [Ce, Bc, Hz, Do, and_true, true_and, Cn]; first | omega | ((repeat' apply And.intro) <;> first | trivial | omega | assumption | (intro y hy; cases hy; done))
 exact hk (⟨r3.fTopic, r22, r3.fQos, r3.fRetain⟩ : Br) r22x iq23 hq23 _ lr22x e26 (s25.sel (.cons Co (.cons Co zS3)))
 refine Cj h16 (Cb (Ad ((decide (z8 = 2))) (fun h27 => ?_) fun h27 => ?_))
 refine Dd h27 (Bp (cs := [si (-1), si 3]) rfl (Bw sq9 fun i28 H s29 => Ds hcode (by omega) (by omega) rfl s29 A8 (.here) fun z30a iq31 hq31 H mz30 sq31 => ?_))
 have s32 := (sq31.pick A8).tail
 obtain ⟨z30, rfl, hz30⟩ := Ax (l := [(-1), 3]) (lo := -1) (hi := 3) mz30 (by decide)
 refine Am (o' := 2) rfl (C6 s32 A8 rfl rfl fun H s33 => Af s33 (.here) rfl (Bt (cs' := [ss r3.fTopic, r3x1, si z30, sb r3.fRetain]) s33 C1 (Ac (Ab rfl (Ab lr3x1 rfl))) rfl (Bd rfl) rfl fun H s34 => Af s34 (.here) rfl ?_))
 have e35 : Ce (⟨r3.fTopic, r3.fBody, z30, r3.fRetain⟩ : Br) ∧ Bc (⟨r3.fTopic, r3.fBody, z30, r3.fRetain⟩ : Br) ≤ 102 := by
  simp only [Ce, Bc, Hz, Do, and_true, true_and, Cn]; first | omega | ((repeat' apply And.intro) <;> first | trivial | omega | assumption | (intro y hy; cases hy; done))
 exact hk (⟨r3.fTopic, r3.fBody, z30, r3.fRetain⟩ : Br) r3x1 iq31 hq31 _ lr3x1 e35 (s34.sel (.cons C1 (.cons Co Q8)))
 refine Cj h27 (Af sq9 A8 rfl (Bt (cs' := [ss r3.fTopic, r3x1, si r3.fQos, sb r3.fRetain]) sq9 C1 (Ac (Ab rfl (Ab lr3x1 rfl))) rfl (Bd rfl) rfl fun H s36 => Af s36 (.here) rfl ?_))
 have e37 : Ce (r3 : Br) ∧ Bc (r3 : Br) ≤ 102 := by
  simp only [Ce, Bc, Hz, Do, and_true, true_and, Cn]; first | omega | ((repeat' apply And.intro) <;> first | trivial | omega | assumption | (intro y hy; cases hy; done))
 exact hk (r3 : Br) r3x1 iq9 hq9 _ lr3x1 e37 (s36.sel (.cons C1 (.cons A8 Q8)))
theorem AbU (n : Nat) (hn : 1048576 < n) (code : ByteArray) (hcode : code.size ≤ 1048576) (c i : Nat) (h : Int)   {β : Type} {G : Option β → Prop} {KH : KO β} {H : Aa} {L : List Ck} (s0 : Sep H (Cr c code i h :: L)) (hk : ∀ (r0 : List Br) (r0x : AV) (i' : Nat) (h' : Int) (H' : Aa), (Al r0x = true) → ((∀ y ∈ r0, Ce y) ∧ Fp Bc r0 ≤ 183) → Sep H' (.own r0x 25 (Aj Ag r0) :: Cr c code i' h' :: L) → Gd G (KH (r0x) H')) : Gd G (Dm E0 (n + 10) β 87 [.ptr c 0] H fun x H => KH x H) := by
 rw [Aiv, f87]
 try simp only [Ba, At, Be, Cg]
 refine Gv rfl rfl (Ud _ (by omega) code hcode c i h 8 (by omega) (s0.pick (.here)) fun r1 r1x iq2 hq2 H lr1x hr1 sq2 => ?_)
 obtain ⟨or1, wr1⟩ := hr1
 have gr1 := I7 Bc r1
 refine Sj hcode (by omega) sq2 A8 fun b3 iq4 hq4 H sq4 => Ix (Ad (b3) (fun h5 => ?_) fun h5 => ?_)
 refine Dd h5 (Gv rfl rfl (Lo _ (by omega) code hcode c iq4 hq4   (sq4.pick (.here)) fun r6 r6x1 iq7 hq7 H lr6x1 hr6 sq7 => ?_))
 obtain ⟨or6, wr6⟩ := hr6
 have ur6 := or6
 have vr6 := wr6
 simp only [Ce, Bc, Hz, Do, and_true, true_and] at ur6 vr6
 refine Bp (cs := [.sc (.string r6.fTopic), r6x1, .sc (.int .i64 r6.fQos), .sc (.bool r6.fRetain)]) (Gr (z' := [.sc (.string r6.fTopic), r6x1, .sc (.int .i64 r6.fQos), .sc (.bool r6.fRetain)]) (Ac (Ab rfl (Ab lr6x1 rfl))) rfl (Bd rfl) rfl (rfl)) (Bw sq7 fun i8 H s9 => Y9 (cty := [9, 22, 3, 4]) (e := (r6 : Br)) s9 ⟨_, _, rfl, rfl, rfl, rfl⟩ C1 (.here) rfl (Ab rfl (Ab lr6x1 rfl)) (.sc (.own (.here) (.sc (.sc .nil)))) ⟨trivial, ⟨(Aez r6.fBody), (Tk trivial)⟩⟩ rfl (by first | omega | (simp only [zae, zal]; omega)) fun x10 H lx10 s11 => ?_)
 have e12 : (∀ y ∈ (r1 ++ [r6]), Ce y) ∧ Fp Bc (r1 ++ [r6]) ≤ 183 := by
  first | exact ⟨by assumption, by omega⟩ | exact ⟨by simp, by simp [Lv]⟩ | exact ⟨Jl (by assumption) (by assumption), by rw [Hb]; omega⟩
 exact hk (r1 ++ [r6]) x10 iq7 hq7 _ lx10 e12 (s11.sel (.cons (.here) (.cons (.here) .rest)))
 refine Cj h5 ?_
 have e13 : (∀ y ∈ r1, Ce y) ∧ Fp Bc r1 ≤ 183 := by
  first | exact ⟨by assumption, by omega⟩ | exact ⟨by simp, by simp [Lv]⟩ | exact ⟨Jl (by assumption) (by assumption), by rw [Hb]; omega⟩
 exact hk r1 r1x iq4 hq4 _ lr1x e13 (sq4.sel (.cons A8 (.cons (.here) .rest)))
end
section
open Go
def Ge (x lo hi : Int) : Bool := decide (lo ≤ x) && decide (x ≤ hi)
theorem Mj (n : Nat) (ty : Nat) (x : Int) (lo : Int) (hi : Int) : Cy E0 (n + 1) ty 50 [.sc (.int .i64 x), .sc (.int .i64 lo), .sc (.int .i64 hi)] = some (.sc (.bool (Ge x lo hi))) := by
 rw [Az, AhV, f50]
 try simp only [Ct, Cf, Bk, A2, A9, A4, C8, C7, Ea, At, Bi, Pr.gT, Pr.gF, Pr.hT, Pr.hF, Pr.kT, Pr.kF, Bz, Bm, C0, Bq, Dv, Cp, B8, Ba, Be, Dj, Cg, Df, Da]
 refine Av (v := sb (decide (x ≥ lo))) (fun k => rfl) ?_
 apply A3 ((decide (x ≥ lo)) && (decide (x ≤ hi)))
 intro b1 q1
 refine Ad ((decide (x ≥ lo))) (fun h1 => ?_) fun h1 => ?_
 exact Ao h1 (Ao h1 (Ao h1 (Av (v := sb (decide (x ≤ hi))) (fun k => rfl) (Ca h1 (He q1 h1) rfl))))
 exact Ap h1 (Ap h1 (Ap h1 (B9 h1 (Hd q1 h1) rfl)))
 intro b1 q1
 exact Dp (by first | (simp_all [Ge]; done) | (rw [zaM]; simp [Ge] at *; omega))
theorem O5 (n : Nat) (ty : Nat) (x : Int) (lo : Int) (hi : Int) : Cy E0 (n + 1) ty 47 [.sc (.int .i64 x), .sc (.int .i64 lo), .sc (.int .i64 hi)] = some (.sc (.bool (Ge x lo hi))) := by
 rw [Az, AhS, f47]
 try simp only [Ct, Cf, Bk, A2, A9, A4, C8, C7, Ea, At, Bi, Pr.gT, Pr.gF, Pr.hT, Pr.hF, Pr.kT, Pr.kF, Bz, Bm, C0, Bq, Dv, Cp, B8, Ba, Be, Dj, Cg, Df, Da]
 refine Av (v := sb (decide (x ≥ lo))) (fun k => rfl) ?_
 apply A3 ((decide (x ≥ lo)) && (decide (x ≤ hi)))
 intro b1 q1
 refine Ad ((decide (x ≥ lo))) (fun h1 => ?_) fun h1 => ?_
 exact Ao h1 (Ao h1 (Ao h1 (Av (v := sb (decide (x ≤ hi))) (fun k => rfl) (Ca h1 (He q1 h1) rfl))))
 exact Ap h1 (Ap h1 (Ap h1 (B9 h1 (Hd q1 h1) rfl)))
 intro b1 q1
 exact Dp (by first | (simp_all [Ge]; done) | (rw [zaM]; simp [Ge] at *; omega))
theorem Vn (n : Nat) (ty : Nat) (s t : ByteArray) : Cy E0 (n + 1) ty 138 [Bj s, Bj t] = some (.sc (.bool (s.toList == t.toList))) := by
 rw [Az, AfA, f138]
 have e : ∀ u : ByteArray, Cw [] 1 (.ro u.size (Bb u)) = some (Bb u) := by
  intro u
  simp [Cw, Ep]
 have eb : ∀ u : ByteArray, (Bb u).mapM Ma = some u.data.toList := fun u => Ld _
 simp only [Da, A4, Sq, e, eb, zab, E4, AaL]
 simp
theorem Wd (n : Nat) (ty : Nat) (s t : ByteArray) : Cy E0 (n + 1) ty 69 [Bj s, Bj t] = some (.sc (.bool (s.toList == t.toList))) := by
 rw [Az, Aij, f69]
 have e : ∀ u : ByteArray, Cw [] 1 (.ro u.size (Bb u)) = some (Bb u) := by
  intro u
  simp [Cw, Ep]
 have eb : ∀ u : ByteArray, (Bb u).mapM Ma = some u.data.toList := fun u => Ld _
 simp only [Da, A4, Sq, e, eb, zab, E4, AaL]
 simp
end
section
open Go
theorem AiV : ∀ X : Fin 256, bits .and .i64 ((X.val : Nat) : Int) 31 = ((X.val % 32 : Nat) : Int) := by decide +kernel
theorem AiU : ∀ X : Fin 256, bits .and .i64 ((X.val : Nat) : Int) 15 = ((X.val % 16 : Nat) : Int) := by decide +kernel
theorem AiW : ∀ X : Fin 256, bits .and .i64 ((X.val : Nat) : Int) 7 = ((X.val % 8 : Nat) : Int) := by decide +kernel
def Px (d : Nat × Nat) (i : Nat) : AV := if d.1 = 65533 ∧ d.2 = 1 then .tup [.sc (.int .i64 0), .sc (.int .i64 0), .sc (.bool false)] else .tup [.sc (.int .i64 d.1), .sc (.int .i64 ((i + d.2 : Nat) : Int)), .sc (.bool true)]
def Y7 : AV := .tup [.sc (.int .i64 0), .sc (.int .i64 0), .sc (.bool false)]
theorem AgN (s : ByteArray) (i : Nat) (h : i < s.size) (H : Aa) (k : AV → Option AV) : (Eu 1 (Bj s) (.sc (.int .i64 i)) fun t => Cx false 1 t H k) = k (.sc (.int .u8 (s.data.toList.getD i 0).toNat)) := by
 rw [Q4 1 _ _ i _ h (by rw [Ep]; omega)]
 have hl : i < s.data.toList.length := by simpa using h
 have hd : (Bb s).drop (i * 1) = .sc (.int .u8 (s.data.toList.getD i 0).toNat) :: (Bb s).drop (i + 1) := by
  rw [Nat.mul_one, zbj (by rw [Ep]; omega)]
  congr 1
  simp [Bb, zbB, h]
 rw [hd, Nr]
section loop
variable (n : Nat) (k : AV → Aa → Option AV) (H : Aa) (s : ByteArray)
theorem Jj (m at' N v i : Nat) (least : Int) (hi : i ≤ N) (hb : at' + i < s.size) (hN : N ≤ 3) (hv : v < 100000000) (hs : s.size ≤ 1048576) :
  Hv (PR n AV) n k (m + 1) (Bj s) (si at') (si N) (si least) (si v) (si i) H =
   if (s.data.toList.getD (at' + i) 0).toNat / 64 = 2 then Hv (PR n AV) n k m (Bj s) (si at') (si N) (si least) (si ((v * 64 + (s.data.toList.getD (at' + i) 0).toNat % 64 : Nat) : Int)) (si ((i + 1 : Nat) : Int)) H else k Y7 H := by
 obtain ⟨y, hy⟩ : ∃ y, (s.data.toList.getD (at' + i) 0).toNat = y := ⟨_, rfl⟩
 have hylt : y < 256 := by rw [← hy]; exact (s.data.toList.getD (at' + i) 0).toNat_lt
 have hba := AgN s (at' + i) hb H
 rw [hy] at hba ⊢
 rw [Hv]
 simp only [A4, At, Bq, A2, Df, Bi, Pr.gT, Pr.gF, Pr.hT, Pr.hF, Pr.kT, Pr.kF, Bz]
 rw [Ue, D4, if_pos (by simp; omega), Rb, ← Int.natCast_add, Fl _ (by omega) (by omega), hba]
 simp only [Xe, Yb, zab]
 rw [Fl _ (by omega) (by omega), Aay]
 by_cases h1 : y < 128
 refine C5 (by simp; omega) (C5 (by simp; omega) (P2 (by simp; omega) ?_))
 rw [if_neg (by omega)]
 rfl
 refine Cz (by simp; omega) (Cz (by simp; omega) ?_)
 rw [Aka]
 refine Q0 (by simp; omega) ?_
 by_cases h2 : y ≤ 191
 rw [D4, if_neg (by simp; omega), if_pos (by omega), Aki, show (v : Int) * 64 = ((v * 64 : Nat) : Int) by omega, Fl _ (by omega) (by omega), Rb, ← Int.natCast_add, Fl _ (by omega) (by omega), Qr _ _ _ (by omega) (by omega), Fc _ _ (by omega)]
 congr 3
 omega
 rw [D4, if_pos (by simp; omega), if_neg (by omega)]
 rfl
theorem Sz (n' : Nat) (hnn : n = n' + 1) (m at' N v least : Nat) (hN : N ≤ 3) (hv : v < 100000000) (ha : at' ≤ 1048576) :
  Hv (PR n AV) n k (m + 1) (Bj s) (si at') (si N) (si least) (si v) (si ((N + 1 : Nat) : Int)) H =
   if v ≥ least ∧ (v < 55296 ∨ (57344 ≤ v ∧ v ≤ 1114111)) then k (.tup [si v, si ((at' + (N + 1) : Nat) : Int), bT]) H else k Y7 H := by
 subst hnn
 rw [Hv]
 simp only [A4, At, Bq, A2, Df, Bi, Pr.gT, Pr.gF, Pr.hT, Pr.hF, Pr.kT, Pr.kF, Bz]
 rw [Ue, D4, if_neg (by simp; omega), Aay]
 by_cases h1 : v < least
 have e : decide ((v : Int) < (least : Int)) = true := by simp; omega
 refine C5 e (C5 e (P2 e (C5 rfl (C5 rfl (P2 rfl (Ey rfl ?_))))))
 rw [if_neg (by omega)]
 rfl
 have e : decide ((v : Int) < (least : Int)) = false := by simp; omega
 refine Cz e (Cz e (Av (v := sb (decide ((v : Int) > 1114111))) (fun k => rfl) (Q0 e ?_)))
 by_cases h2 : v > 1114111
 have e2 : decide ((v : Int) > 1114111) = true := by simp; omega
 refine C5 e2 (C5 e2 (P2 e2 (Ey rfl ?_)))
 rw [if_neg (by omega)]
 rfl
 have e2 : decide ((v : Int) > 1114111) = false := by simp; omega
 refine Cz e2 (Cz e2 (De rfl (A6 (Cv _ _) (A6 (Cv _ _) (A6 (Cv _ _) Dl))) (Mj n' _ v 55296 57343) (Q0 e2 ?_)))
 by_cases h3 : 55296 ≤ v ∧ v ≤ 57343
 refine Ey (by simp [Ge]; omega) ?_
 rw [if_neg (by omega)]
 rfl
 refine E7 (by simp [Ge]; omega) ?_
 have e5 : ((at' : Int) + 1 + (N : Int)) = ((at' + (N + 1) : Nat) : Int) := by omega
 rw [if_pos (by omega), Rb, Fl _ (by omega) (by omega), Rb, Fl _ (by omega) (by omega), e5]
 rfl
end loop
theorem Et (H : Aa) (a b c : Value) : A0 An E0.tp 129 H (.tup [.sc a, .sc b, .sc c]) = some (.tup [.sc a, .sc b, .sc c]) := rfl
set_option maxHeartbeats 1600000 in
theorem Ag8 (n : Nat) (hn : 1048576 < n) (s : ByteArray) (i : Nat) (hs : s.size ≤ 1048576) (hi : i < s.size) : Cy E0 (n + 2) 129 128 [Bj s, .sc (.int .i64 i)] = some (Px (Lib.decodeL (s.data.toList.drop i)) i) := by
 have hg : ∀ j, (s.data.toList.drop i).getD j 0 = s.data.toList.getD (i + j) 0 := fun j => by simp [zbB, zbk]
 have hL : (s.data.toList.drop i).length = s.size - i := by simp
 have hg0 : (s.data.toList.drop i).getD 0 0 = s.data.toList.getD i 0 := hg 0
 rw [Lib.decodeL_N, hL, hg0, hg 1, hg 2, hg 3]
 obtain ⟨x, hx⟩ : ∃ x, (s.data.toList.getD i 0).toNat = x := ⟨_, rfl⟩
 have hxl : x < 256 := by rw [← hx]; exact (s.data.toList.getD i 0).toNat_lt
 obtain ⟨y1, hy1⟩ : ∃ x, (s.data.toList.getD (i + 1) 0).toNat = x := ⟨_, rfl⟩
 obtain ⟨y2, hy2⟩ : ∃ x, (s.data.toList.getD (i + 2) 0).toNat = x := ⟨_, rfl⟩
 obtain ⟨y3, hy3⟩ : ∃ x, (s.data.toList.getD (i + 3) 0).toNat = x := ⟨_, rfl⟩
 have b1 : y1 < 256 := by rw [← hy1]; exact (s.data.toList.getD (i + 1) 0).toNat_lt
 have b2 : y2 < 256 := by rw [← hy2]; exact (s.data.toList.getD (i + 2) 0).toNat_lt
 have b3 : y3 < 256 := by rw [← hy3]; exact (s.data.toList.getD (i + 3) 0).toNat_lt
 have hba := AgN s i hi []
 rw [hx] at hba
 rw [hx, hy1, hy2, hy3]
 have fails : Lib.decodeN (s.size - i) x y1 y2 y3 = (65533, 1) → some Y7 = some (Px (Lib.decodeN (s.size - i) x y1 y2 y3) i) := fun h => by rw [h]; rfl
 have goes : ∀ v w, Lib.decodeN (s.size - i) x y1 y2 y3 = (v, w) → (w = 1 → v < 128) → some (.tup [si v, si ((i + w : Nat) : Int), bT]) = some (Px (Lib.decodeN (s.size - i) x y1 y2 y3) i) := fun v w h hw => by
  rw [h, Px, if_neg (by intro h; simp only at h; omega)]
 rw [Az, Af6, f128]
 simp only [A4, At, Bq, A2, Df, Bi, Pr.gT, Pr.gF, Pr.hT, Pr.hF, Pr.kT, Pr.kF, Bz, Bm]
 have e0 : decide ((i : Int) < 0) = false := by simp
 rw [Aay]
 refine Cz e0 (Cz e0 (Cz e0 (Dh (Cz e0 (Av (v := .sc (.bool (decide ((i : Int) ≥ (s.size : Int))))) (fun k => rfl) (Q0 e0 (E7 (by simp; omega) ?_)))))))
 rw [hba]
 simp only [Xe, Yb, zab]
 rw [Fl _ (by omega) (by omega), Aay]
 by_cases c1 : x < 128
 refine Ey (by simp; omega) ?_
 rw [Fc _ _ (by omega)]
 exact (Et _ _ _ _).trans (goes x 1 (by rw [Lib.decodeN, if_pos c1]) (fun _ => c1))
 refine E7 (by simp; omega) ?_
 obtain ⟨q, rfl⟩ : ∃ q, n = q + 4 := ⟨n - 4, by omega⟩
 apply A3 (decide ((x : Int) ≥ 192) && decide ((x : Int) < 224))
 intro b hb
 refine Av (v := sb (decide ((x : Int) ≥ 192))) (fun k => rfl) (Ad (decide ((x : Int) ≥ 192)) (fun h => ?_) fun h => ?_)
 exact Ao h (Ao h (Av (v := sb (decide ((x : Int) < 224))) (fun k => rfl) (Ca h (He hb h) rfl)))
 exact Ap h (Ap h (B9 h (Hd hb h) rfl))
 intro b0 hb0
 by_cases d0 : 192 ≤ x ∧ x < 224
 refine Ey (by rw [hb0]; simp; omega) (Av (v := .sc (.int .i64 ((x % 32 : Nat) : Int))) (fun k => by show k (.sc (.int .i64 (bits .and .i64 (x : Int) 31))) = _; rw [AiV ⟨x, hxl⟩]) (Dh (Av (v := .sc (.int .i64 ((s.size : Int) - 1))) (fun k => Qr _ _ _ (by omega) (by omega)) (Av (v := .sc (.int .i64 ((s.size : Int) - 1 - 1))) (fun k => Qr _ _ _ (by omega) (by omega)) (Av (v := .sc (.bool (decide ((i : Int) > (s.size : Int) - 1 - 1)))) (fun k => rfl) ?_)))))
 by_cases c3 : i + 1 < s.size
 ·refine E7 (by simp; omega) ?_
  have r1 := Jj (q + 4 + 1) (fun x H => A0 An E0.tp 129 H x) [] s (q + 4) i 1 (x % 32) 1 128 (by omega) (by omega) (by omega) (by omega) hs
  rw [hy1] at r1
  refine r1.trans ?_
  by_cases k1 : y1 / 64 = 2
  rotate_left
  rw [if_neg k1]
  exact (Et _ _ _ _).trans (fails (by unfold Lib.decodeN; rw [if_neg c1, if_neg (by omega), if_neg (by omega), if_neg (by omega)]))
  rw [if_pos k1]
  refine (Sz (q + 4 + 1) (fun x H => A0 An E0.tp 129 H x) [] s (q + 4) rfl (q + 3) i 1 ((x % 32) * 64 + y1 % 64) 128 (by omega) (by omega) (by omega)).trans ?_
  have hv : (x % 32) * 64 + y1 % 64 = x % 32 * 64 + y1 % 64 := by omega
  rw [hv]
  split
  exact (Et _ _ _ _).trans (goes _ 2 (by unfold Lib.decodeN; rw [if_neg c1, if_pos (by omega), if_pos (by omega)]) (by omega))
  exact (Et _ _ _ _).trans (fails (by unfold Lib.decodeN; rw [if_neg c1, if_pos (by omega), if_neg (by omega)]))
 exact Ey (by simp; omega) ((Et _ _ _ _).trans (fails (by unfold Lib.decodeN; rw [if_neg c1, if_neg (by omega), if_neg (by omega), if_neg (by omega)])))
 refine E7 (by rw [hb0]; simp; omega) ?_
 apply A3 (decide ((x : Int) ≥ 224) && decide ((x : Int) < 240))
 intro b hb
 refine Av (v := sb (decide ((x : Int) ≥ 224))) (fun k => rfl) (Ad (decide ((x : Int) ≥ 224)) (fun h => ?_) fun h => ?_)
 exact Ao h (Ao h (Av (v := sb (decide ((x : Int) < 240))) (fun k => rfl) (Ca h (He hb h) rfl)))
 exact Ap h (Ap h (B9 h (Hd hb h) rfl))
 intro b1 hb1
 by_cases d1 : 224 ≤ x ∧ x < 240
 refine Ey (by rw [hb1]; simp; omega) (Av (v := .sc (.int .i64 ((x % 16 : Nat) : Int))) (fun k => by show k (.sc (.int .i64 (bits .and .i64 (x : Int) 15))) = _; rw [AiU ⟨x, hxl⟩]) (Dh (Av (v := .sc (.int .i64 ((s.size : Int) - 1))) (fun k => Qr _ _ _ (by omega) (by omega)) (Av (v := .sc (.int .i64 ((s.size : Int) - 1 - 2))) (fun k => Qr _ _ _ (by omega) (by omega)) (Av (v := .sc (.bool (decide ((i : Int) > (s.size : Int) - 1 - 2)))) (fun k => rfl) ?_)))))
 by_cases c3 : i + 2 < s.size
 ·refine E7 (by simp; omega) ?_
  have r1 := Jj (q + 4 + 1) (fun x H => A0 An E0.tp 129 H x) [] s (q + 4) i 2 (x % 16) 1 2048 (by omega) (by omega) (by omega) (by omega) hs
  rw [hy1] at r1
  refine r1.trans ?_
  by_cases k1 : y1 / 64 = 2
  rotate_left
  rw [if_neg k1]
  exact (Et _ _ _ _).trans (fails (by unfold Lib.decodeN; rw [if_neg c1, if_neg (by omega), if_neg (by omega), if_neg (by omega)]))
  rw [if_pos k1]
  have r2 := Jj (q + 4 + 1) (fun x H => A0 An E0.tp 129 H x) [] s (q + 3) i 2 ((x % 16) * 64 + y1 % 64) 2 2048 (by omega) (by omega) (by omega) (by omega) hs
  rw [hy2] at r2
  refine r2.trans ?_
  by_cases k2 : y2 / 64 = 2
  rotate_left
  rw [if_neg k2]
  exact (Et _ _ _ _).trans (fails (by unfold Lib.decodeN; rw [if_neg c1, if_neg (by omega), if_neg (by omega), if_neg (by omega)]))
  rw [if_pos k2]
  refine (Sz (q + 4 + 1) (fun x H => A0 An E0.tp 129 H x) [] s (q + 4) rfl (q + 2) i 2 (((x % 16) * 64 + y1 % 64) * 64 + y2 % 64) 2048 (by omega) (by omega) (by omega)).trans ?_
  have hv : ((x % 16) * 64 + y1 % 64) * 64 + y2 % 64 = x % 16 * 4096 + y1 % 64 * 64 + y2 % 64 := by omega
  rw [hv]
  split
  exact (Et _ _ _ _).trans (goes _ 3 (by unfold Lib.decodeN; rw [if_neg c1, if_neg (by omega), if_pos (by omega), if_pos (by omega)]) (by omega))
  exact (Et _ _ _ _).trans (fails (by unfold Lib.decodeN; rw [if_neg c1, if_neg (by omega), if_pos (by omega), if_neg (by omega)]))
 exact Ey (by simp; omega) ((Et _ _ _ _).trans (fails (by unfold Lib.decodeN; rw [if_neg c1, if_neg (by omega), if_neg (by omega), if_neg (by omega)])))
 refine E7 (by rw [hb1]; simp; omega) ?_
 apply A3 (decide ((x : Int) ≥ 240) && decide ((x : Int) < 248))
 intro b hb
 refine Av (v := sb (decide ((x : Int) ≥ 240))) (fun k => rfl) (Ad (decide ((x : Int) ≥ 240)) (fun h => ?_) fun h => ?_)
 exact Ao h (Ao h (Av (v := sb (decide ((x : Int) < 248))) (fun k => rfl) (Ca h (He hb h) rfl)))
 exact Ap h (Ap h (B9 h (Hd hb h) rfl))
 intro b2 hb2
 by_cases d2 : 240 ≤ x ∧ x < 248
 refine Ey (by rw [hb2]; simp; omega) (Av (v := .sc (.int .i64 ((x % 8 : Nat) : Int))) (fun k => by show k (.sc (.int .i64 (bits .and .i64 (x : Int) 7))) = _; rw [AiW ⟨x, hxl⟩]) (Dh (Av (v := .sc (.int .i64 ((s.size : Int) - 1))) (fun k => Qr _ _ _ (by omega) (by omega)) (Av (v := .sc (.int .i64 ((s.size : Int) - 1 - 3))) (fun k => Qr _ _ _ (by omega) (by omega)) (Av (v := .sc (.bool (decide ((i : Int) > (s.size : Int) - 1 - 3)))) (fun k => rfl) ?_)))))
 by_cases c3 : i + 3 < s.size
 ·refine E7 (by simp; omega) ?_
  have r1 := Jj (q + 4 + 1) (fun x H => A0 An E0.tp 129 H x) [] s (q + 4) i 3 (x % 8) 1 65536 (by omega) (by omega) (by omega) (by omega) hs
  rw [hy1] at r1
  refine r1.trans ?_
  by_cases k1 : y1 / 64 = 2
  rotate_left
  rw [if_neg k1]
  exact (Et _ _ _ _).trans (fails (by unfold Lib.decodeN; rw [if_neg c1, if_neg (by omega), if_neg (by omega), if_neg (by omega)]))
  rw [if_pos k1]
  have r2 := Jj (q + 4 + 1) (fun x H => A0 An E0.tp 129 H x) [] s (q + 3) i 3 ((x % 8) * 64 + y1 % 64) 2 65536 (by omega) (by omega) (by omega) (by omega) hs
  rw [hy2] at r2
  refine r2.trans ?_
  by_cases k2 : y2 / 64 = 2
  rotate_left
  rw [if_neg k2]
  exact (Et _ _ _ _).trans (fails (by unfold Lib.decodeN; rw [if_neg c1, if_neg (by omega), if_neg (by omega), if_neg (by omega)]))
  rw [if_pos k2]
  have r3 := Jj (q + 4 + 1) (fun x H => A0 An E0.tp 129 H x) [] s (q + 2) i 3 (((x % 8) * 64 + y1 % 64) * 64 + y2 % 64) 3 65536 (by omega) (by omega) (by omega) (by omega) hs
  rw [hy3] at r3
  refine r3.trans ?_
  by_cases k3 : y3 / 64 = 2
  rotate_left
  rw [if_neg k3]
  exact (Et _ _ _ _).trans (fails (by unfold Lib.decodeN; rw [if_neg c1, if_neg (by omega), if_neg (by omega), if_neg (by omega)]))
  rw [if_pos k3]
  refine (Sz (q + 4 + 1) (fun x H => A0 An E0.tp 129 H x) [] s (q + 4) rfl (q + 1) i 3 ((((x % 8) * 64 + y1 % 64) * 64 + y2 % 64) * 64 + y3 % 64) 65536 (by omega) (by omega) (by omega)).trans ?_
  have hv : (((x % 8) * 64 + y1 % 64) * 64 + y2 % 64) * 64 + y3 % 64 = x % 8 * 262144 + y1 % 64 * 4096 + y2 % 64 * 64 + y3 % 64 := by omega
  rw [hv]
  split
  exact (Et _ _ _ _).trans (goes _ 4 (by unfold Lib.decodeN; rw [if_neg c1, if_neg (by omega), if_neg (by omega), if_pos (by omega), if_pos (by omega)]) (by omega))
  exact (Et _ _ _ _).trans (fails (by unfold Lib.decodeN; rw [if_neg c1, if_neg (by omega), if_neg (by omega), if_pos (by omega), if_neg (by omega)]))
 exact Ey (by simp; omega) ((Et _ _ _ _).trans (fails (by unfold Lib.decodeN; rw [if_neg c1, if_neg (by omega), if_neg (by omega), if_neg (by omega)])))
 exact E7 (by rw [hb2]; simp; omega) ((Et _ _ _ _).trans (fails (by unfold Lib.decodeN; rw [if_neg c1, if_neg (by omega), if_neg (by omega), if_neg (by omega)])))
theorem Ub (N ty : Nat) (a b c : Value) : Bh An E0.tp N ty (.tup [.sc a, .sc b, .sc c]) = (.tup [.sc a, .sc b, .sc c], []) := rfl
theorem Acs (s : ByteArray) : Vw [⟨Bb s, true, false⟩] (.sl 0 0 s.size 1) (Bj s) := fun X => by
 have e2 : Aw ([⟨Bb s, true, false⟩] ++ X) 0 0 (s.size * 1) = some (Bb s) := by
  have hl := Ep s
  show (if (0 + s.size * 1 ≤ (Bb s).length) then some (((Bb s).drop 0).take (s.size * 1)) else none) = _
  rw [if_pos (by omega), za6, Nat.mul_one, ← hl, za3]
 rw [O4, e2, zab]
 have e3 : (Bb s).mapM (Dn ([⟨Bb s, true, false⟩] ++ X) 7) = some (Bb s) := by
  rw [Jn]
  exact Aa0 _
 rw [e3]
 rfl
theorem Jw {vs : List AV} {i : Nat} {x : AV} {K : AV → Option AV} {r : Option AV} (hx : vs[i]? = some x) (h : K x = r) : Ot (.tup vs) i (fun t => K t) = r := by
 show (vs[i]?).bind _ = r
 rw [hx]
 exact h
theorem Rh (n : Nat) (hn : 1048576 < n) (k : AV → Aa → Option AV) (s : ByteArray) (hs : s.size ≤ 60) : ∀ (b m pos c : Nat), s.size ≤ pos + b → pos ≤ s.size → c ≤ pos → b < m →
  ∃ r : Int, Mz (PR (n + 2) AV) (n + 2) k m (.sl 0 0 s.size 1) (si c) (si pos) [⟨Bb s, true, false⟩] = k (si r) [⟨Bb s, true, false⟩] ∧ (Mu b (s.data.toList.drop pos) = true → 0 ≤ r) ∧ (Mu b (s.data.toList.drop pos) = false → r = -1)
 | b, m + 1, pos, c, hb, hp, hc, hm => by
  rw [Mz]
  simp only [Bm, A4, At, J6, Ea, Bi, Pr.gT, Pr.gF, Pr.hT, Pr.hF, Pr.kT, Pr.kF, Bz]
  have hlen : ∀ k : AV → Option AV, Ou (.sl 0 0 s.size 1) k = k (si s.size) := fun _ => rfl
  rw [hlen, Eb, D4]
  by_cases hlt : pos < s.size
  rw [if_pos (by simpa using hlt)]
  obtain ⟨b, rfl⟩ : ∃ b', b = b' + 1 := ⟨b - 1, by omega⟩
  have hne : s.data.toList.drop pos ≠ [] := by
   intro h
   have := congrArg List.length h
   simp at this
   omega
  have hw := Lib.decodeL_width (s.data.toList.drop pos)
  have hle := Lib.decodeL_le (s.data.toList.drop pos) hne
  have hll : (s.data.toList.drop pos).length = s.size - pos := by simp
  rw [hll] at hle
  rw [Mu, if_neg hne]
  generalize hd : Lib.decodeL (s.data.toList.drop pos) = d at hw hle ⊢
  have ht := Ag8 n hn s pos (by omega) hlt
  rw [hd] at ht
  rw [E8 (vs := [Bj s, .sc (.int .i64 pos)]) rfl (A6 (Acs s) (A6 (Cv _ _) Dl)) ht]
  by_cases hf : d.1 = 65533 ∧ d.2 = 1
  rw [Px, if_pos hf, Ub, zam, if_pos hf]
  refine ⟨-1, ?_, (fun h => by cases h), (fun _ => rfl)⟩
  refine Jw rfl (Jw rfl (Jw rfl (Gg (C5 rfl (C5 rfl (P2 rfl (Ey rfl ?_)))))))
  rfl
  rw [Px, if_neg hf, Ub, zam, if_neg hf]
  by_cases hz : d.1 = 0
  rw [if_pos hz]
  refine ⟨-1, ?_, (fun h => by cases h), (fun _ => rfl)⟩
  refine Jw rfl (Jw rfl (Jw rfl (Gg (Cz rfl (Cz rfl (Av (v := .sc (.bool ((d.1 : Int) == 0))) (fun k => rfl) (Q0 rfl (Ey (by simp [hz]) ?_))))))))
  rfl
  rw [if_neg hz, zbb]
  obtain ⟨r, h1, h2, h3⟩ := Rh n hn k s hs b m (pos + d.2) (c + 1) (by omega) (by omega) (by omega) (by omega)
  refine ⟨r, ?_, h2, h3⟩
  refine Jw rfl (Jw rfl (Jw rfl (Gg (Cz rfl (Cz rfl (Av (v := .sc (.bool ((d.1 : Int) == 0))) (fun k => rfl) (Q0 rfl (E7 (by simp; omega) ?_))))))))
  rw [Fc _ _ (by omega)]
  exact h1
  rw [if_neg (by simpa using hlt)]
  have hnil : s.data.toList.drop pos = [] := by
   apply zaX
   simp
   omega
  refine ⟨c, rfl, fun _ => by omega, fun h => ?_⟩
  rw [hnil] at h
  cases b <;> simp [Mu] at h
theorem Ah5 (n : Nat) (hn : 1048576 < n) (ty : Nat) (s : ByteArray) : ∃ r : Int, Cy E0 (n + 3) ty 111 [.sc (.string s)] = some (.sc (.int .i64 r)) ∧ (D8 s = true → 0 ≤ r) ∧ (D8 s = false → r = -1) := by
 rw [Az, Aft, f111]
 simp only [C0, A4, At, Z6]
 unfold D8
 by_cases h : s.size ≤ 60
 obtain ⟨r, h1, h2, h3⟩ := Rh n hn (fun x H => A0 An E0.tp ty H x) s h s.size (n + 2) 0 0 (by omega) (by omega) (by omega) (by omega)
 refine ⟨r, ?_, ?_, ?_⟩
 refine AeU (Av (v := .sc (.bool (decide ((s.size : Int) > 60)))) (fun k => rfl) (E7 (by simp; omega) ?_))
 simp only [Ur, asS, zab]
 rw [if_pos (by omega)]
 exact h1
 intro hv
 refine h2 ?_
 simpa [h] using hv
 intro hv
 refine h3 ?_
 simpa [h] using hv
 refine ⟨-1, ?_, (fun hv => by simp [h] at hv), (fun _ => rfl)⟩
 refine AeU (Av (v := .sc (.bool (decide ((s.size : Int) > 60)))) (fun k => rfl) (Ey (by simp; omega) ?_))
 rfl
theorem Uz (n : Nat) (hn : 1048576 < n) (ty : Nat) (s : ByteArray) : Cy E0 (n + 4) ty 82 [.sc (.string s)] = some (.sc (.bool (D8 s))) := by
 rw [Az, Ais, f82]
 simp only [A4]
 obtain ⟨r, h1, h2, h3⟩ := Ah5 n hn 3 s
 refine De rfl (A6 (Cv _ _) Dl) h1 (Av (v := sb (decide (r ≥ 0))) (fun k => rfl) (Dp ?_))
 cases hv : D8 s
 rw [h3 hv]
 rfl
 simpa using h2 hv
theorem Zk {β : Type} {n : Nat} {H : Aa} {r : Option β} {ty f : Nat} {g : Nat → List AV → Option AV} {args vs : List AV} {v : Value} {K : KO β} (hg : E0.ext f = some g) (hv : args.mapM (Dn H 8) = some vs) (ht : g ty vs = some (.sc v)) (h : K (.sc v) H = r) : (PR n β).call ty (.fn f [] []) args H (fun x H => K x H) = r := by
 rw [Acq hg hv ht, G9, zam]
 exact h
theorem Ua (ty : Nat) (s : ByteArray) (hs : Hz s) : Aae ty [.sc (.string s)] = some (.sc (.bool (D8 s))) := by
 have hm : maxLen = 9223372036854775807 := by decide
 show (if s.size ≤ maxLen then _ else _) = _
 rw [hm, if_pos (show s.size ≤ 9223372036854775807 from hs)]
end
section
open Go
def Fk (s : ByteArray) : Bool := D8 s && !(s.toList == (⟨#[]⟩ : ByteArray).toList) && !(O2 s 43) && !(O2 s 35) && decide (((Ei s).length : Int) ≤ 6)
section
variable {β : Type} {n : Nat} {H : Aa} {r : Option β}
theorem Aaz {ty f len : Nat} {args vs cells : List AV} {K : KO β} (hh : Fy f = false) (hv : args.mapM (Dn H 8) = some vs) (ht : Cy E0 n ty f vs = some (.ro len cells)) (h : ∀ N X sz, K (.sl N 0 len sz) (H ++ X) = r) : (PR n β).call ty (.fn f [] []) args H (fun x H => K x H) = r := by
 rw [E8 hh hv ht]
 exact h _ _ _
theorem AeS {b b' : Bool} (h : b = b') : some (AV.sc (.bool b)) = some (AV.sc (.bool b')) := by rw [h]
theorem Hi {α : Type} {w : Nat} {enc : α → List AV} {l pre t : List α} {x : α} {K : AV → Option β} (hw : ∀ x, (enc x).length = w) (h0 : 0 < w) (hl : l = pre ++ x :: t) (h : K (.rp (enc x ++ (t.map enc).flatten)) = r) : Eu w (Aj enc l) (.sc (.int .i64 (pre.length : Int))) (fun t => K t) = r := by
 subst hl
 exact (L0 (β := β) hw h0 pre x t (fun t => K t)).trans h
theorem AgL {α : Type} {w : Nat} {enc : α → List AV} {l pre t : List α} {K : AV → Option β} (hw : ∀ x, (enc x).length = w) (h0 : 0 < w) (hp : decide ((pre.length : Int) > 0) = true) (hl : l = pre ++ t) (hlen : l.length ≤ 1048576) (h : ∀ y, pre.getLast? = some y → K (.rp (enc y ++ (t.map enc).flatten)) = r) : Eu w (Aj enc l) (.sc (.int .i64 (IntKind.i64.wrap ((pre.length : Int) - 1)))) (fun t => K t) = r := by
 cases hg : pre.getLast? with
 | none =>
  rw [List.getLast?_eq_none_iff] at hg
  subst hg
  simp at hp
 | some y =>
  obtain ⟨p, rfl⟩ := List.getLast?_eq_some_iff.1 hg
  have hlp : p.length < 1048576 := by
   rw [hl] at hlen
   simp at hlen
   omega
  have e : IntKind.i64.wrap (((p ++ [y]).length : Int) - 1) = (p.length : Int) := by
   rw [zae, zal, Fl _ (by omega) (by omega)]
   omega
  rw [e]
  exact Hi hw h0 (hl.trans (by simp)) (h y hg)
theorem AeT {id off m w : Nat} {K : AV → Option β} (h : K (.sc (.int .i64 m)) = r) : Ou (.sl id off m w) (fun t => K t) = r := h
end
section has
variable (n : Nat) (k : AV → Aa → Option AV) (H : Aa)
theorem Wr (s : ByteArray) (b : UInt8) (hs : s.size ≤ 1048576) : ∀ (r pre : List UInt8) (m : Nat), s.data.toList = pre ++ r → r.length < m →
  Lk (PR n AV) n k m (ss s) (su b.toNat) (si pre.length) H = k (sb (r.any fun c => c == b)) H
 | [], pre, m + 1, hl, hm => by
  have h1 : s.size = pre.length := by
   have := congrArg List.length hl
   simpa using this
  rw [Lk]
  simp only [C0, A4, At]
  rw [Sc, Eb, h1, D4, if_neg (by simp)]
  rfl
 | c :: r, pre, m + 1, hl, hm => by
  have h1 : s.size = pre.length + r.length + 1 := by
   have := congrArg List.length hl
   simpa [zaO] using this
  rw [Lk]
  simp only [C0, A4, At, Dv]
  rw [Sc, Eb, D4, if_pos (by simp; omega), Ahg s pre.length c _ (by rw [hl]; simp)]
  have he : ∀ K : AV → Option AV, E4 .eql (su (c.toNat : Int)) (su (b.toNat : Int)) K = K (sb (c == b)) := by
   intro K
   show K (.sc (.bool ((c.toNat : Int) == (b.toNat : Int)))) = _
   congr 3
   rw [zaM, beq_iff_eq, beq_iff_eq, Int.ofNat_inj, UInt8.toNat_inj]
  rw [he, D4, zbt]
  cases hcb : (c == b)
  rw [if_neg (by simp), Fc _ _ (by omega)]
  have ih := Wr s b hs r (pre ++ [c]) m (by rw [hl]; simp) (by simpa using hm)
  rw [zae, zal] at ih
  rw [ih]
  rfl
  rw [if_pos rfl]
  rfl
end has
theorem Akd (n : Nat) (hn : 1048576 < n) (ty : Nat) (s : ByteArray) (b : UInt8) (hs : s.size ≤ 1048576) : Cy E0 (n + 1) ty 114 [.sc (.string s), .sc (.int .u8 b.toNat)] = some (.sc (.bool (O2 s b))) := by
 rw [Az, Afw, f114]
 have key := Wr n (fun x H => A0 An E0.tp ty H x) [] s b hs s.data.toList [] n rfl (by simp; omega)
 simp only [zar, zbe] at key
 rw [key]
 rfl
theorem Akc (n : Nat) (hn : 1048576 < n) (ty : Nat) (s : ByteArray) (hs : s.size ≤ 1048576) : Cy E0 (n + 1) ty 114 [.sc (.string s), .sc (.int .u8 43)] = some (.sc (.bool (O2 s 43))) := Akd n hn ty s 43 hs
theorem Akb (n : Nat) (hn : 1048576 < n) (ty : Nat) (s : ByteArray) (hs : s.size ≤ 1048576) : Cy E0 (n + 1) ty 114 [.sc (.string s), .sc (.int .u8 35)] = some (.sc (.bool (O2 s 35))) := Akd n hn ty s 35 hs
theorem AgH : ∃ i j, An 38 = some i ∧ An i.elem = some j ∧ j.size = 1 ∧ j.cty = [i.elem] := ⟨_, _, rfl, rfl, rfl, rfl⟩
def AgG (l : List UInt8) : AV := .sc (.string (ofL l))
theorem W2 (s : ByteArray) (P cur r : List UInt8) (h : s.data.toList = P ++ (cur ++ r)) : s.extract P.length (P.length + cur.length) = ofL cur := by
 have : (s.extract P.length (P.length + cur.length)).data.toList = cur := by
  rw [ByteArray.data_extract, Array.toList_extract, List.extract, h]
  rw [zbn (zai _), List.drop_length, zah, zbq, zb2 (zai _), za3]
 rw [← W1 (s.extract _ _), this]
theorem Uf {H : Aa} {x : AV} {cnt : Nat} {cells : List AV} {K : AV → Aa → Option AV} {r : Option AV} (s : ByteArray) (P cur rest : List UInt8) (hl : s.data.toList = P ++ (cur ++ rest)) (hs : s.size ≤ 1048576) (hx : OwnS 7 H 1 [9] x cnt cells) (hc : cnt ≤ 1048577)
  (h : ∀ x' H', OwnS 7 H' 1 [9] x' (cnt + 1) (cells ++ [AgG cur]) → K x' H' = r) :
  (M6 (ss s) (some (si P.length)) (some (si ((P.length + cur.length : Nat) : Int))) fun t27 => (Er [sE] [(0, 1, t27)]).bind fun ct28 => Fi 1 1 ct28 true H fun t28 H => Ha 1 16 x t28 H K) = r := by
 have hsz : P.length + cur.length ≤ s.size := by
  have := congrArg List.length hl
  simp at this
  omega
 simp only [M6, asS, Jm, Yb, zab]
 rw [if_pos (by omega)]
 simp only [zbf]
 rw [W2 s P cur rest hl]
 have hf : Er [sE] [(0, 1, ss (ofL cur))] = some [ss (ofL cur)] := rfl
 rw [hf, zab]
 have key := Aaa (H := H) (X := []) (bytes := 16) (er := [ss (ofL cur)]) (ec := [AgG cur]) (eids := []) (K := K) (r := r) hx rfl rfl rfl zb3 (fun i hi => by cases hi) (by omega) h
 rw [zam] at key
 exact key
theorem Sd (n : Nat) (s : ByteArray) (hs : s.size ≤ 1048576) : ∀ (r P cur : List UInt8) (m : Nat) (x : AV) (H : Aa) (cnt : Nat) (cells : List AV), s.data.toList = P ++ (cur ++ r) → r.length + 1 < m → OwnS 7 H 1 [9] x cnt cells → cnt ≤ P.length →
  Jc (PR n AV) n (fun x H => A0 An E0.tp 38 H x) m (ss s) x (si P.length) (si ((P.length + cur.length : Nat) : Int)) H = some (.ro (cnt + (lvL cur r).length) (cells ++ (lvL cur r).map AgG))
 | [], P, cur, m + 2, x, H, cnt, cells, hl, hm, hx, hc => by
  have h1 : s.size = P.length + cur.length := by
   have := congrArg List.length hl
   simpa using this
  rw [Jc]
  simp only [C0, A4, At, Bi, Pr.gT, Pr.gF, Pr.hT, Pr.hF, Pr.kT, Pr.kF, Bz, B8, Be, Ba, Cg, Dv]
  rw [Sc, Ue, D4, if_pos (by simp; omega), Sc, Ac6]
  have he : (((P.length + cur.length : Nat) : Int) == (s.size : Int)) = true := by simp; omega
  refine C5 he (C5 he (C5 he (C5 he (P2 he (Ey rfl (Uf s P cur [] hl hs hx (by omega) fun x' H' hx' => ?_))))))
  rw [Fc _ _ (by omega), Fc _ _ (by omega)]
  rw [Jc]
  simp only [C0, A4, At]
  rw [Sc, Ue, D4, if_neg (by simp; omega)]
  obtain ⟨i, j, e1, e2, e3, e4⟩ := AgH
  obtain ⟨ids, ho, hno⟩ := Q6 (d := 7) (tyS := 38) (w := 1) (cty := [9]) ⟨_, _, rfl, rfl, rfl, rfl⟩ hx'
  rw [A0, ho, zab, if_pos hno]
  rfl
 | c :: r, P, cur, m + 1, x, H, cnt, cells, hl, hm, hx, hc => by
  have h1 : s.size = P.length + cur.length + r.length + 1 := by
   have := congrArg List.length hl
   simp at this
   omega
  have hidx : s.data.toList[P.length + cur.length]? = some c := by
   rw [hl, ← zaj, ← zae, zaf (zai _), zaI]
   rfl
  rw [Jc]
  simp only [C0, A4, At, Bi, Pr.gT, Pr.gF, Pr.hT, Pr.hF, Pr.kT, Pr.kF, Bz, B8, Be, Ba, Cg, Dv]
  rw [Sc, Ue, D4, if_pos (by simp; omega), Sc, Ac6]
  have he : (((P.length + cur.length : Nat) : Int) == (s.size : Int)) = false := by simp; omega
  refine Cz he (Cz he (Cz he ?_))
  rw [Ahg s (P.length + cur.length) c _ hidx]
  refine Cz he (Av (v := sb (c == 47)) (fun K => ?_) ?_)
  show K (.sc (.bool ((c.toNat : Int) == (47 : Int)))) = _
  congr 3
  rw [zaM, beq_iff_eq, beq_iff_eq, show (47 : Int) = (((47 : UInt8).toNat : Nat) : Int) from rfl, Int.ofNat_inj, UInt8.toNat_inj]
  refine Q0 he ?_
  rw [lvL]
  by_cases h47 : c = 47
  refine Ey (by simp [h47]) (Uf s P cur (c :: r) hl hs hx (by omega) fun x' H' hx' => ?_)
  rw [Fc _ _ (by omega), Fc _ _ (by omega), if_pos h47]
  have ih := Sd n s hs r (P ++ cur ++ [c]) [] m x' H' (cnt + 1) (cells ++ [AgG cur]) (by rw [hl]; simp) (by simpa using hm) hx' (by simp; omega)
  simp only [zae, zar, zal, zaZ] at ih
  rw [ih]
  simp [zaO, zbD]
  refine E7 (by simpa using h47) ?_
  rw [Fc _ _ (by omega), if_neg h47]
  have ih := Sd n s hs r P (cur ++ [c]) m x H cnt cells (by rw [hl]; simp) (by simpa using hm) hx hc
  rw [zae, zal, ← zaO] at ih
  exact ih
theorem Xp (n : Nat) (hn : 1048577 < n) (s : ByteArray) (hs : s.size ≤ 1048576) : Cy E0 (n + 1) 38 115 [.sc (.string s)] = some (.ro (Ei s).length ((Ei s).map fun x => .sc (.string x))) := by
 rw [Az, Afx, f115]
 have key := Sd n s hs s.data.toList [] [] n .nl [] 0 [] rfl (by simp; omega) (OwnS.nil _ _ _ _) (by simp)
 simp only [zar, zbe, zaw, zah] at key
 rw [key, Ei, zbz, zbH]
 rfl
theorem Ws (n : Nat) (s : ByteArray) (hs : s.size ≤ 1048576) : Cy E0 (n + 1) 38 95 [.sc (.string s)] = some (.ro (Ei s).length ((Ei s).map fun x => .sc (.string x))) := by
 rw [Az, Ai1, f95]
 have hg : Pc 38 [ss s, .sc (.string ⟨#[47]⟩)] = some (.ro (Ei s).length ((Ei s).map fun x => ss x)) := by
  unfold Pc
  exact if_pos ⟨rfl, rfl, by omega⟩
 rw [Acq (g := Pc) rfl (A6 (Cv _ _) (A6 (Cv _ _) Dl)) hg]
 refine Ag1 [] _ _ ?_
 refine ⟨_, _, rfl, rfl, by simp, ?_⟩
 have := M3 (f := Gp An E0.tp 7) (cty := [9]) (enc := fun x : ByteArray => [ss x]) (Ei s) (fun x _ => ⟨trivial, trivial⟩)
 rw [N8] at this
 exact this
theorem AaS (ty : Nat) (s : ByteArray) (hs : s.size ≤ 1048576) : Wm ty [.sc (.string s), .sc (.string ⟨#[43, 35]⟩)] = some (.sc (.bool (vPH s))) := by
 unfold Wm
 exact if_pos ⟨rfl, by omega⟩
end
end Go.Proofs.YtdofipeaomgbbaaGreatDoor.Abs
