/- What the proof needs, part 3: a sound evaluator over trees, the program's functions on it, and what they come to. -/
import Derived.Test.YtlcpigdmekgajaaGreatDoorZrb
import Derived.Test.YtlcpigdmekgajaaGreatDoorChecked
import Derived.WalkKit
import Derived.WalkMore
import Derived.Below
import Derived.Shelf.Unicode.ValidAny
import Derived.Shelf.Strings.Split
import Derived.Shelf.Vars
import Derived.Lib.TrimUEq
import Derived.Lib.ValidLaws
import Derived.Laws.RangeAny
import Derived.LoopTactic
import Derived.Lib.MapLaws
set_option linter.unusedVariables false
set_option linter.unusedSimpArgs false
namespace Go.Proofs
open _root_.Bool renaming false_eq_true → zaa, and_eq_true → zag, not_true → zaw, true_and → zaA, eq_iff_iff → zb8
open _root_.Option renaming bind_eq_some_iff → zab, bind_some → zac, map_eq_some_iff → zaH, getD_some → zaJ, bind_eq_bind → zaM, pure_def → zbb
open _root_.List renaming getElem?_eq_some_iff → zad, length_append → zae, append_assoc → zaf, getElem?_append_right → zah, getElem?_append_left → zai, replicate → zaj, nil_append → zal, append_nil → zan, length_cons → zao, all_cons → zap, map_cons → zaq, length_singleton → zas, mem_cons_of_mem → zau, length_nil → zav, mem_cons_self → zax, cons_append → zaz, flatten_cons → za1, drop_append_of_le_length → za3, map_append → za4, all_eq_true → za7, map_nil → zaC, mem_append_left → zaD, mapM_cons → zaG, take_length → zaK, mem_append_right → zaL, mem_append → zaR, drop_zero → zaT, drop_length → zaU, getElem?_map → zaW, getElem?_drop → zaY, nodup_append → zba, replicate_succ → zbf, drop_eq_getElem_cons → zbh, nodup_cons → zbi, getElem?_take_of_lt → zbk, mem_singleton → zbl, getElem?_cons_zero → zbn, drop_drop → zbp, length_eq_one_iff → zbs, getD_eq_getElem?_getD → zbt, flatten_append → zb2, flatten_nil → zb3, drop_of_length_le → zb5, take_left' → zb9, Perm → zbA, any_cons → zbB, getElem?_set_ne → zbC, mem_cons → zbG, mem_map → zbI, map_map → zbJ
open _root_.ByteArray renaming size → zbD, data_push → zbE
open _root_.Nat renaming le_refl → zam, zero_add → za2, le_trans → za5, add_assoc → zaE, add_zero → zaO, eq_of_beq_eq_true → zaQ, sub_self → zaZ, succ_mul → zbv, mul_one → zbx, beq → zb4, add_comm → zbF, add_mul → zbH
open _root_.Array renaming ext' → zbd, replicate → zb0
open _root_.Int renaming natCast_zero → zaV, toNat_natCast → zbq
open Go.RowKit Go.Shelf Go.Lib
def Tryz.laysValid_ren : Go.Shelf.Ren := ⟨fun | 196 => 147 | 259 => 152 | n => n, fun | 9 => 9 | 4 => 4 | 3 => 3 | 5 => 5 | 12 => 12 | 119 => 145 | 0 => 0 | 46 => 107 | 139 => 148 | 138 => 147 | 53 => 156 | n => n, fun | 3 => 0 | 4 => 1 | n => n⟩
theorem Tryz.laysValid : Go.Proofs.Lays.n196 Tryz.prog Tryz.laysValid_ren := {
 mixed := by kernel_rfl
 f196 := Tryz.func147.trans (congrArg some (by kernel_rfl))
 f259 := Tryz.func152.trans (congrArg some (by kernel_rfl))
 t0 := Tryz.underlying0
 a0 := Tryz.isAgg0
 z0 := Tryz.sizeOf0
 v0 := Tryz.zeroValue0
 t3 := Tryz.underlying3
 a3 := Tryz.isAgg3
 z3 := Tryz.sizeOf3
 v3 := Tryz.zeroValue3
 t4 := Tryz.underlying4
 a4 := Tryz.isAgg4
 z4 := Tryz.sizeOf4
 v4 := Tryz.zeroValue4
 t5 := Tryz.underlying5
 a5 := Tryz.isAgg5
 z5 := Tryz.sizeOf5
 v5 := Tryz.zeroValue5
 t9 := Tryz.underlying9
 a9 := Tryz.isAgg9
 z9 := Tryz.sizeOf9
 v9 := Tryz.zeroValue9
 t12 := Tryz.underlying12
 a12 := Tryz.isAgg12
 z12 := Tryz.sizeOf12
 v12 := Tryz.zeroValue12
 t46 := Tryz.underlying107
 a46 := Tryz.isAgg107
 z46 := Tryz.sizeOf107
 v46 := Tryz.zeroValue107
 t53 := Tryz.underlying156
 a53 := Tryz.isAgg156
 z53 := Tryz.sizeOf156
 v53 := Tryz.zeroValue156
 t119 := Tryz.underlying145
 a119 := Tryz.isAgg145
 z119 := Tryz.sizeOf145
 t138 := Tryz.underlying147
 a138 := Tryz.isAgg147
 z138 := Tryz.sizeOf147
 v138 := Tryz.zeroValue147
 t139 := Tryz.underlying148
 a139 := Tryz.isAgg148
 z139 := Tryz.sizeOf148
 v139 := Tryz.zeroValue148
 g3 := by kernel_rfl
 g4 := by kernel_rfl }
def Tryz.laysAny_ren : Go.Shelf.Ren := ⟨fun | 150 => 136 | 153 => 148 | 152 => 153 | 226 => 154 | 227 => 155 | 228 => 156 | 137 => 158 | 119 => 159 | 224 => 160 | 225 => 161 | 217 => 165 | 266 => 170 | n => n, fun | 9 => 9 | 4 => 4 | 3 => 3 | 5 => 5 | 21 => 21 | 117 => 152 | 116 => 151 | 0 => 0 | 46 => 107 | 124 => 160 | n => n, fun | n => n⟩
theorem Tryz.laysAny : Go.Proofs.Lays.n150 Tryz.prog Tryz.laysAny_ren := {
 mixed := by kernel_rfl
 f119 := Tryz.func159.trans (congrArg some (by kernel_rfl))
 f137 := Tryz.func158.trans (congrArg some (by kernel_rfl))
 f150 := Tryz.func136.trans (congrArg some (by kernel_rfl))
 f152 := Tryz.func153.trans (congrArg some (by kernel_rfl))
 f153 := Tryz.func148.trans (congrArg some (by kernel_rfl))
 f217 := Tryz.func165.trans (congrArg some (by kernel_rfl))
 f224 := Tryz.func160.trans (congrArg some (by kernel_rfl))
 f225 := Tryz.func161.trans (congrArg some (by kernel_rfl))
 f226 := Tryz.func154.trans (congrArg some (by kernel_rfl))
 f227 := Tryz.func155.trans (congrArg some (by kernel_rfl))
 f228 := Tryz.func156.trans (congrArg some (by kernel_rfl))
 f266 := Tryz.func170.trans (congrArg some (by kernel_rfl))
 t0 := Tryz.underlying0
 a0 := Tryz.isAgg0
 z0 := Tryz.sizeOf0
 v0 := Tryz.zeroValue0
 t3 := Tryz.underlying3
 a3 := Tryz.isAgg3
 z3 := Tryz.sizeOf3
 v3 := Tryz.zeroValue3
 t4 := Tryz.underlying4
 a4 := Tryz.isAgg4
 z4 := Tryz.sizeOf4
 v4 := Tryz.zeroValue4
 t5 := Tryz.underlying5
 a5 := Tryz.isAgg5
 z5 := Tryz.sizeOf5
 v5 := Tryz.zeroValue5
 t9 := Tryz.underlying9
 a9 := Tryz.isAgg9
 z9 := Tryz.sizeOf9
 v9 := Tryz.zeroValue9
 t21 := Tryz.underlying21
 a21 := Tryz.isAgg21
 z21 := Tryz.sizeOf21
 v21 := Tryz.zeroValue21
 t46 := Tryz.underlying107
 a46 := Tryz.isAgg107
 z46 := Tryz.sizeOf107
 v46 := Tryz.zeroValue107
 t116 := Tryz.underlying151
 a116 := Tryz.isAgg151
 z116 := Tryz.sizeOf151
 t117 := Tryz.underlying152
 a117 := Tryz.isAgg152
 z117 := Tryz.sizeOf152
 v117 := Tryz.zeroValue152
 t124 := Tryz.underlying160
 a124 := Tryz.isAgg160
 z124 := Tryz.sizeOf160
 v124 := Tryz.zeroValue160 }
def Tryz.laysSplit_ren : Go.Shelf.Ren := ⟨fun | 146 => 149 | 221 => 157 | 268 => 162 | 138 => 163 | 143 => 164 | 195 => 166 | 197 => 167 | 218 => 168 | 219 => 169 | 260 => 171 | 217 => 165 | 225 => 161 | 224 => 160 | 267 => 172 | 266 => 170 | 314 => 173 | n => n, fun | 9 => 9 | 31 => 56 | 3 => 3 | 4 => 4 | 0 => 0 | 105 => 162 | 21 => 21 | 5 => 5 | 46 => 107 | 119 => 145 | 139 => 148 | 138 => 147 | 146 => 165 | 51 => 164 | n => n, fun | 1 => 2 | 3 => 0 | 4 => 1 | n => n⟩
theorem Tryz.laysSplit : Go.Proofs.Lays.n146 Tryz.prog Tryz.laysSplit_ren := {
 mixed := by kernel_rfl
 f138 := Tryz.func163.trans (congrArg some (by kernel_rfl))
 f143 := Tryz.func164.trans (congrArg some (by kernel_rfl))
 f146 := Tryz.func149.trans (congrArg some (by kernel_rfl))
 f195 := Tryz.func166.trans (congrArg some (by kernel_rfl))
 f197 := Tryz.func167.trans (congrArg some (by kernel_rfl))
 f217 := Tryz.func165.trans (congrArg some (by kernel_rfl))
 f218 := Tryz.func168.trans (congrArg some (by kernel_rfl))
 f219 := Tryz.func169.trans (congrArg some (by kernel_rfl))
 f221 := Tryz.func157.trans (congrArg some (by kernel_rfl))
 f224 := Tryz.func160.trans (congrArg some (by kernel_rfl))
 f225 := Tryz.func161.trans (congrArg some (by kernel_rfl))
 f260 := Tryz.func171.trans (congrArg some (by kernel_rfl))
 f266 := Tryz.func170.trans (congrArg some (by kernel_rfl))
 f267 := Tryz.func172.trans (congrArg some (by kernel_rfl))
 f268 := Tryz.func162.trans (congrArg some (by kernel_rfl))
 f314 := Tryz.func173.trans (congrArg some (by kernel_rfl))
 t0 := Tryz.underlying0
 a0 := Tryz.isAgg0
 z0 := Tryz.sizeOf0
 v0 := Tryz.zeroValue0
 t3 := Tryz.underlying3
 a3 := Tryz.isAgg3
 z3 := Tryz.sizeOf3
 v3 := Tryz.zeroValue3
 t4 := Tryz.underlying4
 a4 := Tryz.isAgg4
 z4 := Tryz.sizeOf4
 v4 := Tryz.zeroValue4
 t5 := Tryz.underlying5
 a5 := Tryz.isAgg5
 z5 := Tryz.sizeOf5
 v5 := Tryz.zeroValue5
 t9 := Tryz.underlying9
 a9 := Tryz.isAgg9
 z9 := Tryz.sizeOf9
 v9 := Tryz.zeroValue9
 t21 := Tryz.underlying21
 a21 := Tryz.isAgg21
 z21 := Tryz.sizeOf21
 v21 := Tryz.zeroValue21
 t31 := Tryz.underlying56
 a31 := Tryz.isAgg56
 z31 := Tryz.sizeOf56
 v31 := Tryz.zeroValue56
 t46 := Tryz.underlying107
 a46 := Tryz.isAgg107
 z46 := Tryz.sizeOf107
 v46 := Tryz.zeroValue107
 t51 := Tryz.underlying164
 a51 := Tryz.isAgg164
 z51 := Tryz.sizeOf164
 v51 := Tryz.zeroValue164
 t105 := Tryz.underlying162
 a105 := Tryz.isAgg162
 z105 := Tryz.sizeOf162
 v105 := Tryz.zeroValue162
 t119 := Tryz.underlying145
 a119 := Tryz.isAgg145
 z119 := Tryz.sizeOf145
 t138 := Tryz.underlying147
 a138 := Tryz.isAgg147
 z138 := Tryz.sizeOf147
 v138 := Tryz.zeroValue147
 t139 := Tryz.underlying148
 a139 := Tryz.isAgg148
 z139 := Tryz.sizeOf148
 v139 := Tryz.zeroValue148
 t146 := Tryz.underlying165
 a146 := Tryz.isAgg165
 z146 := Tryz.sizeOf165
 v146 := Tryz.zeroValue165
 g1 := by kernel_rfl
 g3 := by kernel_rfl
 g4 := by kernel_rfl }
namespace YtlcpigdmekgajaaGreatDoor.Abs
def noZ : Nat → List UInt8 → Bool
 | 0, _ => true
 | n + 1, l => if l = [] then true else if (Lib.decodeL l).1 = 0 then false else noZ n (l.drop (Lib.decodeL l).2)
def Yl (s : ByteArray) : Bool := noZ s.size s.data.toList && (Lib.validD s.data.toList && decide (s.size ≤ 60))
def JT (w : World) : Prop := Lib.Utf8Tabs (Tryz.laysValid_ren.g 3) (Tryz.laysValid_ren.g 4) w
def J0 (w : World) : Prop := JT w ∧ ∃ m, w.cell? ⟨Tryz.laysSplit_ren.g 1, 0, none⟩ = some (.int .i64 m)
theorem Agk : ∀ w w' : World, JT w → Below w.heap.size w w' → JT w' := fun _ _ h hb => Utf8Tabs_below h hb
theorem Agj : ∀ w w' : World, J0 w → Below w.heap.size w w' → J0 w' := fun w w' h hb => ⟨Agk w w' h.1 hb, by
 obtain ⟨m, hm⟩ := h.2
 have hlt := World.block_lt_of_cell? _ _ hm
 refine ⟨m, ?_⟩
 rw [← hm]
 simp only [World.cell?]
 rw [hb.block _ hlt]⟩
set_option maxHeartbeats 1000000 in
set_option maxRecDepth 1000000 in
theorem Aee (s : ByteArray) (w : World) (hs : s.size ≤ 9223372036854775807) (hT : JT w) :
  Calls Tryz.prog 135 #[.string s] w fun e w' => e = .returned (.bool (Yl s)) ∧ Below w.heap.size w w' := by
 have cV : ∀ w, JT w → Calls Tryz.prog 147 #[.string s] w _ := fun w hT => Any.utf8_ValidString Tryz.laysValid s w hs hT
 unfold Yl
 generalize hV : Lib.validD s.data.toList = V at cV ⊢
 have bel : ∀ pos, Below w.heap.size w (w.iter s pos) := fun pos => (Below.refl _ w).alloc (zam _) _
 go_enter Tryz.func135, Tryz.ntmps135
 go_wp2
 go_loopw [] (fun w' => ∃ (pos b : Nat), w' = w.iter s pos ∧ noZ b (s.data.toList.drop pos) = noZ s.size s.data.toList ∧ s.size ≤ pos + b) (fun w' => s.size - w'.iterPos w.heap.size)
 case atStart => exact ⟨0, s.size, rfl, by simp, by omega⟩
 case round =>
  obtain ⟨pos, b, rfl, hc, hb⟩ := hrel
  by_cases hp : pos < s.size
  ·have hnx : ∀ ty, (Instr.next (.pointer (some ⟨w.heap.size, 0, none⟩)) true ty).run Tryz.prog (w.iter s pos) = _ := fun ty => run_next_any w s pos ty hp
   have hdd := Lib.decodeL_drop s pos
   have hwd : 1 ≤ (Utf8.decode s pos).2 := by rw [← hdd]; exact Lib.decodeL_width _
   obtain ⟨b, rfl⟩ : ∃ b', b = b' + 1 := ⟨b - 1, by omega⟩
   have hne : s.data.toList.drop pos ≠ [] := by
    intro h
    have := congrArg List.length h
    simp at this
    omega
   rw [noZ, if_neg hne, hdd] at hc
   by_cases hz : (Utf8.decode s pos).1 = 0
   ·rw [if_pos hz] at hc
    have hz' : (((Utf8.decode s pos).1 : Int) == 0) = true := by simp [hz]
    go_wp2
    go_ret
    rw [← hc]
    exact ⟨by simp, bel _⟩
   ·rw [if_neg hz, zbp] at hc
    have hz' : (((Utf8.decode s pos).1 : Int) == 0) = false := by simp; omega
    go_wp2
    go_roundw
    case rel => exact ⟨pos + (Utf8.decode s pos).2, b, rfl, hc, by omega⟩
    case measure =>
     simp
     omega
  ·have hnx : ∀ ty, (Instr.next (.pointer (some ⟨w.heap.size, 0, none⟩)) true ty).run Tryz.prog (w.iter s pos) = _ := fun ty => run_next_end w s pos ty hp
   have hnil : s.data.toList.drop pos = [] := by
    apply zb5
    simp
    omega
   have hc2 : noZ s.size s.data.toList = true := by
    rw [← hc, hnil]
    cases b <;> simp [noZ]
   rw [hc2]
   have cV2 := cV (w.iter s pos) (Utf8Tabs_below hT (bel pos))
   go_wp2_with (go_at_call 147; refine cV2.mono ?_; rintro e w' ⟨rfl, hb2⟩)
   all_goals
    go_ret
    refine ⟨?_, (bel pos).trans (hb2.mono (bel pos).size)⟩
   ·simp_all
    omega
   ·simp_all
theorem Yb : ∀ (n : Nat) (l : List UInt8), Pj n l = (noZ n l && Lib.validGoD n l)
 | 0, _ => rfl
 | n + 1, l => by
  rw [Pj, noZ, Lib.validGoD, Yb n]
  by_cases h : l = []
  ·simp [h]
  ·by_cases h1 : (Lib.decodeL l).1 = 65533 ∧ (Lib.decodeL l).2 = 1
   ·simp [h, h1]
   ·by_cases h2 : (Lib.decodeL l).1 = 0
    ·simp [h, h2]
    ·simp [h, h1, h2]
theorem Aeu (s : ByteArray) : Yl s = Bi s := by
 have e : s.data.toList.length = s.size := by simp
 unfold Yl Bi Lib.validD
 rw [Yb, e]
 cases noZ s.size s.data.toList <;> cases Lib.validGoD s.size s.data.toList <;> simp
theorem Amb {c : ByteArray} (h : c.data.toList = [43, 35]) : c = phB := by
 cases c with
 | mk d =>
  have : d = #[43, 35] := by apply zbd; simpa using h
  subst this
  rfl
theorem Alk {c : ByteArray} (h : c.data.toList = [47]) : c = Wf := by
 cases c with
 | mk d =>
  have : d = #[47] := by apply zbd; simpa using h
  subst this
  rfl
theorem AgC : (Tryz.prog.info? (Tryz.laysAny_ren.t 116)).map (fun i => (i.zero, i.size)) = some (some (.agg (zb0 256 (.bool false))), 256) := by kernel_rfl
theorem hi9 : (Tryz.prog.info? (Tryz.laysSplit_ren.t 9)).map (fun i => (i.zero, i.size, i.bytes)) = some (some (.string ByteArray.empty), 1, 16) := by kernel_rfl
theorem Ait {w w' : World} (hb : Below w.heap.size w w') : HR w G0 w' [] := by
 refine ⟨hb, ?_, ?_, ?_, ?_⟩
 ·intro i k b o sz hi
  cases hi
 ·intro i k hi
  cases hi
 ·intro i i' k k' b o sz o' sz' hi
  cases hi
 ·intro i p hp
  cases hp
theorem AbZ {w w' : World} (hb : Below w.heap.size w w') (ty : Nat) (v : Value) : ∃ φ' Hc x ids, HR w φ' w' Hc ∧ VR w φ' x v ∧ Dk E0.ti E0.tp Hc 8 ty x = some (.sc v, ids) ∧ ids.Nodup :=
 ⟨G0, [], .sc v, [], Ait hb, Gn _ _ _, rfl, List.nodup_nil⟩
theorem Aa2 {ti : Nat → Option TI} {tp : Nat → Option (List Nat)} {H : Ad} {d : Nat} : ∀ (ts : List Nat) (l : List Value), ts.length = l.length → Es (Dk ti tp H (d + 1)) ts (l.map AV.sc) = some (l.map AV.sc, [])
 | [], [], _ => rfl
 | t :: ts, v :: l, h => by
  have ih := Aa2 (ti := ti) (tp := tp) (H := H) (d := d) ts l (by simpa using h)
  simp only [zaq, Es, ih, zac]
  rfl
theorem AiH {ti : Nat → Option TI} {tp : Nat → Option (List Nat)} {H : Ad} {d ty id off n z : Nat} : Dk ti tp H (d + 1) ty (.sl id off n z) = (ti ty).bind fun i => (ti i.elem).bind fun j => if z = j.size then (if Jz H id then (Bc H id off (n * z)).bind fun cs => (Es (Dk ti tp H d) (zaj n j.cty).flatten cs).bind fun q => some (.ro n q.1, id :: q.2) else none) else none := rfl
theorem Ae3 (w : World) (l : List ByteArray) (e : TypeId) : ∃ φ' Hc x ids, HR w φ' (w.alloc (.cells (l.map Value.string).toArray e)) Hc ∧ VR w φ' x (.slice (some ⟨w.heap.size, 0, none⟩) l.length l.length) ∧
  Dk E0.ti E0.tp Hc 8 56 x = some (.ro l.length (l.map fun s => .sc (.string s)), ids) ∧ ids.Nodup := by
 have hcs : VRs w G0 ((l.map Value.string).map AV.sc) (fun j => (l.map Value.string).toArray[0 + j]?) := by
  rw [Dx]
  intro j x hj
  rw [zaW] at hj
  obtain ⟨v, hv, rfl⟩ := zaH.1 hj
  exact ⟨v, by simpa using hv, Gn _ _ _⟩
 obtain ⟨h1, h2⟩ := (HR.start w).alloc (F2 w (.cells (l.map Value.string).toArray e)) (b := w.heap.size) (o := 0) (k := ⟨(l.map Value.string).map AV.sc, true, true⟩) (zam _) (Mz w _) (by simp) (fun _ => rfl) (.inl rfl) hcs
 refine ⟨_, _, .sl 0 0 l.length 1, [0], h1, ?_, ?_, by simp⟩
 ·rw [VR]
  refine .inr ⟨w.heap.size, 0, _, Fs _ _ _, .inr ⟨l.length, zam _, rfl, ?_⟩⟩
  simp
 ·rw [AiH]
  have hr : Bc ([] ++ [⟨(l.map Value.string).map AV.sc, true, true⟩]) 0 0 (l.length * 1) = some ((l.map Value.string).map AV.sc) := by
   simp [Bc, List.take_of_length_le]
  have e1 : E0.ti 56 = Au 56 := rfl
  obtain ⟨i, j, hi, hj, hz, hc⟩ : ∃ i j, Au 56 = some i ∧ Au i.elem = some j ∧ j.size = 1 ∧ j.cty = [i.elem] := ⟨_, _, rfl, rfl, rfl, rfl⟩
  simp only [e1, hi, zac, show E0.ti i.elem = some j from hj, hz, if_true, hr, hc]
  have ho := Aa2 (ti := E0.ti) (tp := E0.tp) (H := [] ++ [⟨(l.map Value.string).map AV.sc, true, true⟩]) (d := 6) (zaj l.length [i.elem]).flatten (l.map Value.string) (by simp)
  rw [ho]
  have ha : Jz ([] ++ [(⟨(l.map Value.string).map AV.sc, true, true⟩ : Jb)]) 0 = true := rfl
  rw [if_pos ha]
  simp [zbJ]
theorem Aeo (s : ByteArray) (w : World) (hs : s.size < 4294967281) : Calls Tryz.prog 136 #[.string s, .string phB] w fun e w' => e = .returned (.bool (vPH s)) ∧ Below w.heap.size w w' :=
 Z7 Tryz.laysAny (zero_of_info AgC).1 (zero_of_info AgC).2 s w hs
theorem AbH (s : ByteArray) (w : World) (hs : s.size < 4294967281) (hm : ∃ m, w.cell? ⟨Tryz.laysSplit_ren.g 1, 0, none⟩ = some (.int .i64 m)) : Calls Tryz.prog 149 #[.string s, .string Wf] w fun e w' =>
  e = .returned (.slice (some ⟨w.heap.size, 0, none⟩) (Bp s).length (Bp s).length) ∧ w' = w.alloc (.cells ((Bp s).map Value.string).toArray (Tryz.laysSplit_ren.t 9)) := by
 obtain ⟨m, hm⟩ := hm
 have h := Any.strings_Split Tryz.laysSplit hi9 s Wf m w hs hm (zam _)
 rw [Sb, ← Ab3] at h
 exact h
theorem AiE {w : World} {x : Value} {us : List Value} (hl : us.length = 1) (hv : VRs w G0 [.sc x] (fun j => us[j]?)) : us = [x] := by
 match us, hl with
 | [y], _ =>
  rw [VRs] at hv
  obtain ⟨⟨u, hu, hv⟩, _⟩ := hv
  rw [VR] at hv
  simp at hu
  rw [hu, hv]
theorem AaH {w : World} {x y : Value} {us : List Value} (hl : us.length = 2) (hv : VRs w G0 [.sc x, .sc y] (fun j => us[j]?)) : us = [x, y] := by
 match us, hl with
 | [a, b], _ =>
  rw [VRs, VRs] at hv
  obtain ⟨⟨u, hu, hv⟩, ⟨u2, hu2, hv2⟩, _⟩ := hv
  rw [VR] at hv hv2
  simp at hu hu2
  rw [hu, hv, hu2, hv2]
theorem AmB : Ajg Tryz.prog E0 J0 := by
 intro f g hg w hj ty vs us t hl hv ht
 have hf : E0.ext f = if zb4 f 135 then some Yp else if zb4 f 136 then some Uz else if zb4 f 149 then some Sl else none := rfl
 rw [hf] at hg
 split at hg
 ·rename_i hfe
  obtain rfl := zaQ hfe
  cases hg
  unfold Yp at ht
  split at ht
  case h_2 => cases ht
  rename_i s
  split at ht
  case isFalse => cases ht
  rename_i hs
  cases ht
  have hm : maxLen = 9223372036854775807 := by decide
  rw [hm] at hs
  obtain rfl := AiE hl hv
  refine .inr ⟨enters_of Tryz.func135 (by kernel_rfl) rfl _ _, (Aee s w hs hj.1).mono fun e w' ⟨he, hb⟩ => ⟨_, he, ?_⟩⟩
  rw [Aeu]
  exact AbZ hb _ _
 split at hg
 ·rename_i hfe
  obtain rfl := zaQ hfe
  cases hg
  unfold Uz at ht
  split at ht
  case h_2 => cases ht
  rename_i s c
  split at ht
  case isFalse => cases ht
  rename_i hs
  cases ht
  obtain rfl := AaH hl hv
  obtain ⟨hc, hs⟩ := hs
  obtain rfl := Amb hc
  exact .inr ⟨enters_of Tryz.func136 (by kernel_rfl) rfl _ _, (Aeo s w hs).mono fun e w' ⟨he, hb⟩ => ⟨_, he, AbZ hb _ _⟩⟩
 split at hg
 ·rename_i hfe
  obtain rfl := zaQ hfe
  cases hg
  unfold Sl at ht
  split at ht
  case h_2 => cases ht
  rename_i s c
  split at ht
  case isFalse => cases ht
  rename_i hs
  cases ht
  obtain rfl := AaH hl hv
  obtain ⟨rfl, hc, hs⟩ := hs
  obtain rfl := Alk hc
  exact .inr ⟨enters_of Tryz.func149 (by kernel_rfl) rfl _ _, (AbH s w hs hj.2).mono fun e w' ⟨he, hw⟩ => ⟨_, he, by subst hw; exact Ae3 w (Bp s) _⟩⟩
 ·cases hg
end YtlcpigdmekgajaaGreatDoor.Abs
end Go.Proofs
set_option linter.unusedVariables false
set_option linter.unusedSimpArgs false
set_option maxRecDepth 100000
namespace Go.Proofs.YtlcpigdmekgajaaGreatDoor.Abs
open _root_.Bool renaming false_eq_true → zaa, and_eq_true → zag, not_true → zaw, true_and → zaA, eq_iff_iff → zb8
open _root_.Option renaming bind_eq_some_iff → zab, bind_some → zac, map_eq_some_iff → zaH, getD_some → zaJ, bind_eq_bind → zaM, pure_def → zbb
open _root_.List renaming getElem?_eq_some_iff → zad, length_append → zae, append_assoc → zaf, getElem?_append_right → zah, getElem?_append_left → zai, replicate → zaj, nil_append → zal, append_nil → zan, length_cons → zao, all_cons → zap, map_cons → zaq, length_singleton → zas, mem_cons_of_mem → zau, length_nil → zav, mem_cons_self → zax, cons_append → zaz, flatten_cons → za1, drop_append_of_le_length → za3, map_append → za4, all_eq_true → za7, map_nil → zaC, mem_append_left → zaD, mapM_cons → zaG, take_length → zaK, mem_append_right → zaL, mem_append → zaR, drop_zero → zaT, drop_length → zaU, getElem?_map → zaW, getElem?_drop → zaY, nodup_append → zba, replicate_succ → zbf, drop_eq_getElem_cons → zbh, nodup_cons → zbi, getElem?_take_of_lt → zbk, mem_singleton → zbl, getElem?_cons_zero → zbn, drop_drop → zbp, length_eq_one_iff → zbs, getD_eq_getElem?_getD → zbt, flatten_append → zb2, flatten_nil → zb3, drop_of_length_le → zb5, take_left' → zb9, Perm → zbA, any_cons → zbB, getElem?_set_ne → zbC, mem_cons → zbG, mem_map → zbI, map_map → zbJ
open _root_.ByteArray renaming size → zbD, data_push → zbE
open _root_.Nat renaming le_refl → zam, zero_add → za2, le_trans → za5, add_assoc → zaE, add_zero → zaO, eq_of_beq_eq_true → zaQ, sub_self → zaZ, succ_mul → zbv, mul_one → zbx, beq → zb4, add_comm → zbF, add_mul → zbH
open _root_.Array renaming ext' → zbd, replicate → zb0
open _root_.Int renaming natCast_zero → zaV, toNat_natCast → zbq
section
open Go
theorem Amg : AgI Tryz.prog 0 tis = true := by kernel_rfl
theorem Alt : AfU E0 fss = true := by kernel_rfl
theorem AgJ : Jw Tryz.prog Au := by
 intro t i h
 unfold Au at h
 cases hl : tis[t]? with
 | none => rw [hl] at h; cases h
 | some o =>
  rw [hl] at h
  simp only [zaJ] at h
  subst h
  simpa using (Zg tis 0 t i Amg hl).1
theorem Alr : ∀ t i, Au t = some i → i.ik = some .u8 → i.size = 1 := by
 intro t i h
 unfold Au at h
 cases hl : tis[t]? with
 | none => rw [hl] at h; cases h
 | some o =>
  rw [hl] at h
  simp only [zaJ] at h
  subst h
  exact (Zg tis 0 t i Amg hl).2
def FnQ (n : Nat) (c : Code) (t : Nat) (f : Func) : Prop := ∃ fn, Tryz.prog.funcs[n]? = some fn ∧ (fn.name == "runtime.NumGoroutine") = false ∧ fn.body = some c ∧ fn.ntmps = t ∧ fn.results.toList = f.results.toList
theorem G2 {c : Code} {t : Nat} {f : Func} {o : List (Nat × PI)} {i : F1} {n : Nat} (e : some (some (⟨c, t, f.results.toList, o⟩ : F1)) = some (some i)) (h : FnQ n c t f) : ∃ fn, Tryz.prog.funcs[n]? = some fn ∧ (fn.name == "runtime.NumGoroutine") = false ∧ fn.body = some i.body ∧ fn.ntmps = i.ntmps ∧ fn.results.toList = i.results := by cases e; exact h
theorem AlL : ∀ (f : Nat) (i : F1), f < 152 → fss[f]? = some (some i) → ∃ fn, Tryz.prog.funcs[f]? = some fn ∧ (fn.name == "runtime.NumGoroutine") = false ∧ fn.body = some i.body ∧ fn.ntmps = i.ntmps ∧ fn.results.toList = i.results
 | 0, i, _, h => nomatch Option.some.inj h
 | 1, i, _, h => nomatch Option.some.inj h
 | 2, i, _, h => nomatch Option.some.inj h
 | 3, i, _, h => nomatch Option.some.inj h
 | 4, i, _, h => nomatch Option.some.inj h
 | 5, i, _, h => nomatch Option.some.inj h
 | 6, i, _, h => G2 (f := Tryz.f6) h ⟨_, Tryz.func6, by kernel_rfl, by kernel_rfl, rfl, rfl⟩
 | 7, i, _, h => nomatch Option.some.inj h
 | 8, i, _, h => nomatch Option.some.inj h
 | 9, i, _, h => nomatch Option.some.inj h
 | 10, i, _, h => nomatch Option.some.inj h
 | 11, i, _, h => nomatch Option.some.inj h
 | 12, i, _, h => nomatch Option.some.inj h
 | 13, i, _, h => nomatch Option.some.inj h
 | 14, i, _, h => nomatch Option.some.inj h
 | 15, i, _, h => nomatch Option.some.inj h
 | 16, i, _, h => nomatch Option.some.inj h
 | 17, i, _, h => nomatch Option.some.inj h
 | 18, i, _, h => nomatch Option.some.inj h
 | 19, i, _, h => nomatch Option.some.inj h
 | 20, i, _, h => nomatch Option.some.inj h
 | 21, i, _, h => nomatch Option.some.inj h
 | 22, i, _, h => nomatch Option.some.inj h
 | 23, i, _, h => nomatch Option.some.inj h
 | 24, i, _, h => nomatch Option.some.inj h
 | 25, i, _, h => nomatch Option.some.inj h
 | 26, i, _, h => nomatch Option.some.inj h
 | 27, i, _, h => nomatch Option.some.inj h
 | 28, i, _, h => nomatch Option.some.inj h
 | 29, i, _, h => nomatch Option.some.inj h
 | 30, i, _, h => nomatch Option.some.inj h
 | 31, i, _, h => G2 (f := Tryz.f31) h ⟨_, Tryz.func31, by kernel_rfl, by kernel_rfl, rfl, rfl⟩
 | 32, i, _, h => G2 (f := Tryz.f32) h ⟨_, Tryz.func32, by kernel_rfl, by kernel_rfl, rfl, rfl⟩
 | 33, i, _, h => G2 (f := Tryz.f33) h ⟨_, Tryz.func33, by kernel_rfl, by kernel_rfl, rfl, rfl⟩
 | 34, i, _, h => G2 (f := Tryz.f34) h ⟨_, Tryz.func34, by kernel_rfl, by kernel_rfl, rfl, rfl⟩
 | 35, i, _, h => G2 (f := Tryz.f35) h ⟨_, Tryz.func35, by kernel_rfl, by kernel_rfl, rfl, rfl⟩
 | 36, i, _, h => G2 (f := Tryz.f36) h ⟨_, Tryz.func36, by kernel_rfl, by kernel_rfl, rfl, rfl⟩
 | 37, i, _, h => G2 (f := Tryz.f37) h ⟨_, Tryz.func37, by kernel_rfl, by kernel_rfl, rfl, rfl⟩
 | 38, i, _, h => G2 (f := Tryz.f38) h ⟨_, Tryz.func38, by kernel_rfl, by kernel_rfl, rfl, rfl⟩
 | 39, i, _, h => nomatch Option.some.inj h
 | 40, i, _, h => nomatch Option.some.inj h
 | 41, i, _, h => nomatch Option.some.inj h
 | 42, i, _, h => nomatch Option.some.inj h
 | 43, i, _, h => nomatch Option.some.inj h
 | 44, i, _, h => nomatch Option.some.inj h
 | 45, i, _, h => nomatch Option.some.inj h
 | 46, i, _, h => nomatch Option.some.inj h
 | 47, i, _, h => nomatch Option.some.inj h
 | 48, i, _, h => nomatch Option.some.inj h
 | 49, i, _, h => nomatch Option.some.inj h
 | 50, i, _, h => nomatch Option.some.inj h
 | 51, i, _, h => nomatch Option.some.inj h
 | 52, i, _, h => nomatch Option.some.inj h
 | 53, i, _, h => G2 (f := Tryz.f53) h ⟨_, Tryz.func53, by kernel_rfl, by kernel_rfl, rfl, rfl⟩
 | 54, i, _, h => G2 (f := Tryz.f54) h ⟨_, Tryz.func54, by kernel_rfl, by kernel_rfl, rfl, rfl⟩
 | 55, i, _, h => G2 (f := Tryz.f55) h ⟨_, Tryz.func55, by kernel_rfl, by kernel_rfl, rfl, rfl⟩
 | 56, i, _, h => G2 (f := Tryz.f56) h ⟨_, Tryz.func56, by kernel_rfl, by kernel_rfl, rfl, rfl⟩
 | 57, i, _, h => G2 (f := Tryz.f57) h ⟨_, Tryz.func57, by kernel_rfl, by kernel_rfl, rfl, rfl⟩
 | 58, i, _, h => G2 (f := Tryz.f58) h ⟨_, Tryz.func58, by kernel_rfl, by kernel_rfl, rfl, rfl⟩
 | 59, i, _, h => G2 (f := Tryz.f59) h ⟨_, Tryz.func59, by kernel_rfl, by kernel_rfl, rfl, rfl⟩
 | 60, i, _, h => G2 (f := Tryz.f60) h ⟨_, Tryz.func60, by kernel_rfl, by kernel_rfl, rfl, rfl⟩
 | 61, i, _, h => G2 (f := Tryz.f61) h ⟨_, Tryz.func61, by kernel_rfl, by kernel_rfl, rfl, rfl⟩
 | 62, i, _, h => G2 (f := Tryz.f62) h ⟨_, Tryz.func62, by kernel_rfl, by kernel_rfl, rfl, rfl⟩
 | 63, i, _, h => G2 (f := Tryz.f63) h ⟨_, Tryz.func63, by kernel_rfl, by kernel_rfl, rfl, rfl⟩
 | 64, i, _, h => G2 (f := Tryz.f64) h ⟨_, Tryz.func64, by kernel_rfl, by kernel_rfl, rfl, rfl⟩
 | 65, i, _, h => G2 (f := Tryz.f65) h ⟨_, Tryz.func65, by kernel_rfl, by kernel_rfl, rfl, rfl⟩
 | 66, i, _, h => G2 (f := Tryz.f66) h ⟨_, Tryz.func66, by kernel_rfl, by kernel_rfl, rfl, rfl⟩
 | 67, i, _, h => G2 (f := Tryz.f67) h ⟨_, Tryz.func67, by kernel_rfl, by kernel_rfl, rfl, rfl⟩
 | 68, i, _, h => G2 (f := Tryz.f68) h ⟨_, Tryz.func68, by kernel_rfl, by kernel_rfl, rfl, rfl⟩
 | 69, i, _, h => G2 (f := Tryz.f69) h ⟨_, Tryz.func69, by kernel_rfl, by kernel_rfl, rfl, rfl⟩
 | 70, i, _, h => G2 (f := Tryz.f70) h ⟨_, Tryz.func70, by kernel_rfl, by kernel_rfl, rfl, rfl⟩
 | 71, i, _, h => G2 (f := Tryz.f71) h ⟨_, Tryz.func71, by kernel_rfl, by kernel_rfl, rfl, rfl⟩
 | 72, i, _, h => G2 (f := Tryz.f72) h ⟨_, Tryz.func72, by kernel_rfl, by kernel_rfl, rfl, rfl⟩
 | 73, i, _, h => G2 (f := Tryz.f73) h ⟨_, Tryz.func73, by kernel_rfl, by kernel_rfl, rfl, rfl⟩
 | 74, i, _, h => G2 (f := Tryz.f74) h ⟨_, Tryz.func74, by kernel_rfl, by kernel_rfl, rfl, rfl⟩
 | 75, i, _, h => G2 (f := Tryz.f75) h ⟨_, Tryz.func75, by kernel_rfl, by kernel_rfl, rfl, rfl⟩
 | 76, i, _, h => nomatch Option.some.inj h
 | 77, i, _, h => G2 (f := Tryz.f77) h ⟨_, Tryz.func77, by kernel_rfl, by kernel_rfl, rfl, rfl⟩
 | 78, i, _, h => nomatch Option.some.inj h
 | 79, i, _, h => nomatch Option.some.inj h
 | 80, i, _, h => G2 (f := Tryz.f80) h ⟨_, Tryz.func80, by kernel_rfl, by kernel_rfl, rfl, rfl⟩
 | 81, i, _, h => G2 (f := Tryz.f81) h ⟨_, Tryz.func81, by kernel_rfl, by kernel_rfl, rfl, rfl⟩
 | 82, i, _, h => nomatch Option.some.inj h
 | 83, i, _, h => nomatch Option.some.inj h
 | 84, i, _, h => nomatch Option.some.inj h
 | 85, i, _, h => nomatch Option.some.inj h
 | 86, i, _, h => G2 (f := Tryz.f86) h ⟨_, Tryz.func86, by kernel_rfl, by kernel_rfl, rfl, rfl⟩
 | 87, i, _, h => G2 (f := Tryz.f87) h ⟨_, Tryz.func87, by kernel_rfl, by kernel_rfl, rfl, rfl⟩
 | 88, i, _, h => G2 (f := Tryz.f88) h ⟨_, Tryz.func88, by kernel_rfl, by kernel_rfl, rfl, rfl⟩
 | 89, i, _, h => G2 (f := Tryz.f89) h ⟨_, Tryz.func89, by kernel_rfl, by kernel_rfl, rfl, rfl⟩
 | 90, i, _, h => G2 (f := Tryz.f90) h ⟨_, Tryz.func90, by kernel_rfl, by kernel_rfl, rfl, rfl⟩
 | 91, i, _, h => G2 (f := Tryz.f91) h ⟨_, Tryz.func91, by kernel_rfl, by kernel_rfl, rfl, rfl⟩
 | 92, i, _, h => G2 (f := Tryz.f92) h ⟨_, Tryz.func92, by kernel_rfl, by kernel_rfl, rfl, rfl⟩
 | 93, i, _, h => G2 (f := Tryz.f93) h ⟨_, Tryz.func93, by kernel_rfl, by kernel_rfl, rfl, rfl⟩
 | 94, i, _, h => G2 (f := Tryz.f94) h ⟨_, Tryz.func94, by kernel_rfl, by kernel_rfl, rfl, rfl⟩
 | 95, i, _, h => G2 (f := Tryz.f95) h ⟨_, Tryz.func95, by kernel_rfl, by kernel_rfl, rfl, rfl⟩
 | 96, i, _, h => G2 (f := Tryz.f96) h ⟨_, Tryz.func96, by kernel_rfl, by kernel_rfl, rfl, rfl⟩
 | 97, i, _, h => G2 (f := Tryz.f97) h ⟨_, Tryz.func97, by kernel_rfl, by kernel_rfl, rfl, rfl⟩
 | 98, i, _, h => G2 (f := Tryz.f98) h ⟨_, Tryz.func98, by kernel_rfl, by kernel_rfl, rfl, rfl⟩
 | 99, i, _, h => G2 (f := Tryz.f99) h ⟨_, Tryz.func99, by kernel_rfl, by kernel_rfl, rfl, rfl⟩
 | 100, i, _, h => G2 (f := Tryz.f100) h ⟨_, Tryz.func100, by kernel_rfl, by kernel_rfl, rfl, rfl⟩
 | 101, i, _, h => G2 (f := Tryz.f101) h ⟨_, Tryz.func101, by kernel_rfl, by kernel_rfl, rfl, rfl⟩
 | 102, i, _, h => G2 (f := Tryz.f102) h ⟨_, Tryz.func102, by kernel_rfl, by kernel_rfl, rfl, rfl⟩
 | 103, i, _, h => G2 (f := Tryz.f103) h ⟨_, Tryz.func103, by kernel_rfl, by kernel_rfl, rfl, rfl⟩
 | 104, i, _, h => G2 (f := Tryz.f104) h ⟨_, Tryz.func104, by kernel_rfl, by kernel_rfl, rfl, rfl⟩
 | 105, i, _, h => G2 (f := Tryz.f105) h ⟨_, Tryz.func105, by kernel_rfl, by kernel_rfl, rfl, rfl⟩
 | 106, i, _, h => G2 (f := Tryz.f106) h ⟨_, Tryz.func106, by kernel_rfl, by kernel_rfl, rfl, rfl⟩
 | 107, i, _, h => G2 (f := Tryz.f107) h ⟨_, Tryz.func107, by kernel_rfl, by kernel_rfl, rfl, rfl⟩
 | 108, i, _, h => G2 (f := Tryz.f108) h ⟨_, Tryz.func108, by kernel_rfl, by kernel_rfl, rfl, rfl⟩
 | 109, i, _, h => G2 (f := Tryz.f109) h ⟨_, Tryz.func109, by kernel_rfl, by kernel_rfl, rfl, rfl⟩
 | 110, i, _, h => G2 (f := Tryz.f110) h ⟨_, Tryz.func110, by kernel_rfl, by kernel_rfl, rfl, rfl⟩
 | 111, i, _, h => G2 (f := Tryz.f111) h ⟨_, Tryz.func111, by kernel_rfl, by kernel_rfl, rfl, rfl⟩
 | 112, i, _, h => G2 (f := Tryz.f112) h ⟨_, Tryz.func112, by kernel_rfl, by kernel_rfl, rfl, rfl⟩
 | 113, i, _, h => G2 (f := Tryz.f113) h ⟨_, Tryz.func113, by kernel_rfl, by kernel_rfl, rfl, rfl⟩
 | 114, i, _, h => G2 (f := Tryz.f114) h ⟨_, Tryz.func114, by kernel_rfl, by kernel_rfl, rfl, rfl⟩
 | 115, i, _, h => G2 (f := Tryz.f115) h ⟨_, Tryz.func115, by kernel_rfl, by kernel_rfl, rfl, rfl⟩
 | 116, i, _, h => nomatch Option.some.inj h
 | 117, i, _, h => nomatch Option.some.inj h
 | 118, i, _, h => G2 (f := Tryz.f118) h ⟨_, Tryz.func118, by kernel_rfl, by kernel_rfl, rfl, rfl⟩
 | 119, i, _, h => nomatch Option.some.inj h
 | 120, i, _, h => nomatch Option.some.inj h
 | 121, i, _, h => nomatch Option.some.inj h
 | 122, i, _, h => nomatch Option.some.inj h
 | 123, i, _, h => nomatch Option.some.inj h
 | 124, i, _, h => nomatch Option.some.inj h
 | 125, i, _, h => nomatch Option.some.inj h
 | 126, i, _, h => G2 (f := Tryz.f126) h ⟨_, Tryz.func126, by kernel_rfl, by kernel_rfl, rfl, rfl⟩
 | 127, i, _, h => G2 (f := Tryz.f127) h ⟨_, Tryz.func127, by kernel_rfl, by kernel_rfl, rfl, rfl⟩
 | 128, i, _, h => G2 (f := Tryz.f128) h ⟨_, Tryz.func128, by kernel_rfl, by kernel_rfl, rfl, rfl⟩
 | 129, i, _, h => G2 (f := Tryz.f129) h ⟨_, Tryz.func129, by kernel_rfl, by kernel_rfl, rfl, rfl⟩
 | 130, i, _, h => G2 (f := Tryz.f130) h ⟨_, Tryz.func130, by kernel_rfl, by kernel_rfl, rfl, rfl⟩
 | 131, i, _, h => G2 (f := Tryz.f131) h ⟨_, Tryz.func131, by kernel_rfl, by kernel_rfl, rfl, rfl⟩
 | 132, i, _, h => G2 (f := Tryz.f132) h ⟨_, Tryz.func132, by kernel_rfl, by kernel_rfl, rfl, rfl⟩
 | 133, i, _, h => G2 (f := Tryz.f133) h ⟨_, Tryz.func133, by kernel_rfl, by kernel_rfl, rfl, rfl⟩
 | 134, i, _, h => G2 (f := Tryz.f134) h ⟨_, Tryz.func134, by kernel_rfl, by kernel_rfl, rfl, rfl⟩
 | 135, i, _, h => nomatch Option.some.inj h
 | 136, i, _, h => nomatch Option.some.inj h
 | 137, i, _, h => G2 (f := Tryz.f137) h ⟨_, Tryz.func137, by kernel_rfl, by kernel_rfl, rfl, rfl⟩
 | 138, i, _, h => G2 (f := Tryz.f138) h ⟨_, Tryz.func138, by kernel_rfl, by kernel_rfl, rfl, rfl⟩
 | 139, i, _, h => G2 (f := Tryz.f139) h ⟨_, Tryz.func139, by kernel_rfl, by kernel_rfl, rfl, rfl⟩
 | 140, i, _, h => G2 (f := Tryz.f140) h ⟨_, Tryz.func140, by kernel_rfl, by kernel_rfl, rfl, rfl⟩
 | 141, i, _, h => G2 (f := Tryz.f141) h ⟨_, Tryz.func141, by kernel_rfl, by kernel_rfl, rfl, rfl⟩
 | 142, i, _, h => G2 (f := Tryz.f142) h ⟨_, Tryz.func142, by kernel_rfl, by kernel_rfl, rfl, rfl⟩
 | 143, i, _, h => G2 (f := Tryz.f143) h ⟨_, Tryz.func143, by kernel_rfl, by kernel_rfl, rfl, rfl⟩
 | 144, i, _, h => nomatch Option.some.inj h
 | 145, i, _, h => nomatch Option.some.inj h
 | 146, i, _, h => G2 (f := Tryz.f146) h ⟨_, Tryz.func146, by kernel_rfl, by kernel_rfl, rfl, rfl⟩
 | 147, i, _, h => nomatch Option.some.inj h
 | 148, i, _, h => nomatch Option.some.inj h
 | 149, i, _, h => nomatch Option.some.inj h
 | 150, i, _, h => G2 (f := Tryz.f150) h ⟨_, Tryz.func150, by kernel_rfl, by kernel_rfl, rfl, rfl⟩
 | 151, i, _, h => G2 (f := Tryz.f151) h ⟨_, Tryz.func151, by kernel_rfl, by kernel_rfl, rfl, rfl⟩
 | n + 152, i, hlt, h => by omega
theorem AmC : ∀ f i, E0.fs f = some i → AjM Tryz.prog E0 f i := by
 intro f i h
 have hl : fss[f]? = some (some i) := by
  have h : (fss[f]?).getD none = some i := h
  cases hl : fss[f]? with
  | none => rw [hl] at h; cases h
  | some o => rw [hl] at h; simp only [zaJ] at h; rw [h]
 refine ⟨?_, Acp Alt hl⟩
 have hlt : f < 152 := (zad.1 hl).1
 exact AlL f i hlt hl
theorem Am9 : Zl Tryz.prog E0 J0 := ⟨AgJ, Alr, by kernel_rfl, AmC, AmB, (fun f q h => by cases h), Agj⟩
end
section
open Go
variable {β : Type} {n : Nat}
section
variable {k : KO β} {k1 : AV → Option β} {H : Ad}
@[simp] theorem Ba : (PR n β).load = C3 := rfl
@[simp] theorem D9 : (PR n β).store = G8 := rfl
@[simp] theorem F8 : (PR n β).new = Y9 := rfl
@[simp] theorem Gw : (PR n β).box = W7 := rfl
@[simp] theorem Cq : (PR n β).newSl = Hm := rfl
@[simp] theorem B6 : (PR n β).fadr = Kx := rfl
@[simp] theorem Amj : (PR n β).fld = AiI := rfl
@[simp] theorem Bu : (PR n β).iadr = D7 := rfl
@[simp] theorem Nl : (PR n β).idx = Ag0 := rfl
@[simp] theorem Hf : (PR n β).lenS = X3 := rfl
@[simp] theorem B5 : (PR n β).len = Jo := rfl
@[simp] theorem I4 : (PR n β).sliceS = R3 := rfl
@[simp] theorem Ho : (PR n β).slice = S1 := rfl
@[simp] theorem Du : (PR n β).app = L7 := rfl
@[simp] theorem Aha : (PR n β).appS = X1 := rfl
@[simp] theorem A4 : (PR n β).bin = Cs := rfl
@[simp] theorem Iv : (PR n β).binB = Qc := rfl
@[simp] theorem Ky : (PR n β).binA = R2 := rfl
@[simp] theorem D5 : (PR n β).un = pUn := rfl
@[simp] theorem Bv : (PR n β).pick = Oi := rfl
@[simp] theorem Dh : (PR n β).cvI = W8 := rfl
@[simp] theorem Ami : (PR n β).cvSS = Agz := rfl
@[simp] theorem Gm : (PR n β).cvBS = Ph := rfl
@[simp] theorem AbP : (PR n β).cvSB = X2 := rfl
@[simp] theorem Iw : (PR n β).extr = Tv := rfl
@[simp] theorem Qj : (PR n β).nil = AiJ := rfl
@[simp] theorem Ct : (PR n β).fill = fun a l k => (Jh a l).bind k := rfl
@[simp] theorem Po : (PR n β).make = X7 := rfl
@[simp] theorem Bh : (PR n β).guard = Jn := rfl
@[simp] theorem Av : (PR n β).cond = Em := rfl
@[simp] theorem Aln : (PR n β).clear = Wa := rfl
@[simp] theorem Amh : (PR n β).both = Qd := rfl
@[simp] theorem Aek : (PR n β).apart = S0 := rfl
@[simp] theorem Ahb : (PR n β).same = Tw := rfl
noncomputable def Fx (f : Nat) : Bool := E0.hm f || (E0.ext f).isSome
theorem Aa6 {f : Nat} (h : Fx f = false) : E0.hm f = false := by
 unfold Fx at h
 simp only [Bool.or_eq_false_iff] at h
 exact h.1
theorem X8 {f : Nat} (h : Fx f = false) : E0.ext f = none := by
 unfold Fx at h
 simp only [Bool.or_eq_false_iff] at h
 simpa using h.2
theorem Jc {ty : Nat} {f : FuncId} {args vs : List AV} {t : AV} (hh : Fx f = false) (hv : args.mapM (Dz H 8) = some vs) (ht : Dd E0 n ty f vs = some t) :
  (PR n β).call ty (.fn f [] []) args H k = k (B7 Au E0.tp H.length ty t).1 (H ++ (B7 Au E0.tp H.length ty t).2) := by
 show Mc E0 (Ej E0 n) ty f ([] ++ args ++ []) H k = _
 simp only [Mc, X8 hh, Aa6 hh, zal, zan, zaa, if_false, Z2, hv, zac]
 have ht : S9 E0 (Ej E0 n) ty f vs = some t := ht
 rw [ht]
 rfl
theorem AaM {ty : Nat} {f : FuncId} {g : Nat → List AV → Option AV} {args vs : List AV} {t : AV} (hg : E0.ext f = some g) (hv : args.mapM (Dz H 8) = some vs) (ht : g ty vs = some t) :
  (PR n β).call ty (.fn f [] []) args H k = k (B7 Au E0.tp H.length ty t).1 (H ++ (B7 Au E0.tp H.length ty t).2) := by
 show Mc E0 (Ej E0 n) ty f ([] ++ args ++ []) H k = _
 simp only [Mc, hg, zal, zan, AbU, hv, zac, ht]
 rfl
end
theorem Bd (n ty : Nat) (f : FuncId) (args : List AV) : Dd E0 n ty f args = Ej E0 n AV f args [] fun x H => Bf Au E0.tp ty H x := rfl
@[simp] theorem Ald {ti : Nat → Option TI} {tp : Nat → Option (List Nat)} (ty : Nat) (H : Ad) (v : Value) : Bf ti tp ty H (.sc v) = some (.sc v) := rfl
theorem Jm {ti : Nat → Option TI} {tp : Nat → Option (List Nat)} {H : Ad} {d ty id off n z : Nat} : Dk ti tp H (d + 1) ty (.sl id off n z) = (ti ty).bind fun i => (ti i.elem).bind fun j => if z = j.size then (if Jz H id then (Bc H id off (n * z)).bind fun cs => (Es (Dk ti tp H d) (zaj n j.cty).flatten cs).bind fun q => some (.ro n q.1, id :: q.2) else none) else none := rfl
theorem Jl {ti : Nat → Option TI} {tp : Nat → Option (List Nat)} {H : Ad} {d ty : Nat} {cs : List AV} : Dk ti tp H (d + 1) ty (.agg cs) = (ti ty).bind fun i => (Es (Dk ti tp H d) i.cty cs).bind fun q => some (.agg q.1, q.2) := rfl
theorem Kk {ti : Nat → Option TI} {tp : Nat → Option (List Nat)} {H : Ad} {d ty : Nat} {cs : List AV} : Dk ti tp H (d + 1) ty (.tup cs) = (tp ty).bind fun ts => (Es (Dk ti tp H d) ts cs).bind fun q => some (.tup q.1, q.2) := rfl
theorem Y6 {ti : Nat → Option TI} {tp : Nat → Option (List Nat)} {H : Ad} {d ty : Nat} {v : Value} : Dk ti tp H (d + 1) ty (.sc v) = some (.sc v, []) := rfl
theorem G7 {ti : Nat → Option TI} {tp : Nat → Option (List Nat)} {n ty : Nat} {v : Value} : B7 ti tp n ty (.sc v) = (.sc v, []) := rfl
theorem Sp {ti : Nat → Option TI} {tp : Nat → Option (List Nat)} {n ty : Nat} {cs : List AV} : B7 ti tp n ty (.agg cs) = (.agg (A3 ti tp n ((ti ty).getD default).cty cs).1, (A3 ti tp n ((ti ty).getD default).cty cs).2) := rfl
theorem Sq {ti : Nat → Option TI} {tp : Nat → Option (List Nat)} {n ty : Nat} {cs : List AV} : B7 ti tp n ty (.tup cs) = (.tup (A3 ti tp n ((tp ty).getD []) cs).1, (A3 ti tp n ((tp ty).getD []) cs).2) := rfl
theorem Sd {H : Ad} {d id off n z : Nat} : Dz H (d + 1) (.sl id off n z) = (Bc H id off (n * z)).bind fun cs => (cs.mapM (Dz H d)).bind fun vs => some (.ro n vs) := rfl
theorem Nd {H : Ad} {d : Nat} {cs : List AV} : Dz H (d + 1) (.agg cs) = (cs.mapM (Dz H d)).bind fun vs => some (.agg vs) := rfl
theorem AgQ {H : Ad} {d n : Nat} {cs : List AV} : Dz H (d + 1) (.ro n cs) = some (.ro n cs) := rfl
theorem Acy {H : Ad} {d : Nat} : ∀ (l : List Value), (l.map AV.sc).mapM (Dz H (d + 1)) = some (l.map AV.sc)
 | [] => rfl
 | x :: l => by
  have e : Dz H (d + 1) (.sc x) = some (.sc x) := rfl
  simp only [zaq, zaG, e, zbb, zaM, zac, Acy l]
theorem Ac1 {ti : Nat → Option TI} {tp : Nat → Option (List Nat)} {H : Ad} {d : Nat} : ∀ (ts : List Nat) (l : List Value), ts.length = l.length → Es (Dk ti tp H (d + 1)) ts (l.map AV.sc) = some (l.map AV.sc, [])
 | [], [], _ => rfl
 | t :: ts, x :: l, h => by
  have e : Dk ti tp H (d + 1) t (.sc x) = some (.sc x, []) := rfl
  simp only [zaq, Es, e, zac, Ac1 ts l (by simpa using h), zan]
 | [], _ :: _, h => by simp at h
 | _ :: _, [], h => by simp at h
def bv (s : ByteArray) : List Value := s.data.toList.map fun b => .int .u8 b.toNat
theorem AaT (s : ByteArray) : Bl s = (bv s).map AV.sc := by simp [Bl, bv]
theorem Fa (s : ByteArray) : (Bl s).length = s.size := by simp [Bl]
theorem Yk (s : ByteArray) : (Bl s).all Bn = true := by
 simp only [Bl, List.all_map, za7]
 intro b _
 rfl
theorem Kz : ∀ (l : List UInt8), (l.map fun b => AV.sc (.int .u8 (b.toNat : Int))).mapM Kn = some l
 | [] => rfl
 | b :: l => by
  have e : Kn (.sc (.int .u8 (b.toNat : Int))) = some b := by simp [Kn]
  simp only [zaq, zaG, e, Kz l, zbb, zaM, zac]
end
section
open Go
section gen
variable {ti : Nat → Option TI} {tp : Nat → Option (List Nat)}
def Hb (f : Nat → AV → Prop) : List Nat → List AV → Prop
 | [], [] => True
 | t :: ts, x :: xs => f t x ∧ Hb f ts xs
 | _, _ => False
def I1 (ti : Nat → Option TI) (tp : Nat → Option (List Nat)) : Nat → Nat → AV → Prop
 | 0, _, _ => False
 | d + 1, ty, x =>
  match x with
  | .sc _ => True
  | .ro n cells => ∃ i j, ti ty = some i ∧ ti i.elem = some j ∧ cells.length = n * j.size ∧ Hb (I1 ti tp d) (zaj n j.cty).flatten cells
  | .agg cs => ∃ i, ti ty = some i ∧ Hb (I1 ti tp d) i.cty cs
  | .tup cs => ∃ ts, tp ty = some ts ∧ Hb (I1 ti tp d) ts cs
  | _ => False
theorem Aax {f : Nat → AV → Prop} : ∀ {ts : List Nat} {cs : List AV}, Hb f ts cs → ts.length = cs.length
 | [], [], _ => rfl
 | _ :: ts, _ :: cs, h => by rw [zao, zao, Aax h.2]
theorem O9 {f : Nat → AV → Prop} : ∀ {ts : List Nat} {cs : List AV} {ts' : List Nat} {cs' : List AV}, Hb f ts cs → Hb f ts' cs' → Hb f (ts ++ ts') (cs ++ cs')
 | [], [], _, _, _, h => h
 | _ :: ts, _ :: cs, _, _, h, h' => ⟨h.1, O9 h.2 h'⟩
theorem Sx {α : Type} {f : Nat → AV → Prop} {cty : List Nat} {enc : α → List AV} : ∀ (l : List α), (∀ x ∈ l, Hb f cty (enc x)) → Hb f (zaj l.length cty).flatten (l.map enc).flatten
 | [], _ => by simp [Hb]
 | x :: l, h => by
  rw [zao, zbf, za1, zaq, za1]
  exact O9 (h x zax) (Sx l fun y hy => h y (zau _ hy))
theorem Pa {f g : Nat → AV → Prop} (hfg : ∀ t x, f t x → g t x) : ∀ {ts : List Nat} {cs : List AV}, Hb f ts cs → okL g ts cs
 | [], [], _ => trivial
 | _ :: ts, _ :: cs, h => ⟨hfg _ _ h.1, Pa hfg h.2⟩
theorem Pc : ∀ (d : Nat) (ty : Nat) (x : AV), I1 ti tp d ty x → Aaz ti tp d ty x
 | 0, _, _, h => h
 | d + 1, ty, x, h => by
  cases x with
  | sc v => trivial
  | ro n cells =>
   obtain ⟨i, j, h1, h2, h3, h4⟩ := h
   show cells.length = n * (((ti ty).bind fun i => ti i.elem).getD default).size ∧ _
   simp only [h1, zac, h2, zaJ]
   exact ⟨h3, Pa (Pc d) h4⟩
  | agg cs =>
   obtain ⟨i, h1, h2⟩ := h
   show okL _ ((ti ty).getD default).cty cs
   rw [h1]
   exact Pa (Pc d) h2
  | tup cs =>
   obtain ⟨ts, h1, h2⟩ := h
   show okL _ ((tp ty).getD []) cs
   rw [h1]
   exact Pa (Pc d) h2
  | _ => cases h
theorem Sz {H : Ad} {d : Nat} (hd : ∀ ty t N, I1 ti tp d ty t → Lies H N (B7 ti tp N ty t).2 → (∀ b ∈ (B7 ti tp N ty t).2, b.live = true ∧ b.app = true) → Dk ti tp H d ty (B7 ti tp N ty t).1 = some (t, List.range' N (B7 ti tp N ty t).2.length)) :
  ∀ (ts : List Nat) (cs : List AV) (N : Nat), Hb (I1 ti tp d) ts cs → Lies H N (A3 ti tp N ts cs).2 → (∀ b ∈ (A3 ti tp N ts cs).2, b.live = true ∧ b.app = true) → Es (Dk ti tp H d) ts (A3 ti tp N ts cs).1 = some (cs, List.range' N (A3 ti tp N ts cs).2.length)
 | [], [], N, _, _, _ => rfl
 | t :: ts, x :: cs, N, h, hl, hb => by
  simp only [A3, List.headD_cons, List.tail_cons] at hl hb ⊢
  have h1 := hd t x N h.1 hl.left fun b hb' => hb b (zaD _ hb')
  have h2 := Sz hd ts cs _ h.2 hl.right fun b hb' => hb b (zaL _ hb')
  have e := List.range'_append (s := N) (m := (B7 ti tp N t x).2.length) (n := (A3 ti tp (N + (B7 ti tp N t x).2.length) ts cs).2.length) (step := 1)
  rw [Nat.one_mul] at e
  simp only [Es, h1, h2, zac, zae, e]
mutual
theorem AdS : ∀ (x : AV) (N ty : Nat), ∀ b ∈ (B7 ti tp N ty x).2, b.live = true ∧ b.app = true
 | .sc v, N, ty => by intro b h; cases h
 | .ro n cells, N, ty => by
  intro b h
  simp only [B7, zbG] at h
  rcases h with rfl | h
  ·exact ⟨rfl, rfl⟩
  ·exact H4 cells _ _ b h
 | .agg cs, N, ty => fun b h => H4 cs _ _ b h
 | .tup cs, N, ty => fun b h => H4 cs _ _ b h
 | .any, N, ty => by intro b h; cases h
 | .nl, N, ty => by intro b h; cases h
 | .sl .., N, ty => by intro b h; cases h
 | .ptr .., N, ty => by intro b h; cases h
 | .rp .., N, ty => by intro b h; cases h
 | .fn .., N, ty => by intro b h; cases h
theorem H4 : ∀ (cs : List AV) (N : Nat) (ts : List Nat), ∀ b ∈ (A3 ti tp N ts cs).2, b.live = true ∧ b.app = true
 | [], N, ts => by intro b h; cases h
 | x :: cs, N, ts => by
  intro b h
  simp only [A3, zaR] at h
  rcases h with h | h
  ·exact AdS x _ _ b h
  ·exact H4 cs _ _ b h
end
theorem Rz {H : Ad} : ∀ (d ty : Nat) (t : AV) (N : Nat), I1 ti tp d ty t → Lies H N (B7 ti tp N ty t).2 → Dk ti tp H d ty (B7 ti tp N ty t).1 = some (t, List.range' N (B7 ti tp N ty t).2.length)
 | 0, _, _, _, h, _ => by cases h
 | d + 1, ty, t, N, h, hl => by
  have ih := Sz (H := H) (d := d) (ti := ti) (tp := tp) (fun ty t N h h' _ => Rz d ty t N h h')
  cases t with
  | sc v => rfl
  | ro n cells =>
   obtain ⟨i, j, h1, h2, h3, h4⟩ := h
   have e : B7 ti tp N ty (.ro n cells) = (.sl N 0 n j.size, ⟨(A3 ti tp (N + 1) (zaj n j.cty).flatten cells).1, true, true⟩ :: (A3 ti tp (N + 1) (zaj n j.cty).flatten cells).2) := by
    simp only [B7, h1, zac, h2, zaJ]
   rw [e] at hl ⊢
   have hb := hl 0 _ rfl
   rw [zaO] at hb
   have hv := ih (zaj n j.cty).flatten cells (N + 1) h4 hl.tail (H4 _ _ _)
   have hlen := I7 (ti := ti) (tp := tp) (N + 1) (zaj n j.cty).flatten cells
   have e2 : Bc H N 0 (n * j.size) = some (A3 ti tp (N + 1) (zaj n j.cty).flatten cells).1 := by
    simp only [Bc, hb, if_true, zaT, za2]
    rw [if_pos (by rw [hlen, h3]; exact zam _), ← h3, ← hlen, zaK]
   have e3 : Jz H N = true := by simp only [Jz, hb]
   rw [Jm]
   simp only [h1, h2, zac, if_true, e2, e3, hv, zao]
   rw [List.range'_succ]
  | agg cs =>
   obtain ⟨i, h1, h2⟩ := h
   have e : B7 ti tp N ty (.agg cs) = (.agg (A3 ti tp N i.cty cs).1, (A3 ti tp N i.cty cs).2) := by rw [Sp, h1]; rfl
   rw [e] at hl ⊢
   rw [Jl]
   simp only [h1, zac, ih i.cty cs N h2 hl (H4 _ _ _)]
  | tup cs =>
   obtain ⟨ts, h1, h2⟩ := h
   have e : B7 ti tp N ty (.tup cs) = (.tup (A3 ti tp N ts cs).1, (A3 ti tp N ts cs).2) := by rw [Sq, h1]; rfl
   rw [e] at hl ⊢
   rw [Kk]
   simp only [h1, zac, ih ts cs N h2 hl (H4 _ _ _)]
  | _ => cases h
theorem Ye (A B X : List Jb) : Lies (A ++ B ++ X) A.length B := fun j b hj => by
 have hlt := (zad.1 hj).1
 rw [zaf, zah (by omega), Nat.add_sub_cancel_left, zai hlt]
 exact hj
theorem Q1 (A B : List Jb) : Lies (A ++ B) A.length B := by
 have := Ye A B []
 rwa [zan] at this
theorem AiG (A : List Jb) (ty : Nat) (t : AV) (h : I1 ti tp 8 ty t) : Bf ti tp ty (A ++ (B7 ti tp A.length ty t).2) (B7 ti tp A.length ty t).1 = some t := by
 rw [Bf, Rz 8 ty t A.length h (Q1 _ _)]
 simp only [zac]
 rw [if_pos (List.nodup_range')]
def Vw (H : Ad) (x v : AV) : Prop := ∀ X : List Jb, Dz (H ++ X) 8 x = some v
theorem Vw.grow {H : Ad} {x v : AV} (h : Vw H x v) (X : List Jb) : Vw (H ++ X) x v := fun Y => by
 rw [zaf]
 exact h _
theorem Vw.now {H : Ad} {x v : AV} (h : Vw H x v) : Dz H 8 x = some v := by
 have := h []
 rwa [zan] at this
theorem Jd (H : Ad) (v : Value) : Vw H (.sc v) (.sc v) := fun _ => rfl
theorem Ih (H : Ad) (n : Nat) (cs : List AV) : Vw H (.ro n cs) (.ro n cs) := fun _ => rfl
def Mq : AV → Bool
 | .sc v => Og v
 | .ro _ _ => true
 | _ => false
theorem Ail {cs : List AV} (h : cs.all Mq = true) : cs.all Bn = true := by
 rw [za7] at h ⊢
 intro x hx
 have := h x hx
 cases x <;> simp_all [Mq, Bn]
theorem Aaj {cs : List AV} (h : cs.all Mq = true) : Ft (.agg cs) = some cs := by
 show (if cs.all Bn then some cs else none) = _
 rw [if_pos (Ail h)]
theorem Yu {H : Ad} {d : Nat} : ∀ {cs : List AV}, cs.all Mq = true → cs.mapM (Dz H (d + 1)) = some cs
 | [], _ => rfl
 | x :: cs, h => by
  rw [zap, zag] at h
  have e : Dz H (d + 1) x = some x := by
   have := h.1
   cases x <;> first | rfl | (exfalso; simp [Mq] at this)
  simp only [zaG, e, Yu h.2, zbb, zaM, zac]
theorem Aem (H : Ad) {cs : List AV} (h : cs.all Mq = true) : Vw H (.agg cs) (.agg cs) := fun X => by
 rw [Nd, Yu h]
 rfl
theorem Qv : ∀ (cs : List AV) (N : Nat) (ts : List Nat), cs.all Mq = true → (A3 ti tp N ts cs).1.all Bn = true
 | [], _, _, _ => rfl
 | x :: cs, N, ts, h => by
  rw [zap, zag] at h
  simp only [A3, zap, zag]
  refine ⟨?_, Qv cs _ _ h.2⟩
  have := h.1
  cases x <;> first | exact this | rfl | (exfalso; simp [Mq] at this)
theorem Jj : ∀ (ts : List Nat) (cs : List AV) (ts' : List Nat) (cs' : List AV) (N : Nat), ts.length = cs.length →
  A3 ti tp N (ts ++ ts') (cs ++ cs') = ((A3 ti tp N ts cs).1 ++ (A3 ti tp (N + (A3 ti tp N ts cs).2.length) ts' cs').1, (A3 ti tp N ts cs).2 ++ (A3 ti tp (N + (A3 ti tp N ts cs).2.length) ts' cs').2)
 | [], [], ts', cs', N, _ => by simp [A3]
 | t :: ts, x :: cs, ts', cs', N, h => by
  have ih := Jj ts cs ts' cs' (N + (B7 ti tp N t x).2.length) (by simpa using h)
  simp only [zaz, A3, List.headD_cons, List.tail_cons, ih, zae, zaf, zaE]
end gen
section ops
variable {β : Type}
theorem Nz (w len : Nat) (cells : List AV) (i : Nat) (k : AV → Option β) (h : i < len) (h2 : i * w < cells.length) : D7 w (.ro len cells) (.sc (.int .i64 i)) k = k (.rp (cells.drop (i * w))) := by
 simp only [D7, asI, zac, zbq]
 rw [if_pos ⟨by omega, by omega⟩, if_pos h2]
theorem Yz (w len id off : Nat) (i : Nat) (k : AV → Option β) (h : i < len) : D7 w (.sl id off len w) (.sc (.int .i64 i)) k = k (.ptr id (off + i * w)) := by
 simp only [D7, asI, zac, zbq, if_true]
 rw [if_pos ⟨by omega, by omega⟩]
theorem Aaq (w : Nat) (cs r : List AV) (H : Ad) (k : AV → Option β) (h : cs.length = w) : C3 true w (.rp (cs ++ r)) H k = k (.agg cs) := by
 simp only [C3, zae, h, Nat.le_add_right, if_true, zb9 h]
theorem O5 (c : AV) (r : List AV) (H : Ad) (k : AV → Option β) : C3 false 1 (.rp (c :: r)) H k = k c := by
 simp only [C3, zao, Nat.le_add_left, if_true, zaa, if_false]
 rfl
theorem Ac6 (w id off : Nat) (y : AV) (b : Jb) (cs : List AV) (H : Ad) (k : Ad → Option β) (h : H[id]? = some b) (hc : Ft y = some cs) (hl : cs.length = w) (ho : off + w ≤ b.cells.length) (hb : b.live = true) : G8 w (.ptr id off) y H k = k (H.set id { b with cells := Gx b.cells off cs }) := by
 simp only [G8, h, hc, zac, hb, if_true, hl, ho]
theorem Wn (A z C cs : List AV) (h : z.length = cs.length) : Gx (A ++ (z ++ C)) A.length cs = A ++ (cs ++ C) := by
 unfold Gx
 rw [zb9 rfl, ← zaf A z C, za3 (by rw [zae]; omega), ← h, ← zae, zaU, zal, zaf]
theorem Hj (a b : Nat) (k : AV → Option β) : Cs .lss (.sc (.int .i64 a)) (.sc (.int .i64 b)) k = k (.sc (.bool (decide (a < b)))) := by
 show k (.sc (.bool (decide ((a : Int) < (b : Int))))) = _
 rw [show decide ((a : Int) < (b : Int)) = decide (a < b) from by simp]
theorem Hi (a : Nat) (k : AV → Option β) (h : a < 9223372036854775807) : Cs .add (.sc (.int .i64 a)) (.sc (.int .i64 1)) k = k (.sc (.int .i64 (a + 1 : Nat))) := by
 show k (.sc (.int .i64 (IntKind.i64.wrap ((a : Int) + 1)))) = _
 have e : IntKind.i64.wrap ((a : Int) + 1) = ((a + 1 : Nat) : Int) := by
  rw [IntKind.wrap_i64, Int.natCast_add]
  simp only [Int.cast_ofNat_Int]
  omega
 rw [e]
theorem Dv (b : Bool) (x y : Option β) : Em (.sc (.bool b)) x y = if b then x else y := rfl
theorem Gi (n : Nat) (cs : List AV) (k : AV → Option β) : Jo (.ro n cs) k = k (.sc (.int .i64 n)) := rfl
theorem H9 (n : Int) (h0 : -9223372036854775808 ≤ n) (h1 : n ≤ 9223372036854775807) : IntKind.i64.wrap n = n := by
 rw [IntKind.wrap_i64]; omega
theorem Wp (a b : Int) (k : AV → Option β) (h0 : -9223372036854775808 ≤ a - b) (h1 : a - b ≤ 9223372036854775807) : Cs .sub (.sc (.int .i64 a)) (.sc (.int .i64 b)) k = k (.sc (.int .i64 (a - b))) := by
 show k (.sc (.int .i64 (IntKind.i64.wrap (a - b)))) = _
 rw [H9 _ h0 h1]
theorem Rr (a b : Int) (k : AV → Option β) : Cs .lss (.sc (.int .i64 a)) (.sc (.int .i64 b)) k = k (.sc (.bool (decide (a < b)))) := rfl
theorem AcL {α : Type} {w : Nat} {enc : α → List AV} (hw : ∀ x, (enc x).length = w) (pre r : List α) : ((pre ++ r).map enc).flatten.drop (pre.length * w) = (r.map enc).flatten := by
 have hl : ((pre.map enc).flatten).length = pre.length * w := by
  induction pre with
  | nil => simp
  | cons x pre ih => rw [zaq, za1, zae, ih, hw, zao, zbv, zbF]
 rw [za4, zb2, za3 (by omega), ← hl, zaU, zal]
theorem Aa9 {α : Type} {w : Nat} {enc : α → List AV} (hw : ∀ x, (enc x).length = w) (l : List α) : ((l.map enc).flatten).length = l.length * w := by
 induction l with
 | nil => simp
 | cons x l ih => rw [zaq, za1, zae, ih, hw, zao, zbv, zbF]
theorem AbW {α : Type} {w : Nat} {enc : α → List AV} (hw : ∀ x, (enc x).length = w) (h0 : 0 < w) (pre : List α) (x : α) (r : List α) (k : AV → Option β) :
  D7 w (.ro (pre ++ x :: r).length ((pre ++ x :: r).map enc).flatten) (.sc (.int .i64 pre.length)) k = k (.rp (enc x ++ (r.map enc).flatten)) := by
 have hl := Aa9 hw (pre ++ x :: r)
 have h1 : pre.length < (pre ++ x :: r).length := by simp
 rw [Nz w _ _ pre.length k h1 (by rw [hl]; exact Nat.mul_lt_mul_of_pos_right h1 h0), AcL hw pre (x :: r), zaq, za1]
theorem Xk {α : Type} {n : Nat} (e : α → Value) (k : KO β) (z : AV) (hlf : ∀ x, Og (e x) = true) (L : Nat → AV → AV → KO β)
  (hL : ∀ m a o i H, L (m + 1) a o i H = Jo a fun t10 => Cs .lss i t10 fun t11 => Em t11 (D7 1 a i fun t18 => C3 false 1 t18 H fun t19 => D7 1 o i fun t21 => G8 1 t21 t19 H fun H => Cs .add i (.sc (.int .i64 1)) fun t13 => L m a o t13 H) (k o H))
  (l : List α) (hlen : l.length ≤ 1048576) : ∀ (r pre : List α) (m : Nat), l = pre ++ r → r.length < m →
   L m (.ro l.length (l.map fun x => .sc (e x))) (.sl 0 0 l.length 1) (.sc (.int .i64 pre.length)) [⟨(pre.map fun x => .sc (e x)) ++ zaj r.length z, true, true⟩]
    = k (.sl 0 0 l.length 1) [⟨l.map fun x => .sc (e x), true, true⟩]
 | [], pre, m + 1, hl, hm => by
  rw [zan] at hl
  subst hl
  rw [hL, Gi, Hj, Dv]
  simp
 | x :: r, pre, m + 1, hl, hm => by
  have hlt : pre.length < l.length := by rw [hl]; simp
  rw [hL, Gi, Hj, Dv, if_pos (by simpa using hlt)]
  rw [Nz 1 _ _ pre.length _ hlt (by simpa using hlt)]
  have hd : (l.map fun x => AV.sc (e x)).drop (pre.length * 1) = .sc (e x) :: r.map fun x => .sc (e x) := by
   rw [zbx, hl, za4, za3 (by simp)]
   rw [show pre.length = (pre.map fun x => AV.sc (e x)).length by simp, zaU]
   rfl
  rw [hd, O5, Yz 1 _ _ _ _ _ hlt]
  have hc : Ft (.sc (e x)) = some [.sc (e x)] := by
   show Ft (.sc (e x)) = _
   simp only [Ft, Bn, hlf, if_true]
  rw [Ac6 1 0 (0 + pre.length * 1) (.sc (e x)) ⟨(pre.map fun x => .sc (e x)) ++ zaj (x :: r).length z, true, true⟩ [.sc (e x)] _ _ rfl hc rfl (by simp) rfl]
  rw [List.set_cons_zero, Hi _ _ (by omega)]
  have ih := Xk (n := n) e k z hlf L hL l hlen r (pre ++ [x]) m (by rw [hl]; simp) (by simpa using hm)
  have e3 : Gx ((pre.map fun x => AV.sc (e x)) ++ zaj (x :: r).length z) (0 + pre.length * 1) [.sc (e x)] = ((pre ++ [x]).map fun x => AV.sc (e x)) ++ zaj r.length z := by
   have := Wn (pre.map fun x => AV.sc (e x)) [z] (zaj r.length z) [.sc (e x)] rfl
   rw [List.length_map] at this
   rw [zao, zbf, za2, zbx]
   refine this.trans ?_
   simp
  simp only [e3]
  rw [zae, zas] at ih
  exact ih
theorem Ajb {α : Type} {n tyS f bytes : Nat} (e : α → Value) (z : AV) (hlf : ∀ x, Og (e x) = true) (hty : ∃ i j, Au tyS = some i ∧ Au i.elem = some j ∧ j.size = 1 ∧ j.cty.length = 1) (L : (AV → Ad → Option AV) → Nat → AV → AV → AV → Ad → Option AV)
  (hL : ∀ k m a o i H, L k (m + 1) a o i H = Jo a fun t10 => Cs .lss i t10 fun t11 => Em t11 (D7 1 a i fun t18 => C3 false 1 t18 H fun t19 => D7 1 o i fun t21 => G8 1 t21 t19 H fun H => Cs .add i (.sc (.int .i64 1)) fun t13 => L k m a o t13 H) (k o H))
  (hF : ∀ a H k, Ej E0 (n + 1) AV f [a] H k = Jo a fun t6 => X7 1 bytes [z] t6 t6 H fun t7 H => L k n a t7 (.sc (.int .i64 0)) H)
  (hby : bytes ≤ 134217728) (l : List α) (hlen : l.length ≤ 1048576) (hn : 1048576 < n) :
  Dd E0 (n + 1) tyS f [.ro l.length (l.map fun x => .sc (e x))] = some (.ro l.length (l.map fun x => .sc (e x))) := by
 rw [Bd, hF, Gi]
 have hb : l.length * bytes ≤ 140737488355328 := za5 (Nat.mul_le_mul hlen hby) (by decide)
 have hz : (zaj l.length [z]).flatten = zaj l.length z := by
  generalize l.length = m
  induction m with
  | zero => rfl
  | succ m ih => rw [zbf, za1, ih, zbf]; rfl
 simp only [X7, asI, zac, if_true, zbq, hb, Int.natCast_nonneg, Hm, zav, zal, hz]
 have key := Xk (n := n) e (fun x H => Bf Au E0.tp tyS H x) z hlf _ (hL _) l hlen l [] n (by simp) (by omega)
 simp only [zav, zaC, zal, zaV] at key
 refine key.trans ?_
 obtain ⟨i, j, h1, h2, h3, h4⟩ := hty
 have em : (l.map fun x => AV.sc (e x)) = (l.map e).map AV.sc := by rw [zbJ]; rfl
 have hl1 : (zaj l.length j.cty).flatten.length = (l.map e).length := by simp [h4]
 have e3 := Ac1 (ti := Au) (tp := E0.tp) (H := [⟨l.map fun x => AV.sc (e x), true, true⟩]) (d := 6) _ _ hl1
 have e2 : Bc [⟨l.map fun x => AV.sc (e x), true, true⟩] 0 0 (l.length * 1) = some (l.map fun x => AV.sc (e x)) := by
  simp [Bc, List.take_of_length_le]
 rw [Bf, Jm]
 simp only [h1, h2, h3, zac, if_true, e2, Jz, zbn]
 rw [em] at e3 ⊢
 rw [e3]
 rfl
theorem AbY {α : Type} {n tb g w : Nat} (enc : α → List AV) (k : KO β) (hw : ∀ x, (enc x).length = w) (h0 : 0 < w) (hfl : ∀ x, (enc x).all Mq = true) (hh : Fx g = false) (L : Nat → AV → AV → KO β)
  (hL : ∀ m a b i H, L (m + 1) a b i H = Jo a fun t13 => Cs .lss i t13 fun t14 => Em t14 (D7 w a i fun t19 => C3 true w t19 H fun t20 => D7 w b i fun t23 => C3 true w t23 H fun t24 => (PR n β).call tb (.fn g [] []) [t20, t24] H fun t25 H => pUn .not t25 fun t26 => Em t26 (k (.sc (.bool false)) H) (Cs .add i (.sc (.int .i64 1)) fun t16 => L m a b t16 H)) (k (.sc (.bool true)) H))
  (l : List α) (heq : ∀ x ∈ l, Dd E0 n tb g [.agg (enc x), .agg (enc x)] = some (.sc (.bool true))) (hlen : l.length ≤ 1048576) (H : Ad) : ∀ (r pre : List α) (m : Nat), l = pre ++ r → r.length < m →
   L m (.ro l.length (l.map enc).flatten) (.ro l.length (l.map enc).flatten) (.sc (.int .i64 pre.length)) H = k (.sc (.bool true)) H
 | [], pre, m + 1, hl, hm => by
  rw [zan] at hl
  subst hl
  rw [hL, Gi, Hj, Dv]
  simp
 | x :: r, pre, m + 1, hl, hm => by
  have hlt : pre.length < l.length := by rw [hl]; simp
  rw [hL, Gi, Hj, Dv, if_pos (by simpa using hlt)]
  have hel := fun k => AbW (β := β) hw h0 pre x r k
  rw [← hl] at hel
  rw [hel, Aaq w _ _ _ _ (hw x), hel, Aaq w _ _ _ _ (hw x)]
  rw [Jc (vs := [.agg (enc x), .agg (enc x)]) hh (by simp only [zaG, (Aem _ (hfl x)).now]; rfl) (heq x (by rw [hl]; simp))]
  rw [G7]
  simp only [pUn, zaw, zan]
  rw [Dv, if_neg (by simp), Hi _ _ (by omega)]
  have ih := AbY enc k hw h0 hfl hh L hL l heq hlen H r (pre ++ [x]) m (by rw [hl]; simp) (by simpa using hm)
  rw [zae, zas] at ih
  exact ih
theorem Ru (a b : Nat) (k : AV → Option β) : Cs .neq (.sc (.int .i64 a)) (.sc (.int .i64 b)) k = k (.sc (.bool (decide (a ≠ b)))) := by
 show k (.sc (.bool ((a : Int) != (b : Int)))) = _
 congr 3
 by_cases h : a = b
 ·subst h; simp
 ·simp [bne, h]; omega
theorem Ae2 {α : Type} {n tb f g w : Nat} (enc : α → List AV) (hw : ∀ x, (enc x).length = w) (h0 : 0 < w) (hfl : ∀ x, (enc x).all Mq = true) (hh : Fx g = false) (L : (AV → Ad → Option AV) → Nat → AV → AV → AV → Ad → Option AV)
  (hL : ∀ k m a b i H, L k (m + 1) a b i H = Jo a fun t13 => Cs .lss i t13 fun t14 => Em t14 (D7 w a i fun t19 => C3 true w t19 H fun t20 => D7 w b i fun t23 => C3 true w t23 H fun t24 => (PR n AV).call tb (.fn g [] []) [t20, t24] H fun t25 H => pUn .not t25 fun t26 => Em t26 (k (.sc (.bool false)) H) (Cs .add i (.sc (.int .i64 1)) fun t16 => L k m a b t16 H)) (k (.sc (.bool true)) H))
  (hF : ∀ a b H k, Ej E0 (n + 1) AV f [a, b] H k = Jo a fun t7 => Jo b fun t9 => Cs .neq t7 t9 fun t10 => Em t10 (k (.sc (.bool false)) H) (L k n a b (.sc (.int .i64 0)) H))
  (l : List α) (heq : ∀ x ∈ l, Dd E0 n tb g [.agg (enc x), .agg (enc x)] = some (.sc (.bool true))) (hlen : l.length ≤ 1048576) (hn : 1048576 < n) (tb' : Nat) :
  Dd E0 (n + 1) tb' f [.ro l.length (l.map enc).flatten, .ro l.length (l.map enc).flatten] = some (.sc (.bool true)) := by
 rw [Bd, hF, Gi, Gi, Ru, Dv, if_neg (by simp)]
 have key := AbY (n := n) (tb := tb) (g := g) enc (fun x H => Bf Au E0.tp tb' H x) hw h0 hfl hh (L fun x H => Bf Au E0.tp tb' H x) (hL fun x H => Bf Au E0.tp tb' H x) l heq hlen [] l [] n (by simp) (by omega)
 simp only [zav, zaV] at key
 rw [key]
 rfl
theorem Aac {α : Type} {n : Nat} (e : α → Value) (k : KO β) (hne : ∀ (x : α) (γ : Type) (k : AV → Option γ), Cs .neq (.sc (e x)) (.sc (e x)) k = k (.sc (.bool false))) (L : Nat → AV → AV → KO β)
  (hL : ∀ m a b i H, L (m + 1) a b i H = Jo a fun t13 => Cs .lss i t13 fun t14 => Em t14 (D7 1 a i fun t19 => C3 false 1 t19 H fun t20 => D7 1 b i fun t23 => C3 false 1 t23 H fun t24 => Cs .neq t20 t24 fun t25 => Em t25 (k (.sc (.bool false)) H) (Cs .add i (.sc (.int .i64 1)) fun t16 => L m a b t16 H)) (k (.sc (.bool true)) H))
  (l : List α) (hlen : l.length ≤ 1048576) (H : Ad) : ∀ (r pre : List α) (m : Nat), l = pre ++ r → r.length < m →
   L m (.ro l.length (l.map fun x => .sc (e x))) (.ro l.length (l.map fun x => .sc (e x))) (.sc (.int .i64 pre.length)) H = k (.sc (.bool true)) H
 | [], pre, m + 1, hl, hm => by
  rw [zan] at hl
  subst hl
  rw [hL, Gi, Hj, Dv]
  simp
 | x :: r, pre, m + 1, hl, hm => by
  have hlt : pre.length < l.length := by rw [hl]; simp
  rw [hL, Gi, Hj, Dv, if_pos (by simpa using hlt)]
  have hd : (l.map fun x => AV.sc (e x)).drop (pre.length * 1) = .sc (e x) :: r.map fun x => .sc (e x) := by
   rw [zbx, hl, za4, za3 (by simp)]
   rw [show pre.length = (pre.map fun x => AV.sc (e x)).length by simp, zaU]
   rfl
  rw [Nz 1 _ _ pre.length _ hlt (by simpa using hlt), hd, O5, Nz 1 _ _ pre.length _ hlt (by simpa using hlt), hd, O5, hne, Dv, if_neg (by simp), Hi _ _ (by omega)]
  have ih := Aac (n := n) e k hne L hL l hlen H r (pre ++ [x]) m (by rw [hl]; simp) (by simpa using hm)
  rw [zae, zas] at ih
  exact ih
theorem Yn {α : Type} {n f : Nat} (e : α → Value) (hne : ∀ (x : α) (γ : Type) (k : AV → Option γ), Cs .neq (.sc (e x)) (.sc (e x)) k = k (.sc (.bool false))) (L : (AV → Ad → Option AV) → Nat → AV → AV → AV → Ad → Option AV)
  (hL : ∀ k m a b i H, L k (m + 1) a b i H = Jo a fun t13 => Cs .lss i t13 fun t14 => Em t14 (D7 1 a i fun t19 => C3 false 1 t19 H fun t20 => D7 1 b i fun t23 => C3 false 1 t23 H fun t24 => Cs .neq t20 t24 fun t25 => Em t25 (k (.sc (.bool false)) H) (Cs .add i (.sc (.int .i64 1)) fun t16 => L k m a b t16 H)) (k (.sc (.bool true)) H))
  (hF : ∀ a b H k, Ej E0 (n + 1) AV f [a, b] H k = Jo a fun t7 => Jo b fun t9 => Cs .neq t7 t9 fun t10 => Em t10 (k (.sc (.bool false)) H) (L k n a b (.sc (.int .i64 0)) H))
  (l : List α) (hlen : l.length ≤ 1048576) (hn : 1048576 < n) (tb' : Nat) :
  Dd E0 (n + 1) tb' f [.ro l.length (l.map fun x => .sc (e x)), .ro l.length (l.map fun x => .sc (e x))] = some (.sc (.bool true)) := by
 rw [Bd, hF, Gi, Gi, Ru, Dv, if_neg (by simp)]
 have key := Aac (n := n) e (fun x H => Bf Au E0.tp tb' H x) hne (L fun x H => Bf Au E0.tp tb' H x) (hL fun x H => Bf Au E0.tp tb' H x) l hlen [] l [] n (by simp) (by omega)
 simp only [zav, zaV] at key
 rw [key]
 rfl
def wtL {α : Type} (wt : α → Nat) : List α → Nat
 | [] => 0
 | x :: l => 1 + wt x + wtL wt l
def wtS {α : Type} (wt : α → Nat) : List α → Nat
 | [] => 0
 | x :: l => wt x + wtS wt l
theorem Q0 {α : Type} (wt : α → Nat) : ∀ l : List α, wtL wt l = l.length + wtS wt l
 | [] => rfl
 | x :: l => by rw [wtL, wtS, Q0 wt l, zao]; omega
theorem Zh {α : Type} {wt : α → Nat} : ∀ {l : List α} {x : α}, x ∈ l → wt x ≤ wtS wt l
 | y :: l, x, h => by
  rw [wtS]
  rcases zbG.1 h with rfl | h
  ·omega
  ·have := Zh (wt := wt) h
   omega
end ops
end
section
open Go
variable {β : Type} {n : Nat}
theorem Si (cs : List AV) (H : Ad) (k : KO β) (h : cs.all Mq = true) : W7 (.agg cs) H k = k (.ptr H.length 0) (H ++ [⟨cs, true, true⟩]) := by
 rw [W7, Aaj h]
 rfl
theorem ldT {m id off : Nat} {H : Ad} {cs : List AV} (h : Bc H id off m = some cs) (k : AV → Option β) : C3 true m (.ptr id off) H k = k (.agg cs) := by
 simp only [C3, h, zac, if_true]
theorem ldF {id off : Nat} {H : Ad} {c : AV} (h : Bc H id off 1 = some [c]) (k : AV → Option β) : C3 false 1 (.ptr id off) H k = k c := by
 simp only [C3, h, zac, zaa, if_false, one]
theorem M3 {o : Nat} {H : Ad} {v : Value} {A K r : Option β} (h0 : Bc H 0 o 1 = some [.sc v]) (h1 : Bc H 1 o 1 = some [.sc v]) (hv : ∀ k : AV → Option β, Cs .neq (.sc v) (.sc v) k = k (.sc (.bool false))) (h : K = r) :
  (Kx o (.ptr 0 0) fun t5 => C3 false 1 t5 H fun t6 => Kx o (.ptr 1 0) fun t7 => C3 false 1 t7 H fun t8 => Cs .neq t6 t8 fun t9 => Em t9 A K) = r := by
 simp only [Kx, za2]
 rw [ldF h0, ldF h1, hv, Dv]
 exact h
theorem Aab {o : Nat} {H : Ad} {b : Bool} {A K r : Option β} (h0 : Bc H 0 o 1 = some [.sc (.bool b)]) (h1 : Bc H 1 o 1 = some [.sc (.bool b)]) (h : K = r) :
  (Kx o (.ptr 0 0) fun t5 => C3 false 1 t5 H fun t6 => Kx o (.ptr 1 0) fun t7 => C3 false 1 t7 H fun t8 => Qc .neq t6 t8 fun t9 => Em t9 A K) = r := by
 simp only [Kx, za2]
 rw [ldF h0, ldF h1]
 simp only [Qc, asB, zac, binB, beq_self_eq_true, zaw]
 exact h
theorem Xe {o tb g : Nat} {H : Ad} {len : Nat} {cells : List AV} {A : Ad → Option β} {K : Ad → Option β} {r : Option β} (h0 : Bc H 0 o 1 = some [.ro len cells]) (h1 : Bc H 1 o 1 = some [.ro len cells]) (hh : Fx g = false) (ht : Dd E0 n tb g [.ro len cells, .ro len cells] = some (.sc (.bool true))) (h : K H = r) :
  (Kx o (.ptr 0 0) fun t5 => C3 false 1 t5 H fun t6 => Kx o (.ptr 1 0) fun t7 => C3 false 1 t7 H fun t8 => (PR n β).call tb (.fn g [] []) [t6, t8] H fun t H => pUn .not t fun t9 => Em t9 (A H) (K H)) = r := by
 simp only [Kx, za2]
 rw [ldF h0, ldF h1, Jc (vs := [.ro len cells, .ro len cells]) hh (by simp only [zaG, AgQ]; rfl) ht, G7, zan]
 exact h
theorem N3 (z : Int) (k : AV → Option β) : Cs .neq (.sc (.int .i64 z)) (.sc (.int .i64 z)) k = k (.sc (.bool false)) := by
 show k (.sc (.bool (z != z))) = _
 rw [bne_self_eq_false]
theorem Sv (s : ByteArray) (k : AV → Option β) : Cs .neq (.sc (.string s)) (.sc (.string s)) k = k (.sc (.bool false)) := by
 show k (.sc (.bool (!(s.toList == s.toList)))) = _
 rw [beq_self_eq_true, zaw]
theorem AlW (z : Int) (k : AV → Option β) : Cs .neq (.sc (.int .u8 z)) (.sc (.int .u8 z)) k = k (.sc (.bool false)) := by
 show k (.sc (.bool (z != z))) = _
 rw [bne_self_eq_false]
abbrev Ag (s : ByteArray) : AV := .ro s.size (Bl s)
abbrev El (l : List Int) : AV := .ro l.length (l.map fun z => .sc (.int .i64 z))
abbrev En (l : List ByteArray) : AV := .ro l.length (l.map fun s => .sc (.string s))
abbrev C5 {α : Type} (enc : α → List AV) (l : List α) : AV := .ro l.length (l.map enc).flatten
def okS (s : ByteArray) : Prop := s.size ≤ 9223372036854775807
theorem Xw {f : Nat → AV → Prop} {α : Type} (e : α → Value) (hf : ∀ t v, f t (.sc v)) : ∀ (ts : List Nat) (l : List α), ts.length = l.length → Hb f ts (l.map fun x => .sc (e x))
 | [], [], _ => trivial
 | t :: ts, x :: l, h => ⟨hf _ _, Xw e hf ts l (by simpa using h)⟩
 | [], _ :: _, h => by simp at h
 | _ :: _, [], h => by simp at h
theorem Pb {α : Type} {ty d : Nat} (e : α → Value) (hty : ∃ i j, Au ty = some i ∧ Au i.elem = some j ∧ j.size = 1 ∧ j.cty.length = 1) (l : List α) : I1 Au E0.tp (d + 2) ty (.ro l.length (l.map fun x => .sc (e x))) := by
 obtain ⟨i, j, h1, h2, h3, h4⟩ := hty
 exact ⟨i, j, h1, h2, by simp [h3], Xw e (fun _ _ => trivial) _ l (by simp [h4])⟩
theorem Ic {d ty : Nat} (hty : ∃ i j, Au ty = some i ∧ Au i.elem = some j ∧ j.size = 1 ∧ j.cty.length = 1) (s : ByteArray) : I1 Au E0.tp (d + 2) ty (Ag s) := by
 have := Pb (d := d) (fun b : UInt8 => .int .u8 b.toNat) hty s.data.toList
 have e : s.data.toList.length = s.size := by simp
 rw [e] at this
 exact this
theorem Aa0 {α : Type} {ty d w : Nat} {cty : List Nat} {enc : α → List AV} (hw : ∀ x, (enc x).length = w) (hty : ∃ i j, Au ty = some i ∧ Au i.elem = some j ∧ j.size = w ∧ j.cty = cty) (he : ∀ x, Hb (I1 Au E0.tp d) cty (enc x)) (l : List α) : I1 Au E0.tp (d + 1) ty (C5 enc l) := by
 obtain ⟨i, j, h1, h2, h3, rfl⟩ := hty
 exact ⟨i, j, h1, h2, by rw [Aa9 hw, h3], Sx l fun x _ => he x⟩
theorem Agx {α : Type} {enc : α → List AV} {ok : α → Prop} {n t e : Nat} {cs : List AV} (hi : ∃ i, Au t = some i ∧ i.isB = false ∧ i.ik = none ∧ i.isStr = false ∧ i.sl = true ∧ i.elem = e) (hel : ∀ n cs, okT Au n e cs → ∃ x, cs = enc x ∧ ok x) (h : okT Au n t cs) :
  ∃ l : List α, cs = [C5 enc l] ∧ l.length ≤ 9223372036854775807 ∧ ∀ x ∈ l, ok x := by
 cases n with
 | zero => cases h
 | succ n =>
  obtain ⟨i, h1, h2, h3, h4, h5, rfl⟩ := hi
  obtain ⟨i', hi', h⟩ := h
  rw [h1] at hi'
  obtain rfl := Option.some.inj hi'
  simp only [h2, h3, h4, h5] at h
  obtain ⟨rows, rfl, hl, hr⟩ := h
  have hm : maxLen = 9223372036854775807 := by decide
  rw [hm] at hl
  have key : ∀ rows : List (List AV), (∀ r ∈ rows, okT Au n i.elem r) → ∃ l : List α, rows = l.map enc ∧ ∀ x ∈ l, ok x := by
   intro rows
   induction rows with
   | nil => intro _; exact ⟨[], rfl, fun x h => by cases h⟩
   | cons r rows ih =>
    intro h
    obtain ⟨l, h1, h2⟩ := ih fun r hr => h r (zau _ hr)
    obtain ⟨x, hx, hox⟩ := hel n r (h r zax)
    exact ⟨x :: l, by rw [h1, hx]; rfl, fun y hy => by rcases zbG.1 hy with rfl | hy; exact hox; exact h2 y hy⟩
  obtain ⟨l, rfl, h2⟩ := key rows hr
  exact ⟨l, by simp, by simpa using hl, h2⟩
theorem AdX {n : Nat} {cs : List AV} (h : okT Au n 5 cs) : ∃ b : UInt8, cs = [.sc (.int .u8 b.toNat)] := by
 cases n with
 | zero => cases h
 | succ n =>
  obtain ⟨i, hi, h⟩ := h
  obtain rfl := Option.some.inj (show some _ = some i from hi)
  obtain ⟨z, rfl, hw⟩ := (show ∃ z, cs = [.sc (.int .u8 z)] ∧ (Lit.int .u8 z).wf = true from h)
  have hz : 0 ≤ z ∧ z < 256 := by
   have hw' : IntKind.u8.min ≤ z ∧ z ≤ IntKind.u8.max := by simpa [Lit.wf] using hw
   have e1 : IntKind.u8.min = 0 := by decide
   have e2 : IntKind.u8.max = 255 := by decide
   rw [e1, e2] at hw'
   omega
  refine ⟨UInt8.ofNat z.toNat, ?_⟩
  have : (UInt8.ofNat z.toNat).toNat = z.toNat := by simp [UInt8.toNat_ofNat']; omega
  rw [this, Int.toNat_of_nonneg hz.1]
theorem Re {α : Type} (e : α → AV) (l : List α) : (l.map fun x => [e x]).flatten = l.map e := by
 induction l with
 | nil => rfl
 | cons x l ih => rw [zaq, za1, ih]; rfl
theorem AbB {n t : Nat} {cs : List AV} (hi : ∃ i, Au t = some i ∧ i.isB = false ∧ i.ik = none ∧ i.isStr = false ∧ i.sl = true ∧ i.elem = 5) (h : okT Au n t cs) : ∃ s : ByteArray, cs = [Ag s] ∧ okS s := by
 obtain ⟨l, rfl, h1, _⟩ := Agx (α := UInt8) (enc := fun b => [.sc (.int .u8 b.toNat)]) (ok := fun _ => True) hi (fun n cs h => by obtain ⟨b, h⟩ := AdX h; exact ⟨b, h, trivial⟩) h
 refine ⟨⟨l.toArray⟩, ?_, ?_⟩
 ·rw [C5, Re]
  simp [Ag, Bl]
  rfl
 ·exact h1
end
section
open Go
theorem Ki : ∃ i j, Au 22 = some i ∧ Au i.elem = some j ∧ j.size = 1 ∧ j.cty.length = 1 := ⟨_, _, rfl, rfl, rfl, rfl⟩
theorem P7 (n : Nat) (hn : 1048576 < n) (s : ByteArray) (h : s.size ≤ 1048576) : Dd E0 (n + 1) 22 32 [Ag s] = some (Ag s) := by
 have e : s.data.toList.length = s.size := by simp
 have h0 := Ajb (n := n) (bytes := 1) (fun b : UInt8 => .int .u8 b.toNat) (.sc (.int .u8 0)) (fun _ => rfl) Ki (fun k => U4 (PR n AV) n k) (fun k m a o i H => rfl) (fun a H k => Akb n a H k) (by decide) s.data.toList (by rw [e]; exact h) hn
 rw [e] at h0
 exact h0
theorem Pt (n : Nat) (hn : 1048576 < n) (tb : Nat) (s : ByteArray) (h : s.size ≤ 1048576) : Dd E0 (n + 1) tb 35 [Ag s, Ag s] = some (.sc (.bool true)) := by
 have e : s.data.toList.length = s.size := by simp
 have h0 := Yn (n := n) (fun b : UInt8 => .int .u8 b.toNat) (fun x γ k => AlW _ k) (fun k => U5 (PR n AV) n k) (fun k m a b i H => rfl) (fun a b H k => Ake n a b H k) s.data.toList (by rw [e]; exact h) hn tb
 rw [e] at h0
 exact h0
theorem AgL : ∃ i j, Au 57 = some i ∧ Au i.elem = some j ∧ j.size = 1 ∧ j.cty.length = 1 := ⟨_, _, rfl, rfl, rfl, rfl⟩
theorem Ae0 (n : Nat) (hn : 1048576 < n) (tb : Nat) (s : List Int) (h : s.length ≤ 1048576) : Dd E0 (n + 1) tb 75 [El s, El s] = some (.sc (.bool true)) :=
 Yn (n := n) (fun z : Int => .int .i64 z) (fun x γ k => N3 _ k) (fun k => Vh (PR n AV) n k) (fun k m a b i H => rfl) (fun a b H k => Ak4 n a b H k) s h hn tb
theorem Yc : ∃ i j, Au 56 = some i ∧ Au i.elem = some j ∧ j.size = 1 ∧ j.cty.length = 1 := ⟨_, _, rfl, rfl, rfl, rfl⟩
theorem Aaa (n : Nat) (hn : 1048576 < n) (tb : Nat) (s : List ByteArray) (h : s.length ≤ 1048576) : Dd E0 (n + 1) tb 74 [En s, En s] = some (.sc (.bool true)) :=
 Yn (n := n) (fun s : ByteArray => .string s) (fun x γ k => Sv _ k) (fun k => Vg (PR n AV) n k) (fun k m a b i H => rfl) (fun a b H k => Ak3 n a b H k) s h hn tb
structure WantV where
 fFilter : ByteArray
 fQos : Int
def Bw (x : WantV) : List AV := .sc (.string x.fFilter) :: .sc (.int .i64 x.fQos) :: []
def Kd (x : WantV) : Nat := x.fFilter.size + 0
theorem Gu (x : WantV) : (Bw x).length = 2 := rfl
theorem Vj (x : WantV) : (Bw x).all Mq = true := rfl
def Ym : List Nat := [9, 3]
theorem Acz (d : Nat) (x : WantV) : Hb (I1 Au E0.tp (d + 1)) Ym (Bw x) := ⟨trivial, ⟨trivial, trivial⟩⟩
theorem Ajc : ∃ i j, Au 55 = some i ∧ Au i.elem = some j ∧ j.size = 2 ∧ j.cty = Ym := ⟨_, _, rfl, rfl, rfl, rfl⟩
theorem Ae1 (n : Nat) (hn : 1048576 < n) (tb : Nat) (x : WantV) (h : Kd x ≤ 1048576) : Dd E0 (n + 1) tb 114 [.agg (Bw x), .agg (Bw x)] = some (.sc (.bool true)) := by
 rw [Bd, Ah0, f114]
 simp only [Gw, B6, Ba, A4, Iv, D5, Av]
 rw [Si _ _ _ (Vj x), Si _ _ _ (Vj x)]
 simp only [zav, zal, zao, zaz, za2, Nat.reduceAdd]
 refine M3 (v := .string x.fFilter) rfl rfl (fun k => Sv _ k) ?_
 refine M3 (v := .int .i64 x.fQos) rfl rfl (fun k => N3 _ k) ?_
 rfl
theorem AcM (n : Nat) (hn : 1048576 < n) (tb : Nat) (l : List WantV) (h : wtL Kd l ≤ 1048576) : Dd E0 (n + 2) tb 73 [C5 Bw l, C5 Bw l] = some (.sc (.bool true)) := by
 have e := Q0 Kd l
 exact Ae2 (n := n + 1) Bw Gu (by decide) Vj rfl (fun k => Vf (PR (n + 1) AV) (n + 1) k) (fun k m a b i H => rfl) (fun a b H k => Ak2 (n + 1) a b H k) l (fun x hx => Ae1 n hn _ x (by have := Zh (wt := Kd) hx; omega)) (by omega) (by omega) tb
structure PacketV where
 fType : Int
 fDup : Bool
 fQos : Int
 fRetain : Bool
 fId : Int
 fTopic : ByteArray
 fBody : ByteArray
 fClient : ByteArray
 fLevel : Int
 fClean : Bool
 fKeep : Int
 fHasWill : Bool
 fWTopic : ByteArray
 fWBody : ByteArray
 fWQos : Int
 fWRetain : Bool
 fHasUser : Bool
 fUser : ByteArray
 fHasPass : Bool
 fPass : ByteArray
 fCode : Int
 fPresent : Bool
 fWants : List WantV
 fNames : List ByteArray
 fCodes : List Int
def Ar (x : PacketV) : List AV := .sc (.int .i64 x.fType) :: .sc (.bool x.fDup) :: .sc (.int .i64 x.fQos) :: .sc (.bool x.fRetain) :: .sc (.int .i64 x.fId) :: .sc (.string x.fTopic) :: Ag x.fBody :: .sc (.string x.fClient) :: .sc (.int .i64 x.fLevel) :: .sc (.bool x.fClean) :: .sc (.int .i64 x.fKeep) :: .sc (.bool x.fHasWill) :: .sc (.string x.fWTopic) :: Ag x.fWBody :: .sc (.int .i64 x.fWQos) :: .sc (.bool x.fWRetain) :: .sc (.bool x.fHasUser) :: .sc (.string x.fUser) :: .sc (.bool x.fHasPass) :: Ag x.fPass :: .sc (.int .i64 x.fCode) :: .sc (.bool x.fPresent) :: C5 Bw x.fWants :: En x.fNames :: El x.fCodes :: []
def Ga (x : PacketV) : Nat := x.fTopic.size + (x.fBody.size + (x.fClient.size + (x.fWTopic.size + (x.fWBody.size + (x.fUser.size + (x.fPass.size + (wtL Kd x.fWants + (wtL zbD x.fNames + (x.fCodes.length + 0)))))))))
theorem Gj (x : PacketV) : (Ar x).length = 25 := rfl
theorem Cy (x : PacketV) : (Ar x).all Mq = true := rfl
def M2 : List Nat := [3, 4, 3, 4, 3, 9, 22, 9, 3, 4, 3, 4, 9, 22, 3, 4, 4, 9, 4, 22, 3, 4, 55, 56, 57]
theorem Wt : ∃ i, Au 59 = some i ∧ i.cty = M2 := ⟨_, rfl, rfl⟩
theorem I8 (d : Nat) (x : PacketV) : Hb (I1 Au E0.tp (d + 2)) M2 (Ar x) := ⟨trivial, ⟨trivial, ⟨trivial, ⟨trivial, ⟨trivial, ⟨trivial, ⟨Ic (d := d + 0) Ki x.fBody, ⟨trivial, ⟨trivial, ⟨trivial, ⟨trivial, ⟨trivial, ⟨trivial, ⟨Ic (d := d + 0) Ki x.fWBody, ⟨trivial, ⟨trivial, ⟨trivial, ⟨trivial, ⟨trivial, ⟨Ic (d := d + 0) Ki x.fPass, ⟨trivial, ⟨trivial, ⟨Aa0 (d := d + 1) Gu Ajc (Acz (d + 0)) x.fWants, ⟨Pb (d := d + 0) (fun s : ByteArray => .string s) Yc x.fNames, ⟨Pb (d := d + 0) (fun z : Int => .int .i64 z) AgL x.fCodes, trivial⟩⟩⟩⟩⟩⟩⟩⟩⟩⟩⟩⟩⟩⟩⟩⟩⟩⟩⟩⟩⟩⟩⟩⟩⟩
theorem Qm (n : Nat) (hn : 1048576 < n) (tb : Nat) (x : PacketV) (h : Ga x ≤ 1048576) : Dd E0 (n + 3) tb 34 [.agg (Ar x), .agg (Ar x)] = some (.sc (.bool true)) := by
 rw [Bd, Akd, f34]
 simp only [Gw, B6, Ba, A4, Iv, D5, Av]
 rw [Si _ _ _ (Cy x), Si _ _ _ (Cy x)]
 simp only [zav, zal, zao, zaz, za2, Nat.reduceAdd]
 refine M3 (v := .int .i64 x.fType) rfl rfl (fun k => N3 _ k) ?_
 refine Aab (b := x.fDup) rfl rfl ?_
 refine M3 (v := .int .i64 x.fQos) rfl rfl (fun k => N3 _ k) ?_
 refine Aab (b := x.fRetain) rfl rfl ?_
 refine M3 (v := .int .i64 x.fId) rfl rfl (fun k => N3 _ k) ?_
 refine M3 (v := .string x.fTopic) rfl rfl (fun k => Sv _ k) ?_
 refine Xe rfl rfl rfl (Pt (n + 1) (by omega) _ x.fBody (by unfold Ga at h; omega)) ?_
 refine M3 (v := .string x.fClient) rfl rfl (fun k => Sv _ k) ?_
 refine M3 (v := .int .i64 x.fLevel) rfl rfl (fun k => N3 _ k) ?_
 refine Aab (b := x.fClean) rfl rfl ?_
 refine M3 (v := .int .i64 x.fKeep) rfl rfl (fun k => N3 _ k) ?_
 refine Aab (b := x.fHasWill) rfl rfl ?_
 refine M3 (v := .string x.fWTopic) rfl rfl (fun k => Sv _ k) ?_
 refine Xe rfl rfl rfl (Pt (n + 1) (by omega) _ x.fWBody (by unfold Ga at h; omega)) ?_
 refine M3 (v := .int .i64 x.fWQos) rfl rfl (fun k => N3 _ k) ?_
 refine Aab (b := x.fWRetain) rfl rfl ?_
 refine Aab (b := x.fHasUser) rfl rfl ?_
 refine M3 (v := .string x.fUser) rfl rfl (fun k => Sv _ k) ?_
 refine Aab (b := x.fHasPass) rfl rfl ?_
 refine Xe rfl rfl rfl (Pt (n + 1) (by omega) _ x.fPass (by unfold Ga at h; omega)) ?_
 refine M3 (v := .int .i64 x.fCode) rfl rfl (fun k => N3 _ k) ?_
 refine Aab (b := x.fPresent) rfl rfl ?_
 refine Xe rfl rfl rfl (AcM (n + 0) (by omega) _ x.fWants (by unfold Ga at h; omega)) ?_
 refine Xe rfl rfl rfl (Aaa (n + 1) (by omega) _ x.fNames (by unfold Ga at h; have := Q0 zbD x.fNames; omega)) ?_
 refine Xe rfl rfl rfl (Ae0 (n + 1) (by omega) _ x.fCodes (by unfold Ga at h; omega)) ?_
 rfl
end
section
open Go
variable {β : Type} {n : Nat} {H : Ad} {r : Option β}
theorem Ip : ([] : List AV).mapM (Dz H 8) = some [] := rfl
theorem Dy {x v : AV} {xs vs : List AV} (h : Vw H x v) (hs : xs.mapM (Dz H 8) = some vs) : (x :: xs).mapM (Dz H 8) = some (v :: vs) := by
 simp only [zaG, h.now, hs, zbb, zaM, zac]
theorem G5 {i : Nat} {b : Jb} (h : H[i]? = some b) (X : List Jb) : (H ++ X)[i]? = some b := by
 rw [zai (zad.1 h).1]
 exact h
theorem Rs {i w : Nat} {cs : List AV} {K : AV → Option β} (hi : H[i]? = some ⟨cs, true, true⟩) (hw : cs.length = w) (h : K (.agg cs) = r) : C3 true w (.ptr i 0) H (fun x => K x) = r := by
 have e : Bc H i 0 w = some cs := by
  simp only [Bc, hi, if_true, zaT, za2, ← hw, zam, zaK]
 rw [ldT e]
 exact h
theorem Kw {ty f : Nat} {args vs : List AV} {v : Value} {K : KO β} (hh : Fx f = false) (hv : args.mapM (Dz H 8) = some vs) (ht : Dd E0 n ty f vs = some (.sc v)) (h : K (.sc v) H = r) : (PR n β).call ty (.fn f [] []) args H (fun x H => K x H) = r := by
 rw [Jc hh hv ht, G7, zan]
 exact h
theorem Ajk (a b : Int) (k : AV → Option β) : Cs .eql (.sc (.int .i64 a)) (.sc (.int .i64 b)) k = k (.sc (.bool (a == b))) := rfl
theorem AjE (a b : Int) (k : AV → Option β) : Cs .neq (.sc (.int .i64 a)) (.sc (.int .i64 b)) k = k (.sc (.bool (a != b))) := rfl
theorem Xq (a b : Int) (k : AV → Option β) : Cs .leq (.sc (.int .i64 a)) (.sc (.int .i64 b)) k = k (.sc (.bool (decide (a ≤ b)))) := rfl
theorem AjB (a b : Int) (k : AV → Option β) : Cs .gtr (.sc (.int .i64 a)) (.sc (.int .i64 b)) k = k (.sc (.bool (decide (a > b)))) := rfl
theorem AbR (a b : Int) (k : AV → Option β) : Cs .add (.sc (.int .i64 a)) (.sc (.int .i64 b)) k = k (.sc (.int .i64 (IntKind.i64.wrap (a + b)))) := rfl
theorem AlV (a b : Int) (k : AV → Option β) : Cs .mul (.sc (.int .i64 a)) (.sc (.int .i64 b)) k = k (.sc (.int .i64 (IntKind.i64.wrap (a * b)))) := rfl
theorem AmE (a b : ByteArray) (k : AV → Option β) : Cs .neq (.sc (.string a)) (.sc (.string b)) k = k (.sc (.bool (!(a.toList == b.toList)))) := rfl
theorem AmD (a b : Bool) (k : AV → Option β) : Qc .neq (.sc (.bool a)) (.sc (.bool b)) k = k (.sc (.bool (!(a == b)))) := rfl
theorem Vt (s : ByteArray) (k : AV → Option β) : X3 (.sc (.string s)) k = k (.sc (.int .i64 s.size)) := rfl
theorem Ama (ty : Nat) (H : Ad) (v : Value) : Bf Au E0.tp ty H (.sc v) = some (.sc v) := rfl
end
section
open Go
section
variable {β : Type} {n : Nat} {H : Ad} {r : Option β} {K : AV → Option β} {KH : KO β}
theorem Ac9 {cs : List AV} (hf : cs.all Mq = true) (h : ∀ i, i = H.length → (H ++ [⟨cs, true, true⟩])[i]? = some ⟨cs, true, true⟩ → KH (.ptr i 0) (H ++ [⟨cs, true, true⟩]) = r) : W7 (.agg cs) H (fun x H => KH x H) = r := by
 rw [Si cs H _ hf]
 exact h _ rfl (by rw [zah (zam _), zaZ]; rfl)
theorem A8 {o id off : Nat} (h : K (.ptr id (off + o)) = r) : Kx o (.ptr id off) (fun x => K x) = r := h
theorem C1 {i off : Nat} {cs : List AV} {c : AV} (hi : H[i]? = some ⟨cs, true, true⟩) (hl : off < cs.length) (hc : (cs.drop off).take 1 = [c]) (h : K c = r) : C3 false 1 (.ptr i off) H (fun x => K x) = r := by
 have e : Bc H i off 1 = some [c] := by
  simp only [Bc, hi, if_true]
  rw [if_pos (by omega), hc]
 rw [ldF e]
 exact h
theorem Do {op : BinOp} {x y v : AV} (e : ∀ k : AV → Option β, Cs op x y k = k v) (h : K v = r) : Cs op x y (fun t => K t) = r := (e _).trans h
theorem Iq {op : BinOp} {x y v : AV} (e : ∀ k : AV → Option β, Qc op x y k = k v) (h : K v = r) : Qc op x y (fun t => K t) = r := (e _).trans h
theorem Yd {b : Bool} (h : K (.sc (.bool (!b))) = r) : pUn .not (.sc (.bool b)) (fun t => K t) = r := h
theorem AgU {s : ByteArray} (h : K (.sc (.int .i64 s.size)) = r) : X3 (.sc (.string s)) (fun t => K t) = r := h
theorem Nf {m : Nat} {cs : List AV} (h : K (.sc (.int .i64 m)) = r) : Jo (.ro m cs) (fun t => K t) = r := h
theorem Aa {g : Prop} (b : Bool) (ht : b = true → g) (hf : b = false → g) : g := by
 cases h : b
 ·exact hf h
 ·exact ht h
theorem P9 {b : Bool} {x y : Option β} (hb : b = true) (h : x = r) : Em (.sc (.bool b)) x y = r := by subst hb; exact h
theorem Tc {b : Bool} {x y : Option β} (hb : b = false) (h : y = r) : Em (.sc (.bool b)) x y = r := by subst hb; exact h
theorem A2 {b : Bool} {m : (KO β) → Option β} (hb : b = true) (h : m (fun x H => KH x H) = r) : Jn (.sc (.bool b)) true H m (fun x H => KH x H) = r := by subst hb; exact h
theorem A1 {b : Bool} {m : (KO β) → Option β} (hb : b = false) (h : KH (.sc undef) H = r) : Jn (.sc (.bool b)) true H m (fun x H => KH x H) = r := by subst hb; exact h
theorem Iu {b : Bool} {m : (KO β) → Option β} (hb : b = false) (h : m (fun x H => KH x H) = r) : Jn (.sc (.bool b)) false H m (fun x H => KH x H) = r := by subst hb; exact h
theorem Jv {b : Bool} {m : (KO β) → Option β} (hb : b = true) (h : KH (.sc undef) H = r) : Jn (.sc (.bool b)) false H m (fun x H => KH x H) = r := by subst hb; exact h
theorem Aeh {b : Bool} {x y : AV} (hb : b = true) (h : K x = r) : Oi (.sc (.bool b)) x y (fun t => K t) = r := by
 subst hb
 cases x <;> cases y <;> exact h
theorem AbL {b : Bool} {x y : AV} (hb : b = false) (h : K y = r) : Oi (.sc (.bool b)) x y (fun t => K t) = r := by
 subst hb
 cases x <;> cases y <;> exact h
def Jt {α : Type} (p : α → α → Bool) : List α → List α → Bool
 | x :: a, y :: b => if p x y then Jt p a b else false
 | _, _ => true
theorem Lq {α : Type} {w : Nat} (enc : α → List AV) (hw : ∀ x, (enc x).length = w) (h0 : 0 < w) (pk : α → AV) (LOAD : AV → (AV → Option β) → Option β) (hld : ∀ x rest k, LOAD (.rp (enc x ++ rest)) k = k (pk x)) (NE : AV → AV → (AV → Option β) → Option β) (pr : α → α → Bool) (hne : ∀ x y k, NE (pk x) (pk y) k = k (.sc (.bool (!(pr x y)))))
  (l q : List α) (hlq : l.length = q.length) (hlen : l.length ≤ 1048576) (L : Nat → AV → Option β) (KF KT : Option β)
  (hL : ∀ m i, L (m + 1) i = Cs .lss i (.sc (.int .i64 l.length)) fun t14 => Em t14 (D7 w (C5 enc l) i fun t19 => LOAD t19 fun t20 => D7 w (C5 enc q) i fun t23 => LOAD t23 fun t24 => NE t20 t24 fun t25 => Em t25 KF (Cs .add i (.sc (.int .i64 1)) fun t16 => L m t16)) KT) :
  ∀ (s t pl pq : List α) (m : Nat), l = pl ++ s → q = pq ++ t → pl.length = pq.length → s.length < m → L m (.sc (.int .i64 pl.length)) = if Jt pr s t then KT else KF
 | [], t, pl, pq, m + 1, hl, hq, hpp, hm => by
  rw [zan] at hl
  subst hl
  rw [hL, Hj, Dv]
  cases t <;> simp [Jt]
 | x :: s, [], pl, pq, m + 1, hl, hq, hpp, hm => by
  have h1 := congrArg List.length hl
  have h2 := congrArg List.length hq
  simp only [zae, zao, zav] at h1 h2
  omega
 | x :: s, y :: t, pl, pq, m + 1, hl, hq, hpp, hm => by
  have hlt : pl.length < l.length := by rw [hl]; simp
  rw [hL, Hj, Dv, if_pos (by simpa using hlt)]
  have hel := fun k => AbW (β := β) hw h0 pl x s k
  rw [← hl] at hel
  have heq := fun k => AbW (β := β) hw h0 pq y t k
  rw [← hq, ← hpp] at heq
  rw [hel, hld, heq, hld, hne, Dv, Jt]
  cases hpx : pr x y
  ·simp
  ·simp only [zaw, zaa, if_false, if_true]
   rw [Hi _ _ (by omega)]
   have ih := Lq enc hw h0 pk LOAD hld NE pr hne l q hlq hlen L KF KT hL s t (pl ++ [x]) (pq ++ [y]) m (by rw [hl]; simp) (by rw [hq]; simp) (by simp [hpp]) (by simpa using hm)
   rw [zae, zas] at ih
   exact ih
def Ux (z : Int) : List AV := [.sc (.int .i64 z)]
def Uy (s : ByteArray) : List AV := [.sc (.string s)]
theorem Lg (l : List Int) : El l = C5 Ux l := by
 rw [C5, show (Ux) = fun z => [AV.sc (.int .i64 z)] from rfl, Re]
theorem Lj (l : List ByteArray) : En l = C5 Uy l := by
 rw [C5, show (Uy) = fun z => [AV.sc (.string z)] from rfl, Re]
theorem ldI (z : Int) (rest : List AV) (H : Ad) (k : AV → Option β) : C3 false 1 (.rp (Ux z ++ rest)) H k = k (.sc (.int .i64 z)) := O5 _ _ _ _
theorem ldS (z : ByteArray) (rest : List AV) (H : Ad) (k : AV → Option β) : C3 false 1 (.rp (Uy z ++ rest)) H k = k (.sc (.string z)) := O5 _ _ _ _
def eqI (x y : Int) : Bool := x == y
def Sk (x y : ByteArray) : Bool := x.toList == y.toList
def Hg {α : Type} (p : α → α → Bool) (a b : List α) : Bool := if a.length = b.length then Jt p a b else false
theorem neI (x y : Int) (k : AV → Option β) : Cs .neq (.sc (.int .i64 x)) (.sc (.int .i64 y)) k = k (.sc (.bool (!(eqI x y)))) := rfl
theorem neS (x y : ByteArray) (k : AV → Option β) : Cs .neq (.sc (.string x)) (.sc (.string y)) k = k (.sc (.bool (!(Sk x y)))) := rfl
theorem AbT (qs : List Nat) (cs ds : List AV) (b : Bool) (h : Me qs cs ds = some b) (k : AV → Option β) : R2 .neq qs (.agg cs) (.agg ds) k = k (.sc (.bool (!b))) := by
 simp only [R2, h, zac]
theorem B8 {X : Option β} (e : Bool) {K : Bool → Option β} (h1 : ∀ b, b = e → X = K b) (h2 : ∀ b, b = e → K b = r) : X = r := (h1 e rfl).trans (h2 e rfl)
theorem Dq {c v b : Bool} {y : AV} (hc : c = true) (hv : v = b) (h : K (.sc (.bool b)) = r) : Oi (.sc (.bool c)) (.sc (.bool v)) y (fun t => K t) = r := by
 subst hc
 subst hv
 cases y <;> exact h
theorem Dp {c v b : Bool} {x : AV} (hc : c = false) (hv : v = b) (h : K (.sc (.bool b)) = r) : Oi (.sc (.bool c)) x (.sc (.bool v)) (fun t => K t) = r := by
 subst hc
 subst hv
 cases x <;> exact h
theorem Js {b c v : Bool} (hb : b = (c && v)) (h : c = true) : v = b := by rw [hb, h]; rfl
theorem Jr {b c v : Bool} (hb : b = (c && v)) (h : c = false) : false = b := by rw [hb, h]; rfl
theorem mOT {b c v : Bool} (hb : b = (c || v)) (h : c = true) : true = b := by rw [hb, h]; rfl
theorem mOF {b c v : Bool} (hb : b = (c || v)) (h : c = false) : v = b := by rw [hb, h]; rfl
theorem Wx {ty : Nat} {b b' : Bool} (h : b = b') : Bf Au E0.tp ty H (.sc (.bool b)) = some (.sc (.bool b')) := by subst h; rfl
theorem Ael {ty : Nat} {f : FuncId} {caps args vs : List AV} {t : AV} {k : KO β} (hh : Fx f = false) (hv : (args ++ caps).mapM (Dz H 8) = some vs) (ht : Dd E0 n ty f vs = some t) :
  (PR n β).call ty (.fn f [] caps) args H k = k (B7 Au E0.tp H.length ty t).1 (H ++ (B7 Au E0.tp H.length ty t).2) := by
 show Mc E0 (Ej E0 n) ty f ([] ++ args ++ caps) H k = _
 simp only [Mc, X8 hh, Aa6 hh, zal, zaa, if_false, Z2, hv, zac]
 have ht : S9 E0 (Ej E0 n) ty f vs = some t := ht
 rw [ht]
 rfl
theorem AjD (s : ByteArray) (i : Nat) (b : UInt8) (k : AV → Option β) (h : s.data.toList[i]? = some b) : Ag0 (.sc (.string s)) (.sc (.int .i64 i)) k = k (.sc (.int .u8 b.toNat)) := by
 have hlt : i < s.size := by
  have := (zad.1 h).1
  simpa using this
 have hb : s[i]'hlt = b := by
  have := (zad.1 h).2
  simp only [Array.getElem_toList] at this
  exact this
 simp only [Ag0, asI, asS, zac, zbq]
 rw [dif_pos ⟨by omega, hlt⟩, hb]
theorem nT {b : Bool} (h : b = false) : (!b) = true := by rw [h]; rfl
theorem nF {b : Bool} (h : b = true) : (!b) = false := by rw [h]; rfl
end
end
section
open Go
def B3 (x lo hi : Int) : Bool := decide (lo ≤ x) && decide (x ≤ hi)
theorem Gt (n : Nat) (ty : Nat) (x : Int) (lo : Int) (hi : Int) : Dd E0 (n + 1) ty 81 [.sc (.int .i64 x), .sc (.int .i64 lo), .sc (.int .i64 hi)] = some (.sc (.bool (B3 x lo hi))) := by
 rw [Bd, Ak6, f81]
 try simp only [Gw, F8, B6, Ba, D9, A4, Iv, Ky, D5, Av, Bh, Pr.gT, Pr.gF, Pr.hT, Pr.hF, Pr.kT, Pr.kF, Bv, B5, Hf, Bu, Nl, Ho, I4, Cq, Ct, Po, Du, Dh, Gm]
 refine Do (v := sb (decide (x ≥ lo))) (fun k => rfl) ?_
 apply B8 ((decide (x ≥ lo)) && (decide (x ≤ hi)))
 intro b1 q1
 refine Aa ((decide (x ≥ lo))) (fun h1 => ?_) (fun h1 => ?_)
 exact A2 h1 (A2 h1 (A2 h1 (Do (v := sb (decide (x ≤ hi))) (fun k => rfl) (Dq h1 (Js q1 h1) rfl))))
 exact A1 h1 (A1 h1 (A1 h1 (Dp h1 (Jr q1 h1) rfl)))
 intro b1 q1
 exact Wx (by first | (simp_all [B3]; done) | (rw [zb8]; simp [B3] at *; omega))
theorem Hz (n : Nat) (ty : Nat) (x : Int) (lo : Int) (hi : Int) : Dd E0 (n + 1) ty 98 [.sc (.int .i64 x), .sc (.int .i64 lo), .sc (.int .i64 hi)] = some (.sc (.bool (B3 x lo hi))) := by
 rw [Bd, AkJ, f98]
 try simp only [Gw, F8, B6, Ba, D9, A4, Iv, Ky, D5, Av, Bh, Pr.gT, Pr.gF, Pr.hT, Pr.hF, Pr.kT, Pr.kF, Bv, B5, Hf, Bu, Nl, Ho, I4, Cq, Ct, Po, Du, Dh, Gm]
 refine Do (v := sb (decide (x ≥ lo))) (fun k => rfl) ?_
 apply B8 ((decide (x ≥ lo)) && (decide (x ≤ hi)))
 intro b1 q1
 refine Aa ((decide (x ≥ lo))) (fun h1 => ?_) (fun h1 => ?_)
 exact A2 h1 (A2 h1 (A2 h1 (Do (v := sb (decide (x ≤ hi))) (fun k => rfl) (Dq h1 (Js q1 h1) rfl))))
 exact A1 h1 (A1 h1 (A1 h1 (Dp h1 (Jr q1 h1) rfl)))
 intro b1 q1
 exact Wx (by first | (simp_all [B3]; done) | (rw [zb8]; simp [B3] at *; omega))
theorem Ro (n : Nat) (ty : Nat) (s t : ByteArray) : Dd E0 (n + 1) ty 65 [Ag s, Ag t] = some (.sc (.bool (s.toList == t.toList))) := by
 rw [Bd, Aku, f65]
 have e : ∀ u : ByteArray, Ec [] 1 (.ro u.size (Bl u)) = some (Bl u) := by
  intro u
  simp [Ec, Fa]
 have eb : ∀ u : ByteArray, (Bl u).mapM Kn = some u.data.toList := fun u => Kz _
 simp only [Gm, A4, Ph, e, eb, zac, Cs, W2]
 simp
theorem Kj (n : Nat) (ty : Nat) (s t : ByteArray) : Dd E0 (n + 1) ty 71 [Ag s, Ag t] = some (.sc (.bool (s.toList == t.toList))) := by
 rw [Bd, Ak0, f71]
 have e : ∀ u : ByteArray, Ec [] 1 (.ro u.size (Bl u)) = some (Bl u) := by
  intro u
  simp [Ec, Fa]
 have eb : ∀ u : ByteArray, (Bl u).mapM Kn = some u.data.toList := fun u => Kz _
 simp only [Gm, A4, Ph, e, eb, zac, Cs, W2]
 simp
end
section
open Go
theorem Alp : ∀ X : Fin 256, bits .and .i64 ((X.val : Nat) : Int) 31 = ((X.val % 32 : Nat) : Int) := by decide +kernel
theorem Alo : ∀ X : Fin 256, bits .and .i64 ((X.val : Nat) : Int) 15 = ((X.val % 16 : Nat) : Int) := by decide +kernel
theorem Alq : ∀ X : Fin 256, bits .and .i64 ((X.val : Nat) : Int) 7 = ((X.val % 8 : Nat) : Int) := by decide +kernel
def S6 (d : Nat × Nat) (i : Nat) : AV := if d.1 = 65533 ∧ d.2 = 1 then .tup [.sc (.int .i64 0), .sc (.int .i64 0), .sc (.bool false)] else .tup [.sc (.int .i64 d.1), .sc (.int .i64 ((i + d.2 : Nat) : Int)), .sc (.bool true)]
def Abw : AV := .tup [.sc (.int .i64 0), .sc (.int .i64 0), .sc (.bool false)]
theorem Ajj (s : ByteArray) (i : Nat) (h : i < s.size) (H : Ad) (k : AV → Option AV) : (D7 1 (Ag s) (.sc (.int .i64 i)) fun t => C3 false 1 t H k) = k (.sc (.int .u8 (s.data.toList.getD i 0).toNat)) := by
 rw [Nz 1 _ _ i _ h (by rw [Fa]; omega)]
 have hl : i < s.data.toList.length := by simpa using h
 have hd : (Bl s).drop (i * 1) = .sc (.int .u8 (s.data.toList.getD i 0).toNat) :: (Bl s).drop (i + 1) := by
  rw [zbx, zbh (by rw [Fa]; omega)]
  congr 1
  simp [Bl, zbt, h]
 rw [hd, O5]
section loop
variable (n : Nat) (k : AV → Ad → Option AV) (H : Ad) (s : ByteArray)
theorem Lh (m at' N v i : Nat) (least : Int) (hi : i ≤ N) (hb : at' + i < s.size) (hN : N ≤ 3) (hv : v < 100000000) (hs : s.size ≤ 1048576) :
  Jg (PR n AV) n k (m + 1) (Ag s) (si at') (si N) (si least) (si v) (si i) H =
   if (s.data.toList.getD (at' + i) 0).toNat / 64 = 2 then Jg (PR n AV) n k m (Ag s) (si at') (si N) (si least) (si ((v * 64 + (s.data.toList.getD (at' + i) 0).toNat % 64 : Nat) : Int)) (si ((i + 1 : Nat) : Int)) H else k Abw H := by
 obtain ⟨y, hy⟩ : ∃ y, (s.data.toList.getD (at' + i) 0).toNat = y := ⟨_, rfl⟩
 have hylt : y < 256 := by rw [← hy]; exact (s.data.toList.getD (at' + i) 0).toNat_lt
 have hba := Ajj s (at' + i) hb H
 rw [hy] at hba ⊢
 rw [Jg]
 simp only [A4, Av, Bu, Ba, Dh, Bh, Pr.gT, Pr.gF, Pr.hT, Pr.hF, Pr.kT, Pr.kF, Bv]
 rw [Xq, Dv, if_pos (by simp; omega), AbR, ← Int.natCast_add, H9 _ (by omega) (by omega), hba]
 simp only [W8, asI, zac]
 rw [H9 _ (by omega) (by omega), Rr]
 by_cases h1 : y < 128
 refine Jv (by simp; omega) (Jv (by simp; omega) (Aeh (by simp; omega) ?_))
 rw [if_neg (by omega)]
 rfl
 refine Iu (by simp; omega) (Iu (by simp; omega) ?_)
 rw [AjB]
 refine AbL (by simp; omega) ?_
 by_cases h2 : y ≤ 191
 rw [Dv, if_neg (by simp; omega), if_pos (by omega), AlV, show (v : Int) * 64 = ((v * 64 : Nat) : Int) by omega, H9 _ (by omega) (by omega), AbR, ← Int.natCast_add, H9 _ (by omega) (by omega), Wp _ _ _ (by omega) (by omega), Hi _ _ (by omega)]
 congr 3
 omega
 rw [Dv, if_pos (by simp; omega), if_neg (by omega)]
 rfl
theorem We (n' : Nat) (hnn : n = n' + 1) (m at' N v least : Nat) (hN : N ≤ 3) (hv : v < 100000000) (ha : at' ≤ 1048576) :
  Jg (PR n AV) n k (m + 1) (Ag s) (si at') (si N) (si least) (si v) (si ((N + 1 : Nat) : Int)) H =
   if v ≥ least ∧ (v < 55296 ∨ (57344 ≤ v ∧ v ≤ 1114111)) then k (.tup [si v, si ((at' + (N + 1) : Nat) : Int), bT]) H else k Abw H := by
 subst hnn
 rw [Jg]
 simp only [A4, Av, Bu, Ba, Dh, Bh, Pr.gT, Pr.gF, Pr.hT, Pr.hF, Pr.kT, Pr.kF, Bv]
 rw [Xq, Dv, if_neg (by simp; omega), Rr]
 by_cases h1 : v < least
 have e : decide ((v : Int) < (least : Int)) = true := by simp; omega
 refine Jv e (Jv e (Aeh e (Jv rfl (Jv rfl (Aeh rfl (P9 rfl ?_))))))
 rw [if_neg (by omega)]
 rfl
 have e : decide ((v : Int) < (least : Int)) = false := by simp; omega
 refine Iu e (Iu e (Do (v := sb (decide ((v : Int) > 1114111))) (fun k => rfl) (AbL e ?_)))
 by_cases h2 : v > 1114111
 have e2 : decide ((v : Int) > 1114111) = true := by simp; omega
 refine Jv e2 (Jv e2 (Aeh e2 (P9 rfl ?_)))
 rw [if_neg (by omega)]
 rfl
 have e2 : decide ((v : Int) > 1114111) = false := by simp; omega
 refine Iu e2 (Iu e2 (Kw rfl (Dy (Jd _ _) (Dy (Jd _ _) (Dy (Jd _ _) Ip))) (Gt n' _ v 55296 57343) (AbL e2 ?_)))
 by_cases h3 : 55296 ≤ v ∧ v ≤ 57343
 refine P9 (by simp [B3]; omega) ?_
 rw [if_neg (by omega)]
 rfl
 refine Tc (by simp [B3]; omega) ?_
 have e5 : ((at' : Int) + 1 + (N : Int)) = ((at' + (N + 1) : Nat) : Int) := by omega
 rw [if_pos (by omega), AbR, H9 _ (by omega) (by omega), AbR, H9 _ (by omega) (by omega), e5]
 rfl
end loop
theorem Fp (H : Ad) (a b c : Value) : Bf Au E0.tp 110 H (.tup [.sc a, .sc b, .sc c]) = some (.tup [.sc a, .sc b, .sc c]) := rfl
set_option maxHeartbeats 1600000 in
theorem AiR (n : Nat) (hn : 1048576 < n) (s : ByteArray) (i : Nat) (hs : s.size ≤ 1048576) (hi : i < s.size) : Dd E0 (n + 2) 110 143 [Ag s, .sc (.int .i64 i)] = some (S6 (Lib.decodeL (s.data.toList.drop i)) i) := by
 have hg : ∀ j, (s.data.toList.drop i).getD j 0 = s.data.toList.getD (i + j) 0 := fun j => by simp [zbt, zaY]
 have hL : (s.data.toList.drop i).length = s.size - i := by simp
 have hg0 : (s.data.toList.drop i).getD 0 0 = s.data.toList.getD i 0 := hg 0
 rw [Lib.decodeL_N, hL, hg0, hg 1, hg 2, hg 3]
 obtain ⟨x, hx⟩ : ∃ x, (s.data.toList.getD i 0).toNat = x := ⟨_, rfl⟩
 have hxl : x < 256 := by rw [← hx]; exact (s.data.toList.getD i 0).toNat_lt
 obtain ⟨y1, hy1⟩ : ∃ x, (s.data.toList.getD (i + 1) 0).toNat = x := ⟨_, rfl⟩
 obtain ⟨y2, hy2⟩ : ∃ x, (s.data.toList.getD (i + 2) 0).toNat = x := ⟨_, rfl⟩
 obtain ⟨y3, hy3⟩ : ∃ x, (s.data.toList.getD (i + 3) 0).toNat = x := ⟨_, rfl⟩
 have b1 : y1 < 256 := by rw [← hy1]; exact (s.data.toList.getD (i + 1) 0).toNat_lt
 have b2 : y2 < 256 := by rw [← hy2]; exact (s.data.toList.getD (i + 2) 0).toNat_lt
 have b3 : y3 < 256 := by rw [← hy3]; exact (s.data.toList.getD (i + 3) 0).toNat_lt
 have hba := Ajj s i hi []
 rw [hx] at hba
 rw [hx, hy1, hy2, hy3]
 have fails : Lib.decodeN (s.size - i) x y1 y2 y3 = (65533, 1) → some Abw = some (S6 (Lib.decodeN (s.size - i) x y1 y2 y3) i) := fun h => by rw [h]; rfl
 have goes : ∀ v w, Lib.decodeN (s.size - i) x y1 y2 y3 = (v, w) → (w = 1 → v < 128) → some (.tup [si v, si ((i + w : Nat) : Int), bT]) = some (S6 (Lib.decodeN (s.size - i) x y1 y2 y3) i) := fun v w h hw => by
  rw [h, S6, if_neg (by intro h; simp only at h; omega)]
 rw [Bd, AhI, f143]
 simp only [A4, Av, Bu, Ba, Dh, Bh, Pr.gT, Pr.gF, Pr.hT, Pr.hF, Pr.kT, Pr.kF, Bv, B5]
 have e0 : decide ((i : Int) < 0) = false := by simp
 rw [Rr]
 refine Iu e0 (Iu e0 (Iu e0 (Nf (Iu e0 (Do (v := .sc (.bool (decide ((i : Int) ≥ (s.size : Int))))) (fun k => rfl) (AbL e0 (Tc (by simp; omega) ?_)))))))
 rw [hba]
 simp only [W8, asI, zac]
 rw [H9 _ (by omega) (by omega), Rr]
 by_cases c1 : x < 128
 refine P9 (by simp; omega) ?_
 rw [Hi _ _ (by omega)]
 exact (Fp _ _ _ _).trans (goes x 1 (by rw [Lib.decodeN, if_pos c1]) (fun _ => c1))
 refine Tc (by simp; omega) ?_
 obtain ⟨q, rfl⟩ : ∃ q, n = q + 4 := ⟨n - 4, by omega⟩
 apply B8 (decide ((x : Int) ≥ 192) && decide ((x : Int) < 224))
 intro b hb
 refine Do (v := sb (decide ((x : Int) ≥ 192))) (fun k => rfl) (Aa (decide ((x : Int) ≥ 192)) (fun h => ?_) (fun h => ?_))
 exact A2 h (A2 h (Do (v := sb (decide ((x : Int) < 224))) (fun k => rfl) (Dq h (Js hb h) rfl)))
 exact A1 h (A1 h (Dp h (Jr hb h) rfl))
 intro b0 hb0
 by_cases d0 : 192 ≤ x ∧ x < 224
 refine P9 (by rw [hb0]; simp; omega) (Do (v := .sc (.int .i64 ((x % 32 : Nat) : Int))) (fun k => by show k (.sc (.int .i64 (bits .and .i64 (x : Int) 31))) = _; rw [Alp ⟨x, hxl⟩]) (Nf (Do (v := .sc (.int .i64 ((s.size : Int) - 1))) (fun k => Wp _ _ _ (by omega) (by omega)) (Do (v := .sc (.int .i64 ((s.size : Int) - 1 - 1))) (fun k => Wp _ _ _ (by omega) (by omega)) (Do (v := .sc (.bool (decide ((i : Int) > (s.size : Int) - 1 - 1)))) (fun k => rfl) ?_)))))
 by_cases c3 : i + 1 < s.size
 ·refine Tc (by simp; omega) ?_
  have r1 := Lh (q + 4 + 1) (fun x H => Bf Au E0.tp 110 H x) [] s (q + 4) i 1 (x % 32) 1 128 (by omega) (by omega) (by omega) (by omega) hs
  rw [hy1] at r1
  refine r1.trans ?_
  by_cases k1 : y1 / 64 = 2
  rotate_left
  rw [if_neg k1]
  exact (Fp _ _ _ _).trans (fails (by unfold Lib.decodeN; rw [if_neg c1, if_neg (by omega), if_neg (by omega), if_neg (by omega)]))
  rw [if_pos k1]
  refine (We (q + 4 + 1) (fun x H => Bf Au E0.tp 110 H x) [] s (q + 4) rfl (q + 3) i 1 ((x % 32) * 64 + y1 % 64) 128 (by omega) (by omega) (by omega)).trans ?_
  have hv : (x % 32) * 64 + y1 % 64 = x % 32 * 64 + y1 % 64 := by omega
  rw [hv]
  split
  exact (Fp _ _ _ _).trans (goes _ 2 (by unfold Lib.decodeN; rw [if_neg c1, if_pos (by omega), if_pos (by omega)]) (by omega))
  exact (Fp _ _ _ _).trans (fails (by unfold Lib.decodeN; rw [if_neg c1, if_pos (by omega), if_neg (by omega)]))
 exact P9 (by simp; omega) ((Fp _ _ _ _).trans (fails (by unfold Lib.decodeN; rw [if_neg c1, if_neg (by omega), if_neg (by omega), if_neg (by omega)])))
 refine Tc (by rw [hb0]; simp; omega) ?_
 apply B8 (decide ((x : Int) ≥ 224) && decide ((x : Int) < 240))
 intro b hb
 refine Do (v := sb (decide ((x : Int) ≥ 224))) (fun k => rfl) (Aa (decide ((x : Int) ≥ 224)) (fun h => ?_) (fun h => ?_))
 exact A2 h (A2 h (Do (v := sb (decide ((x : Int) < 240))) (fun k => rfl) (Dq h (Js hb h) rfl)))
 exact A1 h (A1 h (Dp h (Jr hb h) rfl))
 intro b1 hb1
 by_cases d1 : 224 ≤ x ∧ x < 240
 refine P9 (by rw [hb1]; simp; omega) (Do (v := .sc (.int .i64 ((x % 16 : Nat) : Int))) (fun k => by show k (.sc (.int .i64 (bits .and .i64 (x : Int) 15))) = _; rw [Alo ⟨x, hxl⟩]) (Nf (Do (v := .sc (.int .i64 ((s.size : Int) - 1))) (fun k => Wp _ _ _ (by omega) (by omega)) (Do (v := .sc (.int .i64 ((s.size : Int) - 1 - 2))) (fun k => Wp _ _ _ (by omega) (by omega)) (Do (v := .sc (.bool (decide ((i : Int) > (s.size : Int) - 1 - 2)))) (fun k => rfl) ?_)))))
 by_cases c3 : i + 2 < s.size
 ·refine Tc (by simp; omega) ?_
  have r1 := Lh (q + 4 + 1) (fun x H => Bf Au E0.tp 110 H x) [] s (q + 4) i 2 (x % 16) 1 2048 (by omega) (by omega) (by omega) (by omega) hs
  rw [hy1] at r1
  refine r1.trans ?_
  by_cases k1 : y1 / 64 = 2
  rotate_left
  rw [if_neg k1]
  exact (Fp _ _ _ _).trans (fails (by unfold Lib.decodeN; rw [if_neg c1, if_neg (by omega), if_neg (by omega), if_neg (by omega)]))
  rw [if_pos k1]
  have r2 := Lh (q + 4 + 1) (fun x H => Bf Au E0.tp 110 H x) [] s (q + 3) i 2 ((x % 16) * 64 + y1 % 64) 2 2048 (by omega) (by omega) (by omega) (by omega) hs
  rw [hy2] at r2
  refine r2.trans ?_
  by_cases k2 : y2 / 64 = 2
  rotate_left
  rw [if_neg k2]
  exact (Fp _ _ _ _).trans (fails (by unfold Lib.decodeN; rw [if_neg c1, if_neg (by omega), if_neg (by omega), if_neg (by omega)]))
  rw [if_pos k2]
  refine (We (q + 4 + 1) (fun x H => Bf Au E0.tp 110 H x) [] s (q + 4) rfl (q + 2) i 2 (((x % 16) * 64 + y1 % 64) * 64 + y2 % 64) 2048 (by omega) (by omega) (by omega)).trans ?_
  have hv : ((x % 16) * 64 + y1 % 64) * 64 + y2 % 64 = x % 16 * 4096 + y1 % 64 * 64 + y2 % 64 := by omega
  rw [hv]
  split
  exact (Fp _ _ _ _).trans (goes _ 3 (by unfold Lib.decodeN; rw [if_neg c1, if_neg (by omega), if_pos (by omega), if_pos (by omega)]) (by omega))
  exact (Fp _ _ _ _).trans (fails (by unfold Lib.decodeN; rw [if_neg c1, if_neg (by omega), if_pos (by omega), if_neg (by omega)]))
 exact P9 (by simp; omega) ((Fp _ _ _ _).trans (fails (by unfold Lib.decodeN; rw [if_neg c1, if_neg (by omega), if_neg (by omega), if_neg (by omega)])))
 refine Tc (by rw [hb1]; simp; omega) ?_
 apply B8 (decide ((x : Int) ≥ 240) && decide ((x : Int) < 248))
 intro b hb
 refine Do (v := sb (decide ((x : Int) ≥ 240))) (fun k => rfl) (Aa (decide ((x : Int) ≥ 240)) (fun h => ?_) (fun h => ?_))
 exact A2 h (A2 h (Do (v := sb (decide ((x : Int) < 248))) (fun k => rfl) (Dq h (Js hb h) rfl)))
 exact A1 h (A1 h (Dp h (Jr hb h) rfl))
 intro b2 hb2
 by_cases d2 : 240 ≤ x ∧ x < 248
 refine P9 (by rw [hb2]; simp; omega) (Do (v := .sc (.int .i64 ((x % 8 : Nat) : Int))) (fun k => by show k (.sc (.int .i64 (bits .and .i64 (x : Int) 7))) = _; rw [Alq ⟨x, hxl⟩]) (Nf (Do (v := .sc (.int .i64 ((s.size : Int) - 1))) (fun k => Wp _ _ _ (by omega) (by omega)) (Do (v := .sc (.int .i64 ((s.size : Int) - 1 - 3))) (fun k => Wp _ _ _ (by omega) (by omega)) (Do (v := .sc (.bool (decide ((i : Int) > (s.size : Int) - 1 - 3)))) (fun k => rfl) ?_)))))
 by_cases c3 : i + 3 < s.size
 ·refine Tc (by simp; omega) ?_
  have r1 := Lh (q + 4 + 1) (fun x H => Bf Au E0.tp 110 H x) [] s (q + 4) i 3 (x % 8) 1 65536 (by omega) (by omega) (by omega) (by omega) hs
  rw [hy1] at r1
  refine r1.trans ?_
  by_cases k1 : y1 / 64 = 2
  rotate_left
  rw [if_neg k1]
  exact (Fp _ _ _ _).trans (fails (by unfold Lib.decodeN; rw [if_neg c1, if_neg (by omega), if_neg (by omega), if_neg (by omega)]))
  rw [if_pos k1]
  have r2 := Lh (q + 4 + 1) (fun x H => Bf Au E0.tp 110 H x) [] s (q + 3) i 3 ((x % 8) * 64 + y1 % 64) 2 65536 (by omega) (by omega) (by omega) (by omega) hs
  rw [hy2] at r2
  refine r2.trans ?_
  by_cases k2 : y2 / 64 = 2
  rotate_left
  rw [if_neg k2]
  exact (Fp _ _ _ _).trans (fails (by unfold Lib.decodeN; rw [if_neg c1, if_neg (by omega), if_neg (by omega), if_neg (by omega)]))
  rw [if_pos k2]
  have r3 := Lh (q + 4 + 1) (fun x H => Bf Au E0.tp 110 H x) [] s (q + 2) i 3 (((x % 8) * 64 + y1 % 64) * 64 + y2 % 64) 3 65536 (by omega) (by omega) (by omega) (by omega) hs
  rw [hy3] at r3
  refine r3.trans ?_
  by_cases k3 : y3 / 64 = 2
  rotate_left
  rw [if_neg k3]
  exact (Fp _ _ _ _).trans (fails (by unfold Lib.decodeN; rw [if_neg c1, if_neg (by omega), if_neg (by omega), if_neg (by omega)]))
  rw [if_pos k3]
  refine (We (q + 4 + 1) (fun x H => Bf Au E0.tp 110 H x) [] s (q + 4) rfl (q + 1) i 3 ((((x % 8) * 64 + y1 % 64) * 64 + y2 % 64) * 64 + y3 % 64) 65536 (by omega) (by omega) (by omega)).trans ?_
  have hv : (((x % 8) * 64 + y1 % 64) * 64 + y2 % 64) * 64 + y3 % 64 = x % 8 * 262144 + y1 % 64 * 4096 + y2 % 64 * 64 + y3 % 64 := by omega
  rw [hv]
  split
  exact (Fp _ _ _ _).trans (goes _ 4 (by unfold Lib.decodeN; rw [if_neg c1, if_neg (by omega), if_neg (by omega), if_pos (by omega), if_pos (by omega)]) (by omega))
  exact (Fp _ _ _ _).trans (fails (by unfold Lib.decodeN; rw [if_neg c1, if_neg (by omega), if_neg (by omega), if_pos (by omega), if_neg (by omega)]))
 exact P9 (by simp; omega) ((Fp _ _ _ _).trans (fails (by unfold Lib.decodeN; rw [if_neg c1, if_neg (by omega), if_neg (by omega), if_neg (by omega)])))
 exact Tc (by rw [hb2]; simp; omega) ((Fp _ _ _ _).trans (fails (by unfold Lib.decodeN; rw [if_neg c1, if_neg (by omega), if_neg (by omega), if_neg (by omega)])))
theorem Xm (N ty : Nat) (a b c : Value) : B7 Au E0.tp N ty (.tup [.sc a, .sc b, .sc c]) = (.tup [.sc a, .sc b, .sc c], []) := rfl
theorem Aen (s : ByteArray) : Vw [⟨Bl s, true, false⟩] (.sl 0 0 s.size 1) (Ag s) := fun X => by
 have e2 : Bc ([⟨Bl s, true, false⟩] ++ X) 0 0 (s.size * 1) = some (Bl s) := by
  have hl := Fa s
  show (if (0 + s.size * 1 ≤ (Bl s).length) then some (((Bl s).drop 0).take (s.size * 1)) else none) = _
  rw [if_pos (by omega), zaT, zbx, ← hl, zaK]
 rw [Sd, e2, zac]
 have e3 : (Bl s).mapM (Dz ([⟨Bl s, true, false⟩] ++ X) 7) = some (Bl s) := by
  rw [AaT]
  exact Acy _
 rw [e3]
 rfl
theorem Ob {vs : List AV} {i : Nat} {x : AV} {K : AV → Option AV} {r : Option AV} (hx : vs[i]? = some x) (h : K x = r) : Tv (.tup vs) i (fun t => K t) = r := by
 show (vs[i]?).bind _ = r
 rw [hx]
 exact h
theorem Uu (n : Nat) (hn : 1048576 < n) (k : AV → Ad → Option AV) (s : ByteArray) (hs : s.size ≤ 60) : ∀ (b m pos c : Nat), s.size ≤ pos + b → pos ≤ s.size → c ≤ pos → b < m →
  ∃ r : Int, Pu (PR (n + 2) AV) (n + 2) k m (.sl 0 0 s.size 1) (si c) (si pos) [⟨Bl s, true, false⟩] = k (si r) [⟨Bl s, true, false⟩] ∧ (Pj b (s.data.toList.drop pos) = true → 0 ≤ r) ∧ (Pj b (s.data.toList.drop pos) = false → r = -1)
 | b, m + 1, pos, c, hb, hp, hc, hm => by
  rw [Pu]
  simp only [B5, A4, Av, Iw, D5, Bh, Pr.gT, Pr.gF, Pr.hT, Pr.hF, Pr.kT, Pr.kF, Bv]
  have hlen : ∀ k : AV → Option AV, Jo (.sl 0 0 s.size 1) k = k (si s.size) := fun _ => rfl
  rw [hlen, Hj, Dv]
  by_cases hlt : pos < s.size
  rw [if_pos (by simpa using hlt)]
  obtain ⟨b, rfl⟩ : ∃ b', b = b' + 1 := ⟨b - 1, by omega⟩
  have hne : s.data.toList.drop pos ≠ [] := by
   intro h
   have := congrArg List.length h
   simp at this
   omega
  have hw := Lib.decodeL_width (s.data.toList.drop pos)
  have hle := Lib.decodeL_le (s.data.toList.drop pos) hne
  have hll : (s.data.toList.drop pos).length = s.size - pos := by simp
  rw [hll] at hle
  rw [Pj, if_neg hne]
  generalize hd : Lib.decodeL (s.data.toList.drop pos) = d at hw hle ⊢
  have ht := AiR n hn s pos (by omega) hlt
  rw [hd] at ht
  rw [Jc (vs := [Ag s, .sc (.int .i64 pos)]) rfl (Dy (Aen s) (Dy (Jd _ _) Ip)) ht]
  by_cases hf : d.1 = 65533 ∧ d.2 = 1
  rw [S6, if_pos hf, Xm, zan, if_pos hf]
  refine ⟨-1, ?_, (fun h => by cases h), (fun _ => rfl)⟩
  refine Ob rfl (Ob rfl (Ob rfl (Yd (Jv rfl (Jv rfl (Aeh rfl (P9 rfl ?_)))))))
  rfl
  rw [S6, if_neg hf, Xm, zan, if_neg hf]
  by_cases hz : d.1 = 0
  rw [if_pos hz]
  refine ⟨-1, ?_, (fun h => by cases h), (fun _ => rfl)⟩
  refine Ob rfl (Ob rfl (Ob rfl (Yd (Iu rfl (Iu rfl (Do (v := .sc (.bool ((d.1 : Int) == 0))) (fun k => rfl) (AbL rfl (P9 (by simp [hz]) ?_))))))))
  rfl
  rw [if_neg hz, zbp]
  obtain ⟨r, h1, h2, h3⟩ := Uu n hn k s hs b m (pos + d.2) (c + 1) (by omega) (by omega) (by omega) (by omega)
  refine ⟨r, ?_, h2, h3⟩
  refine Ob rfl (Ob rfl (Ob rfl (Yd (Iu rfl (Iu rfl (Do (v := .sc (.bool ((d.1 : Int) == 0))) (fun k => rfl) (AbL rfl (Tc (by simp; omega) ?_))))))))
  rw [Hi _ _ (by omega)]
  exact h1
  rw [if_neg (by simpa using hlt)]
  have hnil : s.data.toList.drop pos = [] := by
   apply zb5
   simp
   omega
  refine ⟨c, rfl, fun _ => by omega, fun h => ?_⟩
  rw [hnil] at h
  cases b <;> simp [Pj] at h
theorem AjX (n : Nat) (hn : 1048576 < n) (ty : Nat) (s : ByteArray) : ∃ r : Int, Dd E0 (n + 3) ty 115 [.sc (.string s)] = some (.sc (.int .i64 r)) ∧ (Bi s = true → 0 ≤ r) ∧ (Bi s = false → r = -1) := by
 rw [Bd, Ah1, f115]
 simp only [Hf, A4, Av, AbP]
 unfold Bi
 by_cases h : s.size ≤ 60
 obtain ⟨r, h1, h2, h3⟩ := Uu n hn (fun x H => Bf Au E0.tp ty H x) s h s.size (n + 2) 0 0 (by omega) (by omega) (by omega) (by omega)
 refine ⟨r, ?_, ?_, ?_⟩
 refine AgU (Do (v := .sc (.bool (decide ((s.size : Int) > 60)))) (fun k => rfl) (Tc (by simp; omega) ?_))
 simp only [X2, asS, zac]
 rw [if_pos (by omega)]
 exact h1
 intro hv
 refine h2 ?_
 simpa [h] using hv
 intro hv
 refine h3 ?_
 simpa [h] using hv
 refine ⟨-1, ?_, (fun hv => by simp [h] at hv), (fun _ => rfl)⟩
 refine AgU (Do (v := .sc (.bool (decide ((s.size : Int) > 60)))) (fun k => rfl) (P9 (by simp; omega) ?_))
 rfl
theorem Gk (n : Nat) (hn : 1048576 < n) (ty : Nat) (s : ByteArray) : Dd E0 (n + 4) ty 80 [.sc (.string s)] = some (.sc (.bool (Bi s))) := by
 rw [Bd, Ak5, f80]
 simp only [A4]
 obtain ⟨r, h1, h2, h3⟩ := AjX n hn 3 s
 refine Kw rfl (Dy (Jd _ _) Ip) h1 (Do (v := sb (decide (r ≥ 0))) (fun k => rfl) (Wx ?_))
 cases hv : Bi s
 rw [h3 hv]
 rfl
 simpa using h2 hv
theorem Ags {β : Type} {n : Nat} {H : Ad} {r : Option β} {ty f : Nat} {g : Nat → List AV → Option AV} {args vs : List AV} {v : Value} {K : KO β} (hg : E0.ext f = some g) (hv : args.mapM (Dz H 8) = some vs) (ht : g ty vs = some (.sc v)) (h : K (.sc v) H = r) : (PR n β).call ty (.fn f [] []) args H (fun x H => K x H) = r := by
 rw [AaM hg hv ht, G7, zan]
 exact h
theorem Ia (ty : Nat) (s : ByteArray) (hs : okS s) : Yp ty [.sc (.string s)] = some (.sc (.bool (Bi s))) := by
 have hm : maxLen = 9223372036854775807 := by decide
 show (if s.size ≤ maxLen then _ else _) = _
 rw [hm, if_pos (show s.size ≤ 9223372036854775807 from hs)]
end
section
open Go
section own
variable {ti : Nat → Option TI} {tp : Nat → Option (List Nat)}
theorem Id {f : Nat → AV → Option (AV × List Nat)} {t : Nat} {ts : List Nat} {x : AV} {xs : List AV} {p : List AV × List Nat} (h : Es f (t :: ts) (x :: xs) = some p) :
  ∃ a b, f t x = some a ∧ Es f ts xs = some b ∧ p = (a.1 :: b.1, a.2 ++ b.2) := by
 simp only [Es, zab] at h
 obtain ⟨a, h1, b, h2, h3⟩ := h
 exact ⟨a, b, h1, h2, (Option.some.inj h3).symm⟩
theorem Jk {f : Nat → AV → Option (AV × List Nat)} {ts : List Nat} {p : List AV × List Nat} (h : Es f ts [] = some p) : ts = [] ∧ p = ([], []) := by
 cases ts with
 | nil => exact ⟨rfl, (Option.some.inj h).symm⟩
 | cons t ts => simp [Es] at h
theorem V7 {f : Nat → AV → Option (AV × List Nat)} : ∀ {ts : List Nat} {xs : List AV} {p : List AV × List Nat}, Es f ts xs = some p → ts.length = xs.length ∧ p.1.length = xs.length
 | ts, [], p, h => by
  obtain ⟨rfl, rfl⟩ := Jk h
  exact ⟨rfl, rfl⟩
 | [], _ :: _, p, h => by simp [Es] at h
 | t :: ts, x :: xs, p, h => by
  obtain ⟨a, b, h1, h2, rfl⟩ := Id h
  obtain ⟨e1, e2⟩ := V7 h2
  simp [e1, e2]
theorem Pd {f : Nat → AV → Option (AV × List Nat)} : ∀ {ts us : List Nat} {xs ys : List AV} {p q : List AV × List Nat}, Es f ts xs = some p → Es f us ys = some q → Es f (ts ++ us) (xs ++ ys) = some (p.1 ++ q.1, p.2 ++ q.2)
 | ts, us, [], ys, p, q, h, h' => by
  obtain ⟨rfl, rfl⟩ := Jk h
  exact h'
 | [], _, _ :: _, _, _, _, h, _ => by simp [Es] at h
 | t :: ts, us, x :: xs, ys, p, q, h, h' => by
  obtain ⟨a, b, h1, h2, rfl⟩ := Id h
  have ih := Pd h2 h'
  rw [zaz, zaz, Es, h1, zac, ih]
  simp
theorem Hl {f f' : Nat → AV → Option (AV × List Nat)} : ∀ {ts : List Nat} {xs : List AV} {p : List AV × List Nat}, (∀ t x a, f t x = some a → (∀ i ∈ a.2, i ∈ p.2) → f' t x = some a) → Es f ts xs = some p → Es f' ts xs = some p
 | ts, [], p, _, h => by
  obtain ⟨rfl, rfl⟩ := Jk h
  rfl
 | [], _ :: _, p, _, h => by simp [Es] at h
 | t :: ts, x :: xs, p, hf, h => by
  obtain ⟨a, b, h1, h2, rfl⟩ := Id h
  have e1 := hf t x a h1 fun i hi => zaD _ hi
  have e2 := Hl (f' := f') (fun t x a' h hi => hf t x a' h fun i hi' => zaL _ (hi i hi')) h2
  rw [Es, e1, zac, e2]
  rfl
theorem F6 {H H' : Ad} : ∀ (d ty : Nat) (x : AV) (p : AV × List Nat), Dk ti tp H d ty x = some p → (∀ i ∈ p.2, H'[i]? = H[i]?) → Dk ti tp H' d ty x = some p
 | 0, _, _, _, h, _ => by simp [Dk] at h
 | d + 1, ty, x, p, h, hs => by
  cases x with
  | sc v => exact h
  | nl => exact h
  | sl id off n z =>
   rw [Jm] at h ⊢
   simp only [zab] at h
   obtain ⟨i, h1, j, h2, h3⟩ := h
   split at h3
   case isFalse => cases h3
   rename_i hz
   split at h3
   case isFalse => cases h3
   rename_i ha
   simp only [zab] at h3
   obtain ⟨cs, h4, q, h5, h6⟩ := h3
   obtain rfl := (Option.some.inj h6).symm
   have hid := hs id zax
   have e1 : Jz H' id = true := by simpa only [Jz, hid] using ha
   have e2 : Bc H' id off (n * z) = some cs := by simpa only [Bc, hid] using h4
   have e3 := Hl (f' := Dk ti tp H' d) (fun t x a h hi => F6 d t x a h fun i' hi' => hs i' (zau _ (hi i' hi'))) h5
   simp only [h1, h2, zac, hz, if_true, e1, e3]
   rw [hz] at e2
   rw [e2]
   simp only [zac, e3]
  | agg cs =>
   rw [Jl] at h ⊢
   simp only [zab] at h
   obtain ⟨i, h1, q, h2, h3⟩ := h
   obtain rfl := (Option.some.inj h3).symm
   have e3 := Hl (f' := Dk ti tp H' d) (fun t x a h hi => F6 d t x a h fun i' hi' => hs i' (hi i' hi')) h2
   rw [h1, zac, e3]
   rfl
  | tup cs =>
   rw [Kk] at h ⊢
   simp only [zab] at h
   obtain ⟨i, h1, q, h2, h3⟩ := h
   obtain rfl := (Option.some.inj h3).symm
   have e3 := Hl (f' := Dk ti tp H' d) (fun t x a h hi => F6 d t x a h fun i' hi' => hs i' (hi i' hi')) h2
   rw [h1, zac, e3]
   rfl
  | _ => simp [Dk] at h
theorem Rx {f : Nat → AV → Option (AV × List Nat)} {N : Nat} : ∀ {ts : List Nat} {xs : List AV} {p : List AV × List Nat}, (∀ t x a, f t x = some a → ∀ i ∈ a.2, i < N) → Es f ts xs = some p → ∀ i ∈ p.2, i < N
 | ts, [], p, _, h => by
  obtain ⟨rfl, rfl⟩ := Jk h
  intro i hi
  cases hi
 | [], _ :: _, p, _, h => by simp [Es] at h
 | t :: ts, x :: xs, p, hf, h => by
  obtain ⟨a, b, h1, h2, rfl⟩ := Id h
  intro i hi
  rcases zaR.1 hi with hi | hi
  ·exact hf t x a h1 i hi
  ·exact Rx hf h2 i hi
theorem Pf {H : Ad} : ∀ (d ty : Nat) (x : AV) (p : AV × List Nat), Dk ti tp H d ty x = some p → ∀ i ∈ p.2, i < H.length
 | 0, _, _, _, h => by simp [Dk] at h
 | d + 1, ty, x, p, h => by
  cases x with
  | sc v =>
   obtain rfl := (Option.some.inj h).symm
   intro i hi
   cases hi
  | nl =>
   obtain rfl := (Option.some.inj h).symm
   intro i hi
   cases hi
  | sl id off n z =>
   rw [Jm] at h
   simp only [zab] at h
   obtain ⟨i, h1, j, h2, h3⟩ := h
   split at h3
   case isFalse => cases h3
   split at h3
   case isFalse => cases h3
   rename_i ha
   simp only [zab] at h3
   obtain ⟨cs, h4, q, h5, h6⟩ := h3
   obtain rfl := (Option.some.inj h6).symm
   intro i' hi'
   rcases zbG.1 hi' with rfl | hi'
   ·unfold Jz at ha
    cases hg : H[i']? with
    | none => rw [hg] at ha; cases ha
    | some b => exact (zad.1 hg).1
   ·exact Rx (fun t x a h => Pf d t x a h) h5 i' hi'
  | agg cs =>
   rw [Jl] at h
   simp only [zab] at h
   obtain ⟨i, h1, q, h2, h3⟩ := h
   obtain rfl := (Option.some.inj h3).symm
   exact Rx (fun t x a h => Pf d t x a h) h2
  | tup cs =>
   rw [Kk] at h
   simp only [zab] at h
   obtain ⟨i, h1, q, h2, h3⟩ := h
   obtain rfl := (Option.some.inj h3).symm
   exact Rx (fun t x a h => Pf d t x a h) h2
  | _ => simp [Dk] at h
end own
def OwnC (d : Nat) (H : Ad) (ts : List Nat) (raw cells : List AV) (ids : List Nat) : Prop := Es (Dk Au E0.tp H d) ts raw = some (cells, ids)
theorem OwnC.frame {d : Nat} {H H' : Ad} {ts : List Nat} {raw cells : List AV} {ids : List Nat} (h : OwnC d H ts raw cells ids) (hs : ∀ i ∈ ids, H'[i]? = H[i]?) : OwnC d H' ts raw cells ids :=
 Hl (fun t x a h hi => F6 d t x a h fun i hi' => hs i (hi i hi')) h
theorem OwnC.lt {d : Nat} {H : Ad} {ts : List Nat} {raw cells : List AV} {ids : List Nat} (h : OwnC d H ts raw cells ids) : ∀ i ∈ ids, i < H.length := Rx (fun t x a h => Pf d t x a h) h
theorem OwnC.grow {d : Nat} {H : Ad} {ts : List Nat} {raw cells : List AV} {ids : List Nat} (h : OwnC d H ts raw cells ids) (X : List Jb) : OwnC d (H ++ X) ts raw cells ids :=
 h.frame fun i hi => zai (h.lt i hi)
theorem OwnC.append {d : Nat} {H : Ad} {ts us : List Nat} {raw raw' cells cells' : List AV} {ids ids' : List Nat} (h : OwnC d H ts raw cells ids) (h' : OwnC d H us raw' cells' ids') : OwnC d H (ts ++ us) (raw ++ raw') (cells ++ cells') (ids ++ ids') := Pd h h'
theorem OwnC.len {d : Nat} {H : Ad} {ts : List Nat} {raw cells : List AV} {ids : List Nat} (h : OwnC d H ts raw cells ids) : ts.length = raw.length ∧ cells.length = raw.length := V7 h
def OwnS (d : Nat) (H : Ad) (w : Nat) (cty : List Nat) (x : AV) (k : Nat) (cells : List AV) : Prop :=
 (x = .nl ∧ k = 0 ∧ cells = []) ∨ ∃ id raw ids, x = .sl id 0 k w ∧ H[id]? = some ⟨raw, true, true⟩ ∧ raw.length = k * w ∧ OwnC d H (zaj k cty).flatten raw cells ids ∧ (id :: ids).Nodup
theorem OwnS.nil (d : Nat) (H : Ad) (w : Nat) (cty : List Nat) : OwnS d H w cty .nl 0 [] := .inl ⟨rfl, rfl, rfl⟩
theorem OwnS.grow {d : Nat} {H : Ad} {w : Nat} {cty : List Nat} {x : AV} {k : Nat} {cells : List AV} (h : OwnS d H w cty x k cells) (X : List Jb) : OwnS d (H ++ X) w cty x k cells := by
 rcases h with h | ⟨id, raw, ids, h1, h2, h3, h4, h5⟩
 ·exact .inl h
 ·exact .inr ⟨id, raw, ids, h1, by rw [zai (zad.1 h2).1]; exact h2, h3, h4.grow X, h5⟩
variable {β : Type} {n : Nat} {r : Option β}
theorem AgD (A : Ad) (b b' : Jb) (R : Ad) : (A ++ b :: R).set A.length b' = A ++ b' :: R := by
 rw [List.set_append_right _ _ (zam _), zaZ]
 rfl
theorem Sn (A : Ad) (b : Jb) (R : Ad) : (A ++ b :: R)[A.length]? = some b := by
 rw [zah (zam _), zaZ]
 rfl
theorem Ahe {d : Nat} {H X : Ad} {w bytes : Nat} {cty : List Nat} {x : AV} {k : Nat} {cells er ec : List AV} {eids : List Nat} {K : KO β} (hx : OwnS d H w cty x k cells) (hw : er.length = w) (hl : er.all Bn = true)
  (he : OwnC d (H ++ X) cty er ec eids) (hn : eids.Nodup) (hge : ∀ i ∈ eids, H.length ≤ i) (hb : (k + 1) * bytes ≤ 140737488355328)
  (h : ∀ x' H', OwnS d H' w cty x' (k + 1) (cells ++ ec) → K x' H' = r) :
  Hm 1 w er true (H ++ X) (fun y G => L7 w bytes x y G K) = r := by
 have hy : ∀ G : Ad, Ec (G ++ [⟨er, true, true⟩]) w (.sl G.length 0 1 w) = some er := by
  intro G
  simp only [Ec, if_true, Nat.one_mul, Bc, Sn G _ [], za2, hw, zam, zaT]
  rw [← hw, zaK]
 have hell : (H ++ X).length ∉ eids := fun hm => Nat.lt_irrefl _ (he.lt _ hm)
 rcases hx with ⟨rfl, rfl, rfl⟩ | ⟨id, raw, ids, rfl, h2, h3, h4, h5⟩
 ·simp only [Hm, L7, Ju, zac, hy]
  rw [show Ec (H ++ X ++ [⟨er, true, true⟩]) w .nl = some [] from rfl]
  simp only [zac, Sr]
  rw [if_pos hb, if_pos hl]
  refine h _ _ (.inr ⟨_, er, eids, rfl, ?_, by simp [hw], ?_, ?_⟩)
  ·rw [zah (zam _), zaZ]
   rfl
  ·simp only [za2, List.replicate_one, za1, zb3, zan, zal]
   exact (he.grow _).grow _
  ·rw [zbi]
   refine ⟨fun hm => ?_, hn⟩
   have := he.lt _ hm
   simp at this
   omega
 ·have hid : id < H.length := (zad.1 h2).1
  have hg : (H ++ X ++ [(⟨er, true, true⟩ : Jb)])[id]? = some ⟨raw, true, true⟩ := by
   rw [zaf, zai hid]
   exact h2
  have hcx : Ec (H ++ X ++ [⟨er, true, true⟩]) w (.sl id 0 k w) = some raw := by
   simp only [Ec, if_true, Bc, hg, za2, h3, zam, zaT]
   rw [← h3, zaK]
  simp only [Hm, L7, Ju, zac, hy, hcx, Sr, hg, if_true]
  rw [if_pos hb, if_pos hl]
  have hn5 := zbi.1 h5
  have hne : ∀ i ∈ ids, i ≠ id := fun i hi e => hn5.1 (e ▸ hi)
  have hne2 : ∀ i ∈ eids, i ≠ id := fun i hi e => by
   have := hge i hi
   omega
  refine h _ _ (.inr ⟨_, raw ++ er, ids ++ eids, rfl, ?_, by simp [h3, hw, zbv], ?_, ?_⟩)
  ·rw [zah (zam _), zaZ]
   rfl
  ·have e : (zaj (k + 1) cty).flatten = (zaj k cty).flatten ++ cty := by
    rw [List.replicate_succ', zb2]
    simp
   rw [e]
   refine OwnC.append ?_ ?_
   ·refine OwnC.grow (OwnC.frame (H := H ++ X ++ [⟨er, true, true⟩]) ((h4.grow X).grow _) fun i hi => ?_) _
    rw [zbC (fun e => hne i hi e.symm)]
   ·refine OwnC.grow (OwnC.frame (H := H ++ X ++ [⟨er, true, true⟩]) (he.grow _) fun i hi => ?_) _
    rw [zbC (fun e => hne2 i hi e.symm)]
  ·rw [zbi]
   refine ⟨fun hm => ?_, ?_⟩
   ·rcases zaR.1 hm with hm | hm
    ·have := h4.lt _ hm
     simp at this
     omega
    ·have := he.lt _ hm
     simp at this
     omega
   ·rw [zba]
    refine ⟨hn5.2, hn, fun a ha b hb e => ?_⟩
    have h1 := h4.lt a ha
    have h2 := hge b hb
    omega
theorem AiF {d : Nat} {H : Ad} {w tyS k : Nat} {cty : List Nat} {x : AV} {cells : List AV} (hty : ∃ i j, Au tyS = some i ∧ Au i.elem = some j ∧ j.size = w ∧ j.cty = cty) (h : OwnS d H w cty x k cells) : ∃ ids, Dk Au E0.tp H (d + 1) tyS x = some (.ro k cells, ids) ∧ ids.Nodup := by
 rcases h with ⟨rfl, rfl, rfl⟩ | ⟨id, raw, ids, rfl, h2, h3, h4, h5⟩
 ·exact ⟨[], rfl, List.nodup_nil⟩
 ·obtain ⟨i, j, e1, e2, rfl, rfl⟩ := hty
  refine ⟨id :: ids, ?_, h5⟩
  rw [Jm]
  have ha : Jz H id = true := by simp only [Jz, h2]
  have hr : Bc H id 0 (k * j.size) = some raw := by
   simp only [Bc, h2, if_true, za2, h3, zam, zaT]
   rw [← h3, zaK]
  have h4' : Es (Dk Au E0.tp H d) (zaj k j.cty).flatten raw = some (cells, ids) := h4
  simp only [e1, e2, zac, if_true, ha, hr, h4']
end
section
open Go
def Dl (s : ByteArray) : Bool := Bi s && !(s.toList == (⟨#[]⟩ : ByteArray).toList) && !(It s 43) && !(It s 35) && decide (((Bp s).length : Int) ≤ 6)
section
variable {β : Type} {n : Nat} {H : Ad} {r : Option β}
theorem Acx {ty f len : Nat} {args vs cells : List AV} {K : KO β} (hh : Fx f = false) (hv : args.mapM (Dz H 8) = some vs) (ht : Dd E0 n ty f vs = some (.ro len cells)) (h : ∀ N X sz, K (.sl N 0 len sz) (H ++ X) = r) : (PR n β).call ty (.fn f [] []) args H (fun x H => K x H) = r := by
 rw [Jc hh hv ht]
 exact h _ _ _
theorem AgS {b b' : Bool} (h : b = b') : some (AV.sc (.bool b)) = some (AV.sc (.bool b')) := by rw [h]
theorem AgT {id off m w : Nat} {K : AV → Option β} (h : K (.sc (.int .i64 m)) = r) : Jo (.sl id off m w) (fun t => K t) = r := h
end
section has
variable (n : Nat) (k : AV → Ad → Option AV) (H : Ad)
theorem Aam (s : ByteArray) (b : UInt8) (hs : s.size ≤ 1048576) : ∀ (r pre : List UInt8) (m : Nat), s.data.toList = pre ++ r → r.length < m →
  Nr (PR n AV) n k m (ss s) (su b.toNat) (si pre.length) H = k (sb (r.any fun c => c == b)) H
 | [], pre, m + 1, hl, hm => by
  have h1 : s.size = pre.length := by
   have := congrArg List.length hl
   simpa using this
  rw [Nr]
  simp only [Hf, A4, Av]
  rw [Vt, Hj, h1, Dv, if_neg (by simp)]
  rfl
 | c :: r, pre, m + 1, hl, hm => by
  have h1 : s.size = pre.length + r.length + 1 := by
   have := congrArg List.length hl
   simpa [zaE] using this
  rw [Nr]
  simp only [Hf, A4, Av, Nl]
  rw [Vt, Hj, Dv, if_pos (by simp; omega), AjD s pre.length c _ (by rw [hl]; simp)]
  have he : ∀ K : AV → Option AV, Cs .eql (su (c.toNat : Int)) (su (b.toNat : Int)) K = K (sb (c == b)) := by
   intro K
   show K (.sc (.bool ((c.toNat : Int) == (b.toNat : Int)))) = _
   congr 3
   rw [zb8, beq_iff_eq, beq_iff_eq, Int.ofNat_inj, UInt8.toNat_inj]
  rw [he, Dv, zbB]
  cases hcb : (c == b)
  rw [if_neg (by simp), Hi _ _ (by omega)]
  have ih := Aam s b hs r (pre ++ [c]) m (by rw [hl]; simp) (by simpa using hm)
  rw [zae, zas] at ih
  rw [ih]
  rfl
  rw [if_pos rfl]
  rfl
end has
theorem AlQ (n : Nat) (hn : 1048576 < n) (ty : Nat) (s : ByteArray) (b : UInt8) (hs : s.size ≤ 1048576) : Dd E0 (n + 1) ty 127 [.sc (.string s), .sc (.int .u8 b.toNat)] = some (.sc (.bool (It s b))) := by
 rw [Bd, Ah4, f127]
 have key := Aam n (fun x H => Bf Au E0.tp ty H x) [] s b hs s.data.toList [] n rfl (by simp; omega)
 simp only [zav, zaV] at key
 rw [key]
 rfl
theorem AjC (n : Nat) (hn : 1048576 < n) (ty : Nat) (s : ByteArray) (hs : s.size ≤ 1048576) : Dd E0 (n + 1) ty 127 [.sc (.string s), .sc (.int .u8 43)] = some (.sc (.bool (It s 43))) := AlQ n hn ty s 43 hs
theorem Agb (n : Nat) (hn : 1048576 < n) (ty : Nat) (s : ByteArray) (hs : s.size ≤ 1048576) : Dd E0 (n + 1) ty 127 [.sc (.string s), .sc (.int .u8 35)] = some (.sc (.bool (It s 35))) := AlQ n hn ty s 35 hs
theorem Aja : ∃ i j, Au 56 = some i ∧ Au i.elem = some j ∧ j.size = 1 ∧ j.cty = [i.elem] := ⟨_, _, rfl, rfl, rfl, rfl⟩
def AiZ (l : List UInt8) : AV := .sc (.string (ofL l))
theorem Aaw (s : ByteArray) (P cur r : List UInt8) (h : s.data.toList = P ++ (cur ++ r)) : s.extract P.length (P.length + cur.length) = ofL cur := by
 have : (s.extract P.length (P.length + cur.length)).data.toList = cur := by
  rw [ByteArray.data_extract, Array.toList_extract, List.extract, h]
  rw [za3 (zam _), zaU, zal, Nat.add_sub_cancel_left, List.take_append_of_le_length (zam _), zaK]
 rw [← Aav (s.extract _ _), this]
theorem Xr {H : Ad} {x : AV} {cnt : Nat} {cells : List AV} {K : AV → Ad → Option AV} {r : Option AV} (s : ByteArray) (P cur rest : List UInt8) (hl : s.data.toList = P ++ (cur ++ rest)) (hs : s.size ≤ 1048576) (hx : OwnS 7 H 1 [9] x cnt cells) (hc : cnt ≤ 1048577)
  (h : ∀ x' H', OwnS 7 H' 1 [9] x' (cnt + 1) (cells ++ [AiZ cur]) → K x' H' = r) :
  (R3 (ss s) (some (si P.length)) (some (si ((P.length + cur.length : Nat) : Int))) fun t27 => (Jh [sE] [(0, 1, t27)]).bind fun ct28 => Hm 1 1 ct28 true H fun t28 H => L7 1 16 x t28 H K) = r := by
 have hsz : P.length + cur.length ≤ s.size := by
  have := congrArg List.length hl
  simp at this
  omega
 simp only [R3, asS, Oc, asI, zac]
 rw [if_pos (by omega)]
 simp only [zbq]
 rw [Aaw s P cur rest hl]
 have hf : Jh [sE] [(0, 1, ss (ofL cur))] = some [ss (ofL cur)] := rfl
 rw [hf, zac]
 have key := Ahe (H := H) (X := []) (bytes := 16) (er := [ss (ofL cur)]) (ec := [AiZ cur]) (eids := []) (K := K) (r := r) hx rfl rfl rfl List.nodup_nil (fun i hi => by cases hi) (by omega) h
 rw [zan] at key
 exact key
theorem Vu (n : Nat) (s : ByteArray) (hs : s.size ≤ 1048576) : ∀ (r P cur : List UInt8) (m : Nat) (x : AV) (H : Ad) (cnt : Nat) (cells : List AV), s.data.toList = P ++ (cur ++ r) → r.length + 1 < m → OwnS 7 H 1 [9] x cnt cells → cnt ≤ P.length →
  K5 (PR n AV) n (fun x H => Bf Au E0.tp 56 H x) m (ss s) x (si P.length) (si ((P.length + cur.length : Nat) : Int)) H = some (.ro (cnt + (lvL cur r).length) (cells ++ (lvL cur r).map AiZ))
 | [], P, cur, m + 2, x, H, cnt, cells, hl, hm, hx, hc => by
  have h1 : s.size = P.length + cur.length := by
   have := congrArg List.length hl
   simpa using this
  rw [K5]
  simp only [Hf, A4, Av, Bh, Pr.gT, Pr.gF, Pr.hT, Pr.hF, Pr.kT, Pr.kF, Bv, I4, Ct, Cq, Du, Nl]
  rw [Vt, Xq, Dv, if_pos (by simp; omega), Vt, Ajk]
  have he : (((P.length + cur.length : Nat) : Int) == (s.size : Int)) = true := by simp; omega
  refine Jv he (Jv he (Jv he (Jv he (Aeh he (P9 rfl (Xr s P cur [] hl hs hx (by omega) fun x' H' hx' => ?_))))))
  rw [Hi _ _ (by omega), Hi _ _ (by omega)]
  rw [K5]
  simp only [Hf, A4, Av]
  rw [Vt, Xq, Dv, if_neg (by simp; omega)]
  obtain ⟨i, j, e1, e2, e3, e4⟩ := Aja
  obtain ⟨ids, ho, hno⟩ := AiF (d := 7) (tyS := 56) (w := 1) (cty := [9]) ⟨_, _, rfl, rfl, rfl, rfl⟩ hx'
  rw [Bf, ho, zac, if_pos hno]
  rfl
 | c :: r, P, cur, m + 1, x, H, cnt, cells, hl, hm, hx, hc => by
  have h1 : s.size = P.length + cur.length + r.length + 1 := by
   have := congrArg List.length hl
   simp at this
   omega
  have hidx : s.data.toList[P.length + cur.length]? = some c := by
   rw [hl, ← zaf, ← zae, zah (zam _), zaZ]
   rfl
  rw [K5]
  simp only [Hf, A4, Av, Bh, Pr.gT, Pr.gF, Pr.hT, Pr.hF, Pr.kT, Pr.kF, Bv, I4, Ct, Cq, Du, Nl]
  rw [Vt, Xq, Dv, if_pos (by simp; omega), Vt, Ajk]
  have he : (((P.length + cur.length : Nat) : Int) == (s.size : Int)) = false := by simp; omega
  refine Iu he (Iu he (Iu he ?_))
  rw [AjD s (P.length + cur.length) c _ hidx]
  refine Iu he (Do (v := sb (c == 47)) (fun K => ?_) ?_)
  show K (.sc (.bool ((c.toNat : Int) == (47 : Int)))) = _
  congr 3
  rw [zb8, beq_iff_eq, beq_iff_eq, show (47 : Int) = (((47 : UInt8).toNat : Nat) : Int) from rfl, Int.ofNat_inj, UInt8.toNat_inj]
  refine AbL he ?_
  rw [lvL]
  by_cases h47 : c = 47
  refine P9 (by simp [h47]) (Xr s P cur (c :: r) hl hs hx (by omega) fun x' H' hx' => ?_)
  rw [Hi _ _ (by omega), Hi _ _ (by omega), if_pos h47]
  have ih := Vu n s hs r (P ++ cur ++ [c]) [] m x' H' (cnt + 1) (cells ++ [AiZ cur]) (by rw [hl]; simp) (by simpa using hm) hx' (by simp; omega)
  simp only [zae, zav, zas, zaO] at ih
  rw [ih]
  simp [zaE, zbF]
  refine Tc (by simpa using h47) ?_
  rw [Hi _ _ (by omega), if_neg h47]
  have ih := Vu n s hs r P (cur ++ [c]) m x H cnt cells (by rw [hl]; simp) (by simpa using hm) hx hc
  rw [zae, zas, ← zaE] at ih
  exact ih
theorem T0 (n : Nat) (hn : 1048577 < n) (s : ByteArray) (hs : s.size ≤ 1048576) : Dd E0 (n + 1) 56 128 [.sc (.string s)] = some (.ro (Bp s).length ((Bp s).map fun x => .sc (.string x))) := by
 rw [Bd, Ah5, f128]
 have key := Vu n s hs s.data.toList [] [] n .nl [] 0 [] rfl (by simp; omega) (OwnS.nil _ _ _ _) (by simp)
 simp only [zav, zaV, za2, zal] at key
 rw [key, Bp, List.length_map, zbJ]
 rfl
theorem Tp (n : Nat) (s : ByteArray) (hs : s.size ≤ 1048576) : Dd E0 (n + 1) 56 137 [.sc (.string s)] = some (.ro (Bp s).length ((Bp s).map fun x => .sc (.string x))) := by
 rw [Bd, AhC, f137]
 have hg : Sl 56 [ss s, .sc (.string ⟨#[47]⟩)] = some (.ro (Bp s).length ((Bp s).map fun x => ss x)) := by
  unfold Sl
  exact if_pos ⟨rfl, rfl, by omega⟩
 rw [AaM (g := Sl) rfl (Dy (Jd _ _) (Dy (Jd _ _) Ip)) hg]
 refine AiG [] _ _ ?_
 refine ⟨_, _, rfl, rfl, by simp, ?_⟩
 have := Sx (f := I1 Au E0.tp 7) (cty := [9]) (enc := fun x : ByteArray => [ss x]) (Bp s) (fun x _ => ⟨trivial, trivial⟩)
 rw [Re] at this
 exact this
theorem Xc (ty : Nat) (s : ByteArray) (hs : s.size ≤ 1048576) : Uz ty [.sc (.string s), .sc (.string ⟨#[43, 35]⟩)] = some (.sc (.bool (vPH s))) := by
 unfold Uz
 exact if_pos ⟨rfl, by omega⟩
end
section
open Go
section
variable {ti : Nat → Option TI} {tp : Nat → Option (List Nat)} {H : Ad}
theorem Pe {d d' : Nat} (hd : ∀ ty x t I, Dk ti tp H d ty x = some (t, I) → I1 ti tp d' ty t → Dk ti tp H d' ty x = some (t, I)) : ∀ (ts : List Nat) (xs cells : List AV) (I : List Nat), Es (Dk ti tp H d) ts xs = some (cells, I) → Hb (I1 ti tp d') ts cells → Es (Dk ti tp H d') ts xs = some (cells, I)
 | ts, [], cells, I, h, _ => by
  obtain ⟨rfl, e⟩ := Jk h
  cases e
  rfl
 | [], _ :: _, _, _, h, _ => by simp [Es] at h
 | t :: ts, x :: xs, cells, I, h, ho => by
  obtain ⟨a, b, h1, h2, e⟩ := Id h
  cases e
  have e1 := hd t x a.1 a.2 h1 ho.1
  have e2 := Pe hd ts xs b.1 b.2 h2 ho.2
  rw [Es, e1, zac, e2]
  rfl
theorem Kf : ∀ (d d' ty : Nat) (x t : AV) (I : List Nat), Dk ti tp H d ty x = some (t, I) → I1 ti tp d' ty t → Dk ti tp H d' ty x = some (t, I)
 | 0, _, _, _, _, _, h, _ => by simp [Dk] at h
 | d + 1, 0, _, _, _, _, _, ho => by cases ho
 | d + 1, d' + 1, ty, x, t, I, h, ho => by
  cases x with
  | sc v =>
   obtain ⟨rfl, rfl⟩ : AV.sc v = t ∧ [] = I := by simpa [Dk] using h
   rfl
  | nl =>
   obtain ⟨rfl, rfl⟩ : AV.ro 0 [] = t ∧ [] = I := by simpa [Dk] using h
   rfl
  | sl id off n z =>
   rw [Jm] at h ⊢
   simp only [zab] at h
   obtain ⟨i, h1, j, h2, h3⟩ := h
   split at h3
   case isFalse => cases h3
   rename_i hz
   split at h3
   case isFalse => cases h3
   rename_i ha
   simp only [zab] at h3
   obtain ⟨cs, h4, q, h5, h6⟩ := h3
   obtain ⟨rfl, rfl⟩ : AV.ro n q.1 = t ∧ id :: q.2 = I := by simpa using h6
   obtain ⟨i', j', g1, g2, g3, g4⟩ := ho
   rw [h1] at g1
   cases g1
   rw [h2] at g2
   cases g2
   have e3 := Pe (fun ty x t I h ho => Kf d d' ty x t I h ho) _ _ _ _ h5 g4
   rw [hz] at h4
   simp only [h1, h2, zac, hz, if_true, ha, h4, e3]
  | agg cs =>
   rw [Jl] at h ⊢
   simp only [zab] at h
   obtain ⟨i, h1, q, h2, h3⟩ := h
   obtain ⟨rfl, rfl⟩ : AV.agg q.1 = t ∧ q.2 = I := by simpa using h3
   obtain ⟨i', g1, g2⟩ := ho
   rw [h1] at g1
   cases g1
   have e3 := Pe (fun ty x t I h ho => Kf d d' ty x t I h ho) _ _ _ _ h2 g2
   rw [h1, zac, e3]
   rfl
  | tup cs =>
   rw [Kk] at h ⊢
   simp only [zab] at h
   obtain ⟨i, h1, q, h2, h3⟩ := h
   obtain ⟨rfl, rfl⟩ : AV.tup q.1 = t ∧ q.2 = I := by simpa using h3
   obtain ⟨i', g1, g2⟩ := ho
   rw [h1] at g1
   cases g1
   have e3 := Pe (fun ty x t I h ho => Kf d d' ty x t I h ho) _ _ _ _ h2 g2
   rw [h1, zac, e3]
   rfl
  | _ => simp [Dk] at h
theorem X0 {d : Nat} (hd : ∀ ty x t I, Dk ti tp H d ty x = some (t, I) → Dz H d x = some t) : ∀ (ts : List Nat) (xs cells : List AV) (I : List Nat), Es (Dk ti tp H d) ts xs = some (cells, I) → xs.mapM (Dz H d) = some cells
 | ts, [], cells, I, h => by
  obtain ⟨rfl, e⟩ := Jk h
  cases e
  rfl
 | [], _ :: _, _, _, h => by simp [Es] at h
 | t :: ts, x :: xs, cells, I, h => by
  obtain ⟨a, b, h1, h2, e⟩ := Id h
  cases e
  simp only [zaG, hd t x a.1 a.2 h1, X0 hd ts xs b.1 b.2 h2, zbb, zaM, zac]
theorem Pg : ∀ (d ty : Nat) (x t : AV) (I : List Nat), Dk ti tp H d ty x = some (t, I) → Dz H d x = some t
 | 0, _, _, _, _, h => by simp [Dk] at h
 | d + 1, ty, x, t, I, h => by
  have ih := X0 (ti := ti) (tp := tp) (H := H) (d := d) (fun ty x t I h => Pg d ty x t I h)
  cases x with
  | sc v =>
   obtain ⟨rfl, rfl⟩ : AV.sc v = t ∧ [] = I := by simpa [Dk] using h
   rfl
  | nl =>
   obtain ⟨rfl, rfl⟩ : AV.ro 0 [] = t ∧ [] = I := by simpa [Dk] using h
   rfl
  | sl id off n z =>
   rw [Jm] at h
   simp only [zab] at h
   obtain ⟨i, h1, j, h2, h3⟩ := h
   split at h3
   case isFalse => cases h3
   split at h3
   case isFalse => cases h3
   simp only [zab] at h3
   obtain ⟨cs, h4, q, h5, h6⟩ := h3
   obtain ⟨rfl, rfl⟩ : AV.ro n q.1 = t ∧ id :: q.2 = I := by simpa using h6
   rw [Sd, h4, zac, ih _ _ _ _ h5]
   rfl
  | agg cs =>
   rw [Jl] at h
   simp only [zab] at h
   obtain ⟨i, h1, q, h2, h3⟩ := h
   obtain ⟨rfl, rfl⟩ : AV.agg q.1 = t ∧ q.2 = I := by simpa using h3
   rw [Nd, ih _ _ _ _ h2]
   rfl
  | tup cs =>
   rw [Kk] at h
   simp only [zab] at h
   obtain ⟨i, h1, q, h2, h3⟩ := h
   obtain ⟨rfl, rfl⟩ : AV.tup q.1 = t ∧ q.2 = I := by simpa using h3
   show (cs.mapM (Dz H d)).bind _ = _
   rw [ih _ _ _ _ h2]
   rfl
  | _ => simp [Dk] at h
theorem M8 {f g : Nat → AV → Prop} (hfg : ∀ t x, f t x → g t x) : ∀ {ts : List Nat} {cs : List AV}, Hb f ts cs → Hb g ts cs
 | [], [], h => h
 | _ :: ts, _ :: cs, h => ⟨hfg _ _ h.1, M8 hfg h.2⟩
theorem Rw : ∀ (d ty : Nat) (x : AV), I1 ti tp d ty x → I1 ti tp (d + 1) ty x
 | 0, _, _, h => by cases h
 | d + 1, ty, x, h => by
  cases x with
  | sc v => trivial
  | ro n cells =>
   obtain ⟨i, j, h1, h2, h3, h4⟩ := h
   exact ⟨i, j, h1, h2, h3, M8 (Rw d) h4⟩
  | agg cs =>
   obtain ⟨i, h1, h2⟩ := h
   exact ⟨i, h1, M8 (Rw d) h2⟩
  | tup cs =>
   obtain ⟨i, h1, h2⟩ := h
   exact ⟨i, h1, M8 (Rw d) h2⟩
  | _ => cases h
theorem Cd {d d' ty : Nat} {x : AV} (h : I1 ti tp d ty x) (hd : d ≤ d') : I1 ti tp d' ty x := by
 induction hd with
 | refl => exact h
 | step _ ih => exact Rw _ _ _ ih
theorem AiD {d d' : Nat} {ts : List Nat} {cs : List AV} (h : Hb (I1 ti tp d) ts cs) (hd : d ≤ d') : Hb (I1 ti tp d') ts cs := M8 (fun _ _ h => Cd h hd) h
end
inductive Ck where
 | blk (id : Nat) (cs : List AV) (a : Bool)
 | own (x : AV) (ty : Nat) (t : AV)
 | shr (x : AV) (ty : Nat) (t : AV) (y : AV) (ty' : Nat) (t' : AV)
 | shs (x : AV) (ty : Nat) (t : AV) (ys : List (AV × Nat × AV))
def CkOk (H : Ad) (c : Ck) (I : List Nat) : Prop :=
 match c with
 | .blk id cs a => I = [id] ∧ H[id]? = some ⟨cs, true, a⟩
 | .own x ty t => Bn x = true ∧ I1 Au E0.tp 6 ty t ∧ Dk Au E0.tp H 6 ty x = some (t, I)
 | .shr x ty t y ty' t' => (Bn x = true ∧ I1 Au E0.tp 6 ty t ∧ Dk Au E0.tp H 6 ty x = some (t, I)) ∧ I1 Au E0.tp 6 ty' t' ∧ ∃ J, Dk Au E0.tp H 6 ty' y = some (t', J) ∧ ∀ i ∈ J, i ∈ I
 | .shs x ty t ys => (Bn x = true ∧ I1 Au E0.tp 6 ty t ∧ Dk Au E0.tp H 6 ty x = some (t, I)) ∧ ∀ q ∈ ys, I1 Au E0.tp 6 q.2.1 q.2.2 ∧ ∃ J, Dk Au E0.tp H 6 q.2.1 q.1 = some (q.2.2, J) ∧ ∀ i ∈ J, i ∈ I
def SepI (H : Ad) : List Ck → List Nat → Prop
 | [], I => I = []
 | c :: L, I => ∃ J R, I = J ++ R ∧ CkOk H c J ∧ SepI H L R
def Sep (H : Ad) (L : List Ck) : Prop := ∃ I, SepI H L I ∧ I.Nodup
inductive Pk : List Ck → Ck → List Ck → Prop
 | here {c : Ck} {L : List Ck} : Pk (c :: L) c L
 | there {a c : Ck} {L L' : List Ck} : Pk L c L' → Pk (a :: L) c (a :: L')
section
variable {H H' : Ad} {L L' L1 L2 : List Ck} {c : Ck} {I J R : List Nat}
theorem Cx : Sep H [] := ⟨[], rfl, List.nodup_nil⟩
theorem CkOk.frame (h : CkOk H c I) (hs : ∀ i ∈ I, H'[i]? = H[i]?) : CkOk H' c I := by
 cases c with
 | blk id cs a =>
  obtain ⟨rfl, h2⟩ := h
  exact ⟨rfl, by rw [hs id (by simp)]; exact h2⟩
 | own x ty t => exact ⟨h.1, h.2.1, F6 6 ty x _ h.2.2 hs⟩
 | shr x ty t y ty' t' =>
  obtain ⟨⟨h1, h2, h3⟩, h4, J, h5, h6⟩ := h
  exact ⟨⟨h1, h2, F6 6 ty x _ h3 hs⟩, h4, J, F6 6 ty' y _ h5 fun i hi => hs i (h6 i hi), h6⟩
 | shs x ty t ys =>
  obtain ⟨⟨h1, h2, h3⟩, h4⟩ := h
  exact ⟨⟨h1, h2, F6 6 ty x _ h3 hs⟩, fun q hq => by
   obtain ⟨g1, J, g2, g3⟩ := h4 q hq
   exact ⟨g1, J, F6 6 _ _ _ g2 fun i hi => hs i (g3 i hi), g3⟩⟩
theorem CkOk.lt (h : CkOk H c I) : ∀ i ∈ I, i < H.length := by
 cases c with
 | blk id cs a =>
  obtain ⟨rfl, h2⟩ := h
  intro i hi
  rw [zbl] at hi
  subst hi
  exact (zad.1 h2).1
 | own x ty t => exact Pf 6 ty x _ h.2.2
 | shr x ty t y ty' t' => exact Pf 6 ty x _ h.1.2.2
 | shs x ty t ys => exact Pf 6 ty x _ h.1.2.2
theorem SepI.frame : ∀ {L : List Ck} {I : List Nat}, SepI H L I → (∀ i ∈ I, H'[i]? = H[i]?) → SepI H' L I
 | [], I, h, _ => h
 | c :: L, I, h, hs => by
  obtain ⟨J, R, rfl, h1, h2⟩ := h
  exact ⟨J, R, rfl, h1.frame fun i hi => hs i (zaD _ hi), h2.frame fun i hi => hs i (zaL _ hi)⟩
theorem SepI.lt : ∀ {L : List Ck} {I : List Nat}, SepI H L I → ∀ i ∈ I, i < H.length
 | [], I, h => by
  cases (show I = [] from h)
  intro i hi
  cases hi
 | c :: L, I, h => by
  obtain ⟨J, R, rfl, h1, h2⟩ := h
  intro i hi
  rcases zaR.1 hi with hi | hi
  ·exact h1.lt i hi
  ·exact h2.lt i hi
theorem SepI.grow (h : SepI H L I) (X : List Jb) : SepI (H ++ X) L I := h.frame fun i hi => zai (h.lt i hi)
theorem Sep.grow (h : Sep H L) (X : List Jb) : Sep (H ++ X) L := by
 obtain ⟨I, h1, h2⟩ := h
 exact ⟨I, h1.grow X, h2⟩
theorem Sep.new {X : List Jb} (hs : Sep H L) (hc : CkOk (H ++ X) c J) (hJ : J.Nodup) (hge : ∀ i ∈ J, H.length ≤ i) : Sep (H ++ X) (c :: L) := by
 obtain ⟨I, h1, h2⟩ := hs
 refine ⟨J ++ I, ⟨J, I, rfl, hc, h1.grow X⟩, zba.2 ⟨hJ, h2, fun a ha b hb e => ?_⟩⟩
 have := h1.lt b hb
 have := hge a ha
 omega
theorem Pk.sepI : ∀ {L L' : List Ck} {c : Ck} {I : List Nat}, Pk L c L' → SepI H L I → ∃ J R, CkOk H c J ∧ SepI H L' R ∧ I.Perm (J ++ R)
 | _, _, _, _, .here, h => by
  obtain ⟨J, R, rfl, h1, h2⟩ := h
  exact ⟨J, R, h1, h2, zbA.refl _⟩
 | _, _, _, _, .there p, h => by
  obtain ⟨J, R, rfl, h1, h2⟩ := h
  obtain ⟨J', R', g1, g2, g3⟩ := p.sepI h2
  refine ⟨J', J ++ R', g1, ⟨J, R', rfl, h1, g2⟩, ?_⟩
  refine (zbA.append_left J g3).trans ?_
  rw [← zaf, ← zaf]
  exact zbA.append_right R' List.perm_append_comm
theorem Sep.pick (h : Sep H L) (p : Pk L c L') : Sep H (c :: L') := by
 obtain ⟨I, h1, h2⟩ := h
 obtain ⟨J, R, g1, g2, g3⟩ := p.sepI h1
 exact ⟨J ++ R, ⟨J, R, rfl, g1, g2⟩, g3.nodup_iff.1 h2⟩
theorem Sep.tail (h : Sep H (c :: L)) : Sep H L := by
 obtain ⟨I, ⟨J, R, rfl, h1, h2⟩, h3⟩ := h
 exact ⟨R, h2, (zba.1 h3).2.1⟩
theorem Sep.blk {id : Nat} {cs : List AV} {a : Bool} (h : Sep H L) (p : Pk L (.blk id cs a) L') : H[id]? = some ⟨cs, true, a⟩ := by
 obtain ⟨I, ⟨J, R, rfl, h1, h2⟩, h3⟩ := h.pick p
 exact h1.2
theorem Sep.put {id : Nat} {cs : List AV} {a : Bool} (h : Sep H L) (p : Pk L (.blk id cs a) L') (cs' : List AV) (a' : Bool) : Sep (H.set id ⟨cs', true, a'⟩) (.blk id cs' a' :: L') := by
 obtain ⟨I, ⟨J, R, rfl, ⟨rfl, h1⟩, h2⟩, h3⟩ := h.pick p
 have hn := (zbi.1 h3).1
 have hl := (zad.1 h1).1
 refine ⟨[id] ++ R, ⟨[id], R, rfl, ⟨rfl, by rw [List.getElem?_set_self hl]⟩, h2.frame fun i hi => ?_⟩, h3⟩
 rw [zbC]
 rintro rfl
 exact hn hi
theorem Sep.own {x t : AV} {ty : Nat} (h : Sep H L) (p : Pk L (.own x ty t) L') : Bn x = true ∧ I1 Au E0.tp 6 ty t ∧ ∃ I, Dk Au E0.tp H 6 ty x = some (t, I) ∧ I.Nodup := by
 obtain ⟨I, ⟨J, R, rfl, ⟨h0, h1, h1'⟩, h2⟩, h3⟩ := h.pick p
 exact ⟨h0, h1, J, h1', (zba.1 h3).1⟩
theorem Sep.seen {x t y t' : AV} {ty ty' : Nat} (h : Sep H L) (p : Pk L (.shr x ty t y ty' t') L') : I1 Au E0.tp 6 ty' t' ∧ ∃ I, Dk Au E0.tp H 6 ty' y = some (t', I) := by
 obtain ⟨I, ⟨J, R, rfl, ⟨h0, h1, J', h1', h3⟩, h2⟩, h4⟩ := h.pick p
 exact ⟨h1, J', h1'⟩
theorem Sep.ofShs {x t : AV} {ty : Nat} {ys : List (AV × Nat × AV)} (h : Sep H L) (p : Pk L (.shs x ty t ys) L') : Sep H (.own x ty t :: L') := by
 obtain ⟨I, ⟨J, R, rfl, ⟨h0, _⟩, h2⟩, h3⟩ := h.pick p
 exact ⟨J ++ R, ⟨J, R, rfl, h0, h2⟩, h3⟩
theorem Sep.seenS {x t : AV} {ty k : Nat} {ys : List (AV × Nat × AV)} {q : AV × Nat × AV} (h : Sep H L) (p : Pk L (.shs x ty t ys) L') (hk : ys[k]? = some q) : I1 Au E0.tp 6 q.2.1 q.2.2 ∧ ∃ I, Dk Au E0.tp H 6 q.2.1 q.1 = some (q.2.2, I) := by
 obtain ⟨I, ⟨J, R, rfl, ⟨h0, h1⟩, h2⟩, h4⟩ := h.pick p
 obtain ⟨g1, J', g2, _⟩ := h1 q (List.mem_of_getElem? hk)
 exact ⟨g1, J', g2⟩
theorem Sep.nl {ty : Nat} (h : Sep H L) (hty : ∃ i j, Au ty = some i ∧ Au i.elem = some j) : Sep H (.own .nl ty (.ro 0 []) :: L) := by
 obtain ⟨I, h1, h2⟩ := h
 obtain ⟨i, j, e1, e2⟩ := hty
 exact ⟨[] ++ I, ⟨[], I, rfl, ⟨rfl, ⟨i, j, e1, e2, by simp, by simp [Hb]⟩, rfl⟩, h1⟩, h2⟩
inductive OwnR : List Ck → List AV → List Nat → List AV → List Ck → Prop
 | nil {L : List Ck} : OwnR L [] [] [] L
 | sc {L L' : List Ck} {v : Value} {raw cells : List AV} {ty : Nat} {tys : List Nat} : OwnR L raw tys cells L' → OwnR L (.sc v :: raw) (ty :: tys) (.sc v :: cells) L'
 | nl {L L' : List Ck} {raw cells : List AV} {ty : Nat} {tys : List Nat} : OwnR L raw tys cells L' → OwnR L (.nl :: raw) (ty :: tys) (.ro 0 [] :: cells) L'
 | own {L L1 L' : List Ck} {x t : AV} {raw cells : List AV} {ty : Nat} {tys : List Nat} : Pk L (.own x ty t) L1 → OwnR L1 raw tys cells L' → OwnR L (x :: raw) (ty :: tys) (t :: cells) L'
 | agg {L L1 L' : List Ck} {cs ts raw cells : List AV} {ty : Nat} {tys cty : List Nat} : (∃ i, Au ty = some i ∧ i.cty = cty) → OwnR L cs cty ts L1 → OwnR L1 raw tys cells L' → OwnR L (.agg cs :: raw) (ty :: tys) (.agg ts :: cells) L'
theorem OwnR.sound : ∀ {L L' : List Ck} {raw cells : List AV} {tys : List Nat} {I : List Nat}, OwnR L raw tys cells L' → SepI H L I → ∀ d, Hb (I1 Au E0.tp d) tys cells → ∃ J R, Es (Dk Au E0.tp H d) tys raw = some (cells, J) ∧ SepI H L' R ∧ I.Perm (J ++ R)
 | _, _, _, _, _, I, .nil, h, d, _ => ⟨[], I, rfl, h, zbA.refl _⟩
 | _, _, _, _, _, I, .sc q, h, d + 1, ho => by
  obtain ⟨J, R, h1, h2, h3⟩ := q.sound h (d + 1) ho.2
  refine ⟨J, R, ?_, h2, h3⟩
  rw [Es, Y6, zac, h1]
  rfl
 | _, _, _, _, _, I, .nl q, h, d + 1, ho => by
  obtain ⟨J, R, h1, h2, h3⟩ := q.sound h (d + 1) ho.2
  refine ⟨J, R, ?_, h2, h3⟩
  rw [Es, show Dk Au E0.tp H (d + 1) _ .nl = some (.ro 0 [], []) from rfl, zac, h1]
  rfl
 | _, _, _, _, _, I, .own p q, h, d, ho => by
  obtain ⟨J1, R1, g1, g2, g3⟩ := p.sepI h
  obtain ⟨J, R, h1, h2, h3⟩ := q.sound g2 d ho.2
  have e := Kf 6 d _ _ _ _ g1.2.2 ho.1
  refine ⟨J1 ++ J, R, ?_, h2, ?_⟩
  ·rw [Es, e, zac, h1]
   rfl
  ·refine g3.trans ?_
   rw [zaf]
   exact zbA.append_left J1 h3
 | _, _, _, _, _, I, .agg hty p q, h, d + 1, ho => by
  obtain ⟨i, e1, rfl⟩ := hty
  obtain ⟨i', g1, g2⟩ := ho.1
  rw [e1] at g1
  cases g1
  obtain ⟨J1, R1, a1, a2, a3⟩ := p.sound h (d + 1) (AiD g2 (Nat.le_succ d))
  obtain ⟨J, R, h1, h2, h3⟩ := q.sound a2 (d + 1) ho.2
  have a1' := Pe (fun ty x t I h ho => Kf (d + 1) d ty x t I h ho) _ _ _ _ a1 g2
  refine ⟨J1 ++ J, R, ?_, h2, ?_⟩
  ·rw [Es, Jl, e1, zac, a1', zac, zac, h1]
   rfl
  ·refine a3.trans ?_
   rw [zaf]
   exact zbA.append_left J1 h3
 | _, _, _, _, _, I, .sc q, h, 0, ho => by cases ho.1
 | _, _, _, _, _, I, .nl q, h, 0, ho => by cases ho.1
 | _, _, _, _, _, I, .agg _ p q, h, 0, ho => by cases ho.1
end
end
section
open Go
theorem C0 {a0 x : Ck} {L : List Ck} : Pk (a0 :: x :: L) x (a0 :: L) := .there (.here)
theorem Dj {a0 a1 x : Ck} {L : List Ck} : Pk (a0 :: a1 :: x :: L) x (a0 :: a1 :: L) := .there (.there (.here))
theorem Mv {a0 a1 a2 x : Ck} {L : List Ck} : Pk (a0 :: a1 :: a2 :: x :: L) x (a0 :: a1 :: a2 :: L) := .there (.there (.there (.here)))
theorem Mw {a0 a1 a2 a3 x : Ck} {L : List Ck} : Pk (a0 :: a1 :: a2 :: a3 :: x :: L) x (a0 :: a1 :: a2 :: a3 :: L) := .there (.there (.there (.there (.here))))
theorem W1 {a0 a1 a2 a3 a4 x : Ck} {L : List Ck} : Pk (a0 :: a1 :: a2 :: a3 :: a4 :: x :: L) x (a0 :: a1 :: a2 :: a3 :: a4 :: L) := .there (.there (.there (.there (.there (.here)))))
theorem Zi {a0 a1 a2 a3 a4 a5 x : Ck} {L : List Ck} : Pk (a0 :: a1 :: a2 :: a3 :: a4 :: a5 :: x :: L) x (a0 :: a1 :: a2 :: a3 :: a4 :: a5 :: L) := .there (.there (.there (.there (.there (.there (.here))))))
theorem zP7 {a0 a1 a2 a3 a4 a5 a6 x : Ck} {L : List Ck} : Pk (a0 :: a1 :: a2 :: a3 :: a4 :: a5 :: a6 :: x :: L) x (a0 :: a1 :: a2 :: a3 :: a4 :: a5 :: a6 :: L) := .there (.there (.there (.there (.there (.there (.there (.here)))))))
theorem zP8 {a0 a1 a2 a3 a4 a5 a6 a7 x : Ck} {L : List Ck} : Pk (a0 :: a1 :: a2 :: a3 :: a4 :: a5 :: a6 :: a7 :: x :: L) x (a0 :: a1 :: a2 :: a3 :: a4 :: a5 :: a6 :: a7 :: L) := .there (.there (.there (.there (.there (.there (.there (.there (.here))))))))
def Gd {β : Type} (G : Option β → Prop) (o : Option β) : Prop := G o
section
variable {β : Type} {n : Nat} {H : Ad} {L L' L1 L2 : List Ck} {G : Option β → Prop} {K : AV → Option β} {KH : KO β}
theorem Ei {a b : Option β} (e : a = b) (h : Gd G b) : Gd G a := by rw [e]; exact h
theorem I6 {cs : List AV} (hs : Sep H L) (h : ∀ i H', Sep H' (.blk i cs true :: L) → Gd G (KH (.ptr i 0) H')) : Gd G (Y9 cs H fun x H => KH x H) :=
 h _ _ (hs.new (J := [H.length]) ⟨rfl, by rw [zah (zam _), zaZ]; rfl⟩ (by simp) (by simp))
theorem Co {k w : Nat} {cs : List AV} {a : Bool} (hs : Sep H L) (h : ∀ i H', Sep H' (.blk i cs a :: L) → Gd G (KH (.sl i 0 k w) H')) : Gd G (Hm k w cs a H fun x H => KH x H) :=
 h _ _ (hs.new (J := [H.length]) ⟨rfl, by rw [zah (zam _), zaZ]; rfl⟩ (by simp) (by simp))
theorem Od {x : AV} {cs : List AV} (hs : Sep H L) (hc : Ft x = some cs) (h : ∀ i H', Sep H' (.blk i cs true :: L) → Gd G (KH (.ptr i 0) H')) : Gd G (W7 x H fun x H => KH x H) := by
 refine Ei (b := Y9 cs H fun x H => KH x H) ?_ (I6 hs h)
 show (Ft x).bind _ = _
 rw [hc]
 rfl
theorem G6 {cs : List AV} (h : cs.all Mq = true) : Ft (.agg cs) = some cs := Aaj h
theorem Ak {cs : List AV} (h : cs.all Bn = true) : Ft (.agg cs) = some cs := by
 show (if cs.all Bn then some cs else none) = _
 rw [if_pos h]
theorem Af {x : AV} {xs : List AV} (h : Bn x = true) (hs : xs.all Bn = true) : (x :: xs).all Bn = true := by
 rw [zap, h, hs]
 rfl
theorem Eh {x : AV} (h : Bn x = true) : Ft x = some [x] := by
 cases x <;> simp_all [Ft, Bn]
theorem Ap {i o : Nat} {cs : List AV} {a : Bool} {c : AV} (hs : Sep H L) (hp : Pk L (.blk i cs a) L1) (hc : cs[o]? = some c) (h : Gd G (K c)) : Gd G (C3 false 1 (.ptr i o) H fun x => K x) := by
 refine Ei ?_ h
 obtain ⟨hlt, he⟩ := zad.1 hc
 have e : Bc H i o 1 = some [c] := by
  simp only [Bc, hs.blk hp, if_true]
  rw [if_pos (by omega), zbh hlt, he]
  rfl
 exact ldF e _
theorem AlM {i o w : Nat} {cs ds : List AV} {a : Bool} (hs : Sep H L) (hp : Pk L (.blk i cs a) L1) (hl : o + w ≤ cs.length) (hc : (cs.drop o).take w = ds) (h : Gd G (K (.agg ds))) : Gd G (C3 true w (.ptr i o) H fun x => K x) := by
 refine Ei ?_ h
 have e : Bc H i o w = some ds := by
  simp only [Bc, hs.blk hp, if_true]
  rw [if_pos hl, hc]
 exact ldT e _
theorem At {i w : Nat} {cs : List AV} {a : Bool} (hs : Sep H L) (hp : Pk L (.blk i cs a) L1) (hl : cs.length = w) (h : Gd G (K (.agg cs))) : Gd G (C3 true w (.ptr i 0) H fun x => K x) :=
 AlM hs hp (by omega) (by rw [zaT, ← hl, zaK]) h
theorem Ci {i o w : Nat} {cs cs' ds : List AV} {a : Bool} {y : AV} {KS : Ad → Option β} (hs : Sep H L) (hp : Pk L (.blk i cs a) L1) (hy : Ft y = some ds) (hd : ds.length = w) (hl : o + w ≤ cs.length) (hc : Gx cs o ds = cs') (h : ∀ H', Sep H' (.blk i cs' a :: L1) → Gd G (KS H')) : Gd G (G8 w (.ptr i o) y H fun H => KS H) := by
 have hb := hs.blk hp
 refine Ei (Ac6 w i o y ⟨cs, true, a⟩ ds H _ hb hy hd hl rfl) ?_
 have := hs.put hp cs' a
 rw [← hc] at this
 exact h _ (by rw [← hc]; exact this)
theorem Fg {cells : List AV} {c : AV} (hc : cells[0]? = some c) (h : Gd G (K c)) : Gd G (C3 false 1 (.rp cells) H fun x => K x) := by
 cases cells with
 | nil => cases hc
 | cons x xs =>
  obtain rfl : x = c := by simpa using hc
  refine Ei (O5 x xs H _) h
theorem AjA {w : Nat} {cs rest : List AV} (hw : cs.length = w) (h : Gd G (K (.agg cs))) : Gd G (C3 true w (.rp (cs ++ rest)) H fun x => K x) := Ei (Aaq w cs rest H _ hw) h
theorem Ab {o i off o' : Nat} (e : off + o = o') (h : Gd G (K (.ptr i o'))) : Gd G (Kx o (.ptr i off) fun x => K x) := by subst e; exact h
theorem Pv {o : Nat} {cells : List AV} (h : Gd G (K (.rp (cells.drop o)))) : Gd G (Kx o (.rp cells) fun x => K x) := h
theorem Df {id off : Nat} (h : Gd G (K (.ptr id off))) : Gd G (AiJ (.ptr id off) fun t => K t) := h
theorem Ko {z cs z' r : List AV} {o n : Nat} {v : AV} {rest : List (Nat × Nat × AV)} (h : Ft v = some cs) (hl : cs.length = n) (ho : o + n ≤ z.length) (hz : Gx z o cs = z') (h2 : Jh z' rest = some r) : Jh z ((o, n, v) :: rest) = some r := by
 subst hz
 subst hl
 simp only [Jh, h, zac, if_true, if_pos ho]
 exact h2
theorem Bg {zs cs : List AV} {ps : List (Nat × Nat × AV)} {KL : List AV → Option β} (hf : Jh zs ps = some cs) (h : Gd G (KL cs)) : Gd G ((Jh zs ps).bind fun c => KL c) := by
 rw [hf]
 exact h
theorem B0 {i : Nat} {vs : List AV} {v : AV} (hv : vs[i]? = some v) (h : Gd G (K v)) : Gd G (Tv (.tup vs) i fun x => K x) := by
 refine Ei ?_ h
 show (vs[i]?).bind _ = _
 rw [hv]
 rfl
theorem Cz {m : Nat} {cs : List AV} (h : Gd G (K (.sc (.int .i64 m)))) : Gd G (Jo (.ro m cs) fun x => K x) := h
theorem AfY {s : ByteArray} (h : Gd G (K (.sc (.int .i64 s.size)))) : Gd G (X3 (.sc (.string s)) fun x => K x) := h
theorem Ai4 {d ty m : Nat} {x : AV} {cells : List AV} {I : List Nat} (h : Dk Au E0.tp H d ty x = some (.ro m cells, I)) : Ju x = some m := by
 cases d with
 | zero => simp [Dk] at h
 | succ d =>
  cases x with
  | sc v => simp [Dk] at h
  | nl =>
   have := (Option.some.inj h)
   simp only [Prod.mk.injEq, AV.ro.injEq] at this
   rw [← this.1.1]
   rfl
  | sl id off n z =>
   rw [Jm] at h
   simp only [zab] at h
   obtain ⟨i, h1, j, h2, h3⟩ := h
   split at h3
   case isFalse => cases h3
   split at h3
   case isFalse => cases h3
   simp only [zab] at h3
   obtain ⟨cs, h4, q, h5, h6⟩ := h3
   obtain ⟨h7, -⟩ : AV.ro n q.1 = .ro m cells ∧ _ := by simpa only [Prod.mk.injEq, Option.some.injEq] using h6
   cases h7
   rfl
  | agg cs =>
   rw [Jl] at h
   simp only [zab] at h
   obtain ⟨i, h1, q, h2, h3⟩ := h
   simp at h3
  | tup cs =>
   rw [Kk] at h
   simp only [zab] at h
   obtain ⟨i, h1, q, h2, h3⟩ := h
   simp at h3
  | _ => simp [Dk] at h
theorem J7 {x : AV} {ty m : Nat} {cells : List AV} (hs : Sep H L) (hp : Pk L (.own x ty (.ro m cells)) L1) (h : Gd G (K (.sc (.int .i64 m)))) : Gd G (Jo x fun x => K x) := by
 obtain ⟨_, _, I, e, _⟩ := hs.own hp
 have hl := Ai4 e
 refine Ei ?_ h
 have key : ∀ (x : AV), (∀ v, x ≠ .sc v) → Ju x = some m → Jo x K = K (.sc (.int .i64 m)) := by
  intro x hx hl
  cases x with
  | sc v => exact absurd rfl (hx v)
  | nl => cases hl; rfl
  | ro n cs => cases hl; rfl
  | sl a b c d => cases hl; rfl
  | _ => cases hl
 refine key x (fun v hv => ?_) hl
 subst hv
 simp [Dk] at e
theorem Qb {op : BinOp} {x y v : AV} (e : ∀ k : AV → Option β, Cs op x y k = k v) (h : Gd G (K v)) : Gd G (Cs op x y fun t => K t) := Ei (e _) h
theorem Be {a b : Int} (h : Gd G (K (.sc (.bool (decide (a = b)))))) : Gd G (Cs .eql (.sc (.int .i64 a)) (.sc (.int .i64 b)) fun t => K t) := h
theorem Mi {a b : Int} (h : Gd G (K (.sc (.bool (!decide (a = b)))))) : Gd G (Cs .neq (.sc (.int .i64 a)) (.sc (.int .i64 b)) fun t => K t) := h
theorem Dw {a b : Int} (h : Gd G (K (.sc (.bool (decide (a < b)))))) : Gd G (Cs .lss (.sc (.int .i64 a)) (.sc (.int .i64 b)) fun t => K t) := h
theorem Ku {a b : Int} (h : Gd G (K (.sc (.bool (decide (a ≤ b)))))) : Gd G (Cs .leq (.sc (.int .i64 a)) (.sc (.int .i64 b)) fun t => K t) := h
theorem Er {a b : Int} (h : Gd G (K (.sc (.bool (decide (b < a)))))) : Gd G (Cs .gtr (.sc (.int .i64 a)) (.sc (.int .i64 b)) fun t => K t) := h
theorem Aj9 {a b : Int} (h : Gd G (K (.sc (.bool (decide (b ≤ a)))))) : Gd G (Cs .geq (.sc (.int .i64 a)) (.sc (.int .i64 b)) fun t => K t) := h
theorem B9 {a b : Int} (h0 : -9223372036854775808 ≤ a + b) (h1 : a + b ≤ 9223372036854775807) (h : Gd G (K (.sc (.int .i64 (a + b))))) : Gd G (Cs .add (.sc (.int .i64 a)) (.sc (.int .i64 b)) fun t => K t) := by
 refine Ei ?_ h
 show K (.sc (.int .i64 (IntKind.i64.wrap (a + b)))) = _
 rw [H9 _ h0 h1]
theorem O2 {a b : Int} (h0 : -9223372036854775808 ≤ a - b) (h1 : a - b ≤ 9223372036854775807) (h : Gd G (K (.sc (.int .i64 (a - b))))) : Gd G (Cs .sub (.sc (.int .i64 a)) (.sc (.int .i64 b)) fun t => K t) := by
 refine Ei ?_ h
 show K (.sc (.int .i64 (IntKind.i64.wrap (a - b)))) = _
 rw [H9 _ h0 h1]
theorem Rh {a b : Int} (h0 : -9223372036854775808 ≤ a * b) (h1 : a * b ≤ 9223372036854775807) (h : Gd G (K (.sc (.int .i64 (a * b))))) : Gd G (Cs .mul (.sc (.int .i64 a)) (.sc (.int .i64 b)) fun t => K t) := by
 refine Ei ?_ h
 show K (.sc (.int .i64 (IntKind.i64.wrap (a * b)))) = _
 rw [H9 _ h0 h1]
theorem AfX {a b : ByteArray} (h : Gd G (K (.sc (.bool (a.toList == b.toList))))) : Gd G (Cs .eql (.sc (.string a)) (.sc (.string b)) fun t => K t) := h
theorem Sm {a b : ByteArray} (h : Gd G (K (.sc (.bool (!(a.toList == b.toList)))))) : Gd G (Cs .neq (.sc (.string a)) (.sc (.string b)) fun t => K t) := h
theorem C2 {b : Bool} (h : Gd G (K (.sc (.bool (!b))))) : Gd G (pUn .not (.sc (.bool b)) fun t => K t) := h
theorem Di {α : Sort _} {γ : Type} {G : Option γ → Prop} {x : α} {f : α → Option γ} (h : Gd G (f x)) : Gd G (E8 x f) := h
theorem As {b : Bool} {x y : Option β} (hb : b = true) (h : Gd G x) : Gd G (Em (.sc (.bool b)) x y) := by subst hb; exact h
theorem Ax {b : Bool} {x y : Option β} (hb : b = false) (h : Gd G y) : Gd G (Em (.sc (.bool b)) x y) := by subst hb; exact h
theorem Ae {b t : Bool} {m : (KO β) → Option β} (hb : b = t) (h : Gd G (m fun x H => KH x H)) : Gd G (Jn (.sc (.bool b)) t H m fun x H => KH x H) := by
 subst hb
 cases b <;> exact h
theorem Ac {b t : Bool} {m : (KO β) → Option β} (hb : b = !t) (h : Gd G (KH (.sc undef) H)) : Gd G (Jn (.sc (.bool b)) t H m fun x H => KH x H) := by
 subst hb
 cases t <;> exact h
theorem D1 {t : Bool} {m : (KO β) → Option β} (h : Gd G (KH (.sc undef) H)) : Gd G (Jn (.sc undef) t H m fun x H => KH x H) := h
theorem B4 {b : Bool} {x y : AV} (hb : b = true) (h : Gd G (K x)) : Gd G (Oi (.sc (.bool b)) x y fun t => K t) := by
 subst hb
 cases x <;> cases y <;> exact h
theorem A7 {b : Bool} {x y : AV} (hb : b = false) (h : Gd G (K y)) : Gd G (Oi (.sc (.bool b)) x y fun t => K t) := by
 subst hb
 cases x <;> cases y <;> exact h
inductive VwC (L : List Ck) : Nat → AV → AV → Prop
 | sc {d : Nat} {v : Value} : VwC L (d + 1) (.sc v) (.sc v)
 | nl {d : Nat} : VwC L (d + 1) .nl (.ro 0 [])
 | ro {d n : Nat} {cs : List AV} : VwC L (d + 1) (.ro n cs) (.ro n cs)
 | rp {d : Nat} {cs : List AV} : VwC L (d + 1) (.rp cs) (.rp cs)
 | own {d : Nat} {x t : AV} {ty : Nat} {L' : List Ck} : 6 ≤ d → Pk L (.own x ty t) L' → VwC L d x t
 | shr {d : Nat} {x t y t' : AV} {ty ty' : Nat} {L' : List Ck} : 6 ≤ d → Pk L (.shr x ty t y ty' t') L' → VwC L d y t'
 | shsE {d k : Nat} {x t y t' : AV} {ty ty' : Nat} {ys : List (AV × Nat × AV)} {L' : List Ck} : 6 ≤ d → Pk L (.shs x ty t ys) L' → ys[k]? = some (y, ty', t') → VwC L d y t'
 | shsO {d : Nat} {x t : AV} {ty : Nat} {ys : List (AV × Nat × AV)} {L' : List Ck} : 6 ≤ d → Pk L (.shs x ty t ys) L' → VwC L d x t
end
inductive VwL (L : List Ck) : Nat → List AV → List AV → Prop
 | nil {d : Nat} : VwL L d [] []
 | cons {d : Nat} {x t : AV} {xs ts : List AV} : VwC L d x t → VwL L d xs ts → VwL L d (x :: xs) (t :: ts)
 | agg {d : Nat} {cs ds xs ts : List AV} : VwL L d cs ds → VwL L (d + 1) xs ts → VwL L (d + 1) (.agg cs :: xs) (.agg ds :: ts)
 | aggF {d : Nat} {cs xs ts : List AV} : cs.all Mq = true → VwL L (d + 2) xs ts → VwL L (d + 2) (.agg cs :: xs) (.agg cs :: ts)
 | sl {d i k w : Nat} {cs ds xs ts : List AV} {a : Bool} {L' : List Ck} : Pk L (.blk i cs a) L' → cs.length = k * w → VwL L d cs ds → VwL L (d + 1) xs ts → VwL L (d + 1) (.sl i 0 k w :: xs) (.ro k ds :: ts)
 | slA {d i o k w : Nat} {cs ds xs ts : List AV} {a : Bool} {L' : List Ck} : Pk L (.blk i cs a) L' → o + k * w ≤ cs.length → VwL L d ((cs.drop o).take (k * w)) ds → VwL L (d + 1) xs ts → VwL L (d + 1) (.sl i o k w :: xs) (.ro k ds :: ts)
 | ptr {d i : Nat} {cs ds xs ts : List AV} {a : Bool} {L' : List Ck} : Pk L (.blk i cs a) L' → VwL L d cs ds → VwL L (d + 1) xs ts → VwL L (d + 1) (.ptr i 0 :: xs) (.rp ds :: ts)
 | fn {d f : Nat} {ps cs ps' cs' xs ts : List AV} : VwL L d ps ps' → VwL L d cs cs' → VwL L (d + 1) xs ts → VwL L (d + 1) (.fn f ps cs :: xs) (.fn f ps' cs' :: ts)
section
variable {β : Type} {n : Nat} {H : Ad} {L L' L1 L2 : List Ck} {G : Option β → Prop} {K : AV → Option β} {KH : KO β}
theorem VwC.sound (hs : Sep H L) {d : Nat} {x t : AV} (h : VwC L d x t) : Dz H d x = some t := by
 cases h with
 | sc => rfl
 | nl => rfl
 | ro => rfl
 | rp => rfl
 | own hd hp =>
  obtain ⟨_, h1, I, h2, _⟩ := hs.own hp
  exact Pg d _ _ _ I (Kf 6 d _ _ _ _ h2 (Cd h1 hd))
 | shr hd hp =>
  obtain ⟨h1, I, h2⟩ := hs.seen hp
  exact Pg d _ _ _ I (Kf 6 d _ _ _ _ h2 (Cd h1 hd))
 | shsE hd hp hk =>
  obtain ⟨h1, I, h2⟩ := hs.seenS hp hk
  exact Pg d _ _ _ I (Kf 6 d _ _ _ _ h2 (Cd h1 hd))
 | shsO hd hp =>
  obtain ⟨_, h1, I, h2, _⟩ := (hs.ofShs hp).own .here
  exact Pg d _ _ _ I (Kf 6 d _ _ _ _ h2 (Cd h1 hd))
theorem Kb {d : Nat} {x t : AV} {xs ts : List AV} (h : Dz H d x = some t) (hs : xs.mapM (Dz H d) = some ts) : (x :: xs).mapM (Dz H d) = some (t :: ts) := by
 simp only [zaG, h, hs, zbb, zaM, zac]
theorem VwL.sound (hs : Sep H L) : ∀ {d : Nat} {xs ts : List AV}, VwL L d xs ts → xs.mapM (Dz H d) = some ts
 | _, _, _, .nil => rfl
 | _, _, _, .cons h q => Kb (h.sound hs) (q.sound hs)
 | _, _, _, .agg h q => Kb (by rw [Nd, h.sound hs]; rfl) (q.sound hs)
 | _, _, _, .aggF h q => Kb (by rw [Nd, Yu h]; rfl) (q.sound hs)
 | _, _, _, .sl (i := i) (k := k) (w := w) (cs := cs) hp hl h q => Kb (by
   rw [Sd]
   have hb := hs.blk hp
   have e : Bc H i 0 (k * w) = some cs := by
    simp only [Bc, hb, if_true, zaT, za2, ← hl, zam, zaK]
   rw [e, zac, h.sound hs]
   rfl) (q.sound hs)
 | _, _, _, .slA (i := i) (o := o) (k := k) (w := w) (cs := cs) hp hl h q => Kb (by
   rw [Sd]
   have hb := hs.blk hp
   have e : Bc H i o (k * w) = some ((cs.drop o).take (k * w)) := by
    simp only [Bc, hb, if_true, hl]
   rw [e, zac, h.sound hs]
   rfl) (q.sound hs)
 | _, _, _, .ptr (i := i) (cs := cs) hp h q => Kb (by
   have hb := hs.blk hp
   show ((H[i]?).bind fun b => (Bc H i 0 (b.cells.length - 0)).bind fun cs => (cs.mapM (Dz H _)).bind fun vs => some (AV.rp vs)) = _
   rw [hb, zac]
   have e : Bc H i 0 (cs.length - 0) = some cs := by
    simp only [Bc, hb, if_true, zaT, za2, Nat.sub_zero, zam, zaK]
   show (Bc H i 0 (cs.length - 0)).bind _ = _
   rw [e, zac, h.sound hs]
   rfl) (q.sound hs)
 | _, _, _, .fn (d := d) (ps := ps) (cs := cs) h1 h2 q => Kb (by
   show ((ps.mapM (Dz H d)).bind fun us => (cs.mapM (Dz H d)).bind fun ws => some (AV.fn _ us ws)) = _
   rw [h1.sound hs, zac, h2.sound hs]
   rfl) (q.sound hs)
theorem Uc {ty : Nat} {f : FuncId} {caps args vs : List AV} {t : AV} (hs : Sep H L) (hh : Fx f = false) (hv : VwL L 8 (args ++ caps) vs) (ht : Dd E0 n ty f vs = some t) (h : Gd G (KH (B7 Au E0.tp H.length ty t).1 (H ++ (B7 Au E0.tp H.length ty t).2))) : Gd G ((PR n β).call ty (.fn f [] caps) args H fun x H => KH x H) := Ei (Ael hh (hv.sound hs) ht) h
theorem Aq {ty : Nat} {f : FuncId} {args vs : List AV} {v : Value} (hs : Sep H L) (hh : Fx f = false) (hv : VwL L 8 args vs) (ht : Dd E0 n ty f vs = some (.sc v)) (h : Gd G (KH (.sc v) H)) : Gd G ((PR n β).call ty (.fn f [] []) args H fun x H => KH x H) := by
 refine Uc hs hh (by rw [zan]; exact hv) ht ?_
 rw [G7, zan]
 exact h
theorem Aao {ty m : Nat} {cells : List AV} (hs : Sep H L) (hok : I1 Au E0.tp 6 ty (.ro m cells)) : Bn (B7 Au E0.tp H.length ty (.ro m cells)).1 = true ∧ Sep (H ++ (B7 Au E0.tp H.length ty (.ro m cells)).2) (.own (B7 Au E0.tp H.length ty (.ro m cells)).1 ty (.ro m cells) :: L) := by
 have hl : Bn (B7 Au E0.tp H.length ty (.ro m cells)).1 = true := rfl
 refine ⟨hl, hs.new (J := List.range' H.length (B7 Au E0.tp H.length ty (.ro m cells)).2.length) ⟨hl, hok, Rz 6 ty _ H.length hok (Q1 _ _)⟩ List.nodup_range' fun i hi => ?_⟩
 rw [List.mem_range'_1] at hi
 exact hi.1
theorem Cg {ty m : Nat} {f : FuncId} {args vs cells : List AV} (hs : Sep H L) (hh : Fx f = false) (hv : VwL L 8 args vs) (ht : Dd E0 n ty f vs = some (.ro m cells)) (hok : I1 Au E0.tp 6 ty (.ro m cells)) (h : ∀ x H', Bn x = true → Sep H' (.own x ty (.ro m cells) :: L) → Gd G (KH x H')) : Gd G ((PR n β).call ty (.fn f [] []) args H fun x H => KH x H) := by
 refine Uc hs hh (by rw [zan]; exact hv) ht ?_
 obtain ⟨h1, h2⟩ := Aao hs hok
 exact h _ _ h1 h2
def InsL (ts : List Nat) (cs : List AV) (Φ : List AV → List Ck → Prop) : Prop := ∀ (H : Ad) (L : List Ck), Sep H L → ∃ xs Lx, xs = (A3 Au E0.tp H.length ts cs).1 ∧ Sep (H ++ (A3 Au E0.tp H.length ts cs).2) (Lx ++ L) ∧ Φ xs Lx
theorem Et {ts : List Nat} : InsL ts [] fun xs Lx => xs = [] ∧ Lx = [] := fun H L hs => ⟨[], [], rfl, by simpa [A3] using hs, rfl, rfl⟩
theorem Bm {ts : List Nat} {v : Value} {cs : List AV} {Φ : List AV → List Ck → Prop} (h : InsL ts.tail cs Φ) : InsL ts (.sc v :: cs) fun xs Lx => ∃ ys, xs = .sc v :: ys ∧ Φ ys Lx := fun H L hs => by
 obtain ⟨ys, Ly, e1, e2, e3⟩ := h H L hs
 refine ⟨.sc v :: ys, Ly, ?_, ?_, ys, rfl, e3⟩
 ·simp only [A3, G7, zav, zaO]
  rw [e1]
 ·simpa only [A3, G7, zav, zaO, zal] using e2
theorem J8 {ts : List Nat} {m ty : Nat} {cells cs : List AV} {Φ : List AV → List Ck → Prop} (hty : ts.headD 0 = ty) (hok : I1 Au E0.tp 6 ty (.ro m cells)) (h : InsL ts.tail cs Φ) : InsL ts (.ro m cells :: cs) fun xs Lx => ∃ x ys Ly, Bn x = true ∧ xs = x :: ys ∧ Lx = Ly ++ [.own x ty (.ro m cells)] ∧ Φ ys Ly := fun H L hs => by
 subst hty
 obtain ⟨h1, h2⟩ := Aao hs hok
 obtain ⟨ys, Ly, e1, e2, e3⟩ := h _ _ h2
 refine ⟨_ :: ys, Ly ++ [.own _ (ts.headD 0) (.ro m cells)], ?_, ?_, _, ys, Ly, h1, rfl, rfl, e3⟩
 ·simp only [A3]
  rw [e1, zae]
 ·simp only [A3]
  rw [zae, zaf] at e2
  rw [zaf]
  exact e2
theorem Rg {ty : Nat} {f : FuncId} {args vs cs : List AV} {cty : List Nat} {Φ : List AV → List Ck → Prop} (hs : Sep H L) (hh : Fx f = false) (hv : VwL L 8 args vs) (ht : Dd E0 n ty f vs = some (.agg cs)) (hty : ∃ i, Au ty = some i ∧ i.cty = cty) (hi : InsL cty cs Φ) (h : ∀ xs Lx H', Φ xs Lx → Sep H' (Lx ++ L) → Gd G (KH (.agg xs) H')) : Gd G ((PR n β).call ty (.fn f [] []) args H fun x H => KH x H) := by
 refine Uc hs hh (by rw [zan]; exact hv) ht ?_
 obtain ⟨i, e1, rfl⟩ := hty
 obtain ⟨xs, Lx, a1, a2, a3⟩ := hi H L hs
 rw [Sp, e1, zaJ, ← a1]
 exact h _ _ _ a3 a2
theorem Ew {ty : Nat} {f : FuncId} {args vs cs : List AV} {tys : List Nat} {Φ : List AV → List Ck → Prop} (hs : Sep H L) (hh : Fx f = false) (hv : VwL L 8 args vs) (ht : Dd E0 n ty f vs = some (.tup cs)) (hty : E0.tp ty = some tys) (hi : InsL tys cs Φ) (h : ∀ xs Lx H', Φ xs Lx → Sep H' (Lx ++ L) → Gd G (KH (.tup xs) H')) : Gd G ((PR n β).call ty (.fn f [] []) args H fun x H => KH x H) := by
 refine Uc hs hh (by rw [zan]; exact hv) ht ?_
 obtain ⟨xs, Lx, a1, a2, a3⟩ := hi H L hs
 rw [Sq, hty, zaJ, ← a1]
 exact h _ _ _ a3 a2
theorem J6 {ty : Nat} {f : FuncId} {caps args : List AV} (hh : E0.hm f = true) (he : E0.ext f = none) (h : Gd G (Ej E0 n β f (args ++ caps) H fun x H => KH x H)) : Gd G ((PR n β).call ty (.fn f [] caps) args H fun x H => KH x H) := by
 refine Ei ?_ h
 show Mc E0 (Ej E0 n) ty f ([] ++ args ++ caps) H _ = _
 simp only [Mc, he, hh, zal, if_true]
def Src (H : Ad) (L : List Ck) (sz : Nat) (cty : List Nat) (y : AV) (m : Nat) (cb : List AV) (L' : List Ck) : Prop :=
 ∀ I, SepI H L I → ∃ raw J R X, Ju y = some m ∧ Ec H sz y = some raw ∧ raw.all Bn = true ∧ raw.length = m * sz ∧ Es (Dk Au E0.tp H 5) (zaj m cty).flatten raw = some (cb, J) ∧ SepI H L' R ∧ I.Perm (J ++ (R ++ X))
def Ol : AV → Bool
 | .sc v => Og v
 | _ => false
theorem Xo {l : List AV} (h : l.all Ol = true) : l.all Bn = true := by
 rw [za7] at h ⊢
 intro x hx
 have := h x hx
 cases x <;> simp_all [Ol, Bn]
theorem Xy {d : Nat} : ∀ {ts : List Nat} {l : List AV}, ts.length = l.length → l.all Ol = true → Es (Dk Au E0.tp H (d + 1)) ts l = some (l, [])
 | [], [], _, _ => rfl
 | t :: ts, x :: l, h, hl => by
  rw [zap, zag] at hl
  cases x with
  | sc v =>
   rw [Es, Y6, zac, Xy (ts := ts) (l := l) (by simpa using h) hl.2]
   rfl
  | _ => simp [Ol] at hl
 | [], _ :: _, h, _ => by simp at h
 | _ :: _, [], h, _ => by simp at h
theorem AgH {sz m : Nat} {cty : List Nat} {cells : List AV} (hc : cty.length = sz) (hl : cells.length = m * sz) (hf : cells.all Ol = true) : Src H L sz cty (.ro m cells) m cells L := fun I h => by
 refine ⟨cells, [], I, [], rfl, ?_, Xo hf, hl, Xy (by simp [hc, hl]) hf, h, by simp⟩
 show (if cells.length = m * sz then some cells else none) = _
 rw [if_pos hl]
theorem Zf {sz m i : Nat} {cty : List Nat} {raw cb : List AV} {a : Bool} (hp : Pk L (.blk i raw a) L1) (hl : raw.length = m * sz) (hf : raw.all Bn = true) (hr : OwnR L1 raw (zaj m cty).flatten cb L2) (hok : Hb (I1 Au E0.tp 5) (zaj m cty).flatten cb) : Src H L sz cty (.sl i 0 m sz) m cb L2 := fun I h => by
 obtain ⟨J, R, ⟨rfl, h1⟩, h2, h3⟩ := hp.sepI h
 obtain ⟨J', R', g1, g2, g3⟩ := hr.sound h2 5 hok
 refine ⟨raw, J', R', [i], rfl, ?_, hf, hl, g1, g2, ?_⟩
 ·show (if sz = sz then Bc H i 0 (m * sz) else none) = _
  simp only [if_true, Bc, h1, za2, zaT, ← hl, zam, zaK]
 ·refine h3.trans (List.perm_append_comm.trans ?_)
  rw [← zaf]
  exact zbA.append_right [i] g3
theorem Y7 {d ty m : Nat} {x : AV} {cells : List AV} {I : List Nat} {i j : TI} (h1 : Au ty = some i) (h2 : Au i.elem = some j) (h : Dk Au E0.tp H (d + 1) ty x = some (.ro m cells, I)) :
  (x = .nl ∧ m = 0 ∧ cells = [] ∧ I = []) ∨ ∃ id off raw J b, x = .sl id off m j.size ∧ I = id :: J ∧ H[id]? = some b ∧ b.live = true ∧ b.app = true ∧ Bc H id off (m * j.size) = some raw ∧ Es (Dk Au E0.tp H d) (zaj m j.cty).flatten raw = some (cells, J) := by
 cases x with
 | sc v => simp [Dk] at h
 | nl =>
  have := (Option.some.inj h)
  simp only [Prod.mk.injEq, AV.ro.injEq] at this
  obtain ⟨⟨rfl, rfl⟩, rfl⟩ := this
  exact .inl ⟨rfl, rfl, rfl, rfl⟩
 | sl id off n z =>
  rw [Jm] at h
  simp only [h1, h2, zac] at h
  split at h
  case isFalse => cases h
  rename_i hz
  split at h
  case isFalse => cases h
  rename_i ha
  simp only [zab] at h
  obtain ⟨cs, h4, q, h5, h6⟩ := h
  simp only [Option.some.injEq, Prod.mk.injEq, AV.ro.injEq] at h6
  obtain ⟨⟨rfl, rfl⟩, rfl⟩ := h6
  subst hz
  obtain ⟨hl, b, hb, hlv, _, _⟩ := Kg h4
  have ha' : b.app = true := by simpa only [Jz, hb] using ha
  exact .inr ⟨id, off, cs, q.2, b, rfl, rfl, hb, hlv, ha', h4, h5⟩
 | agg cs =>
  rw [Jl] at h
  simp only [zab] at h
  obtain ⟨i, h1, q, h2, h3⟩ := h
  simp at h3
 | tup cs =>
  rw [Kk] at h
  simp only [zab] at h
  obtain ⟨i, h1, q, h2, h3⟩ := h
  simp at h3
 | _ => simp [Dk] at h
theorem AaD {sz m ty : Nat} {cty : List Nat} {y : AV} {cb : List AV} (hty : ∃ i j, Au ty = some i ∧ Au i.elem = some j ∧ j.size = sz ∧ j.cty = cty) (hp : Pk L (.own y ty (.ro m cb)) L2) (hf : cb.all Ol = true) : Src H L sz cty y m cb L := fun I h => by
 obtain ⟨i, j, e1, e2, rfl, rfl⟩ := hty
 obtain ⟨J, R, ⟨_, _, h1⟩, h2, h3⟩ := hp.sepI h
 rcases Y7 e1 e2 h1 with ⟨rfl, rfl, rfl, rfl⟩ | ⟨id, off, raw, J', b, rfl, rfl, hb, hlv, ha, h4, h5⟩
 ·exact ⟨[], [], I, [], rfl, rfl, rfl, by simp, by simp [Es], h, by simp⟩
 ·have hl := (Kg h4).1
  have key : ∀ {ts : List Nat} {xs cells : List AV} {I : List Nat}, Es (Dk Au E0.tp H 5) ts xs = some (cells, I) → cells.all Ol = true → xs = cells ∧ I = [] := by
   intro ts xs
   induction xs generalizing ts with
   | nil =>
    intro cells I h _
    obtain ⟨_, e⟩ := Jk h
    cases e
    exact ⟨rfl, rfl⟩
   | cons x xs ih =>
    intro cells I h hs
    cases ts with
    | nil => simp [Es] at h
    | cons t ts =>
     obtain ⟨a, b, h1, h2, e⟩ := Id h
     cases e
     rw [zap, zag] at hs
     obtain ⟨rfl, e2⟩ := ih h2 hs.2
     have hx : x = a.1 ∧ a.2 = [] := by
      obtain ⟨a1, a2⟩ := a
      cases a1 with
      | sc v =>
       have := Y8 h1
       subst this
       have : (AV.sc v, ([] : List Nat)) = (.sc v, a2) := Option.some.inj h1
       cases this
       exact ⟨rfl, rfl⟩
      | _ => simp [Ol] at hs
     refine ⟨by rw [hx.1], by rw [hx.2, e2]; rfl⟩
  obtain ⟨rfl, rfl⟩ := key h5 hf
  refine ⟨raw, [], I, [], rfl, ?_, Xo hf, hl, h5, h, by simp⟩
  show (if j.size = j.size then Bc H id off (m * j.size) else none) = _
  rw [if_pos rfl, h4]
theorem AkN {sz bytes k m ty : Nat} {cty : List Nat} {x y : AV} {ca cb : List AV} (hs : Sep H L) (hty : ∃ i j, Au ty = some i ∧ Au i.elem = some j ∧ j.size = sz ∧ j.cty = cty) (hx : Pk L (.own x ty (.ro k ca)) L1) (hy : Src H L1 sz cty y m cb L2) (hok : Hb (I1 Au E0.tp 5) (zaj m cty).flatten cb) (hb : (k + m) * bytes ≤ 140737488355328)
  (h : ∀ x' H', Bn x' = true → Sep H' (.own x' ty (.ro (k + m) (ca ++ cb)) :: L2) → (∃ id cx cy, x' = .sl id 0 (k + m) sz ∧ H'[id]? = some ⟨cx ++ cy, true, true⟩ ∧ Ec H sz y = some cy ∧ cx.length = k * sz) → Gd G (KH x' H')) : Gd G (L7 sz bytes x y H fun x H => KH x H) := by
 obtain ⟨i, j, e1, e2, rfl, rfl⟩ := hty
 obtain ⟨I, hI, hn⟩ := hs
 obtain ⟨J, R, ⟨hlx, hox, h1⟩, h2, h3⟩ := hx.sepI hI
 obtain ⟨raw, Jy, Ry, X, q1, q2, q3, q4, q5, q6, q7⟩ := hy R h2
 have hn' : (J ++ (Jy ++ (Ry ++ X))).Nodup := (h3.trans (zbA.append_left J q7)).nodup_iff.1 hn
 have hRlt : ∀ i ∈ Jy ++ Ry, i < H.length := fun z hz => by
  refine h2.lt z ?_
  refine q7.symm.mem_iff.1 ?_
  rw [← zaf]
  exact zaD _ hz
 have hok' : I1 Au E0.tp 6 ty (.ro (k + m) (ca ++ cb)) := by
  obtain ⟨i', j', g1, g2, g3, g4⟩ := hox
  rw [e1] at g1
  cases g1
  rw [e2] at g2
  cases g2
  refine ⟨i, j, e1, e2, ?_, ?_⟩
  ·have := Aax hok
   have hq := V7 q5
   rw [zae, g3, hq.2, q4, zbH]
  ·rw [← List.replicate_append_replicate, zb2]
   exact O9 g4 hok
 have fin : ∀ (H1 : Ad) (cx : List AV) (Jx : List Nat), H1.length = H.length → cx.all Bn = true ∨ True → Es (Dk Au E0.tp H1 5) (zaj k j.cty).flatten cx = some (ca, Jx) → Es (Dk Au E0.tp H1 5) (zaj m j.cty).flatten raw = some (cb, Jy) → SepI H1 L2 Ry → (Jx ++ (Jy ++ (Ry ++ X))).Nodup → (∀ i ∈ Jx, i < H1.length) → cx.length = k * j.size →
   Sep (H1 ++ [⟨cx ++ raw, true, true⟩]) (.own (.sl H1.length 0 (k + m) j.size) ty (.ro (k + m) (ca ++ cb)) :: L2) := by
  intro H1 cx Jx hl1 _ a1 a2 a3 a4 a5 a6
  have hg : (H1 ++ [(⟨cx ++ raw, true, true⟩ : Jb)])[H1.length]? = some ⟨cx ++ raw, true, true⟩ := by
   rw [zah (zam _), zaZ]
   rfl
  have fr : ∀ z, z < H1.length → (H1 ++ [(⟨cx ++ raw, true, true⟩ : Jb)])[z]? = H1[z]? := fun z hz => zai hz
  have b1 := Hl (f' := Dk Au E0.tp (H1 ++ [⟨cx ++ raw, true, true⟩]) 5) (fun t x a h hi => F6 5 t x a h fun z hz => fr z (a5 z (hi z hz))) a1
  have b2 := Hl (f' := Dk Au E0.tp (H1 ++ [⟨cx ++ raw, true, true⟩]) 5) (fun t x a h hi => F6 5 t x a h fun z hz => fr z (by rw [hl1]; exact hRlt z (zaD _ (hi z hz)))) a2
  have b3 := a3.grow [⟨cx ++ raw, true, true⟩]
  have b4 := Pd b1 b2
  rw [← zb2, List.replicate_append_replicate] at b4
  refine ⟨(H1.length :: (Jx ++ Jy)) ++ Ry, ⟨H1.length :: (Jx ++ Jy), Ry, rfl, ⟨rfl, hok', ?_⟩, b3⟩, ?_⟩
  ·rw [Jm]
   have ha : Jz (H1 ++ [⟨cx ++ raw, true, true⟩]) H1.length = true := by simp only [Jz, hg]
   have hrd : Bc (H1 ++ [⟨cx ++ raw, true, true⟩]) H1.length 0 ((k + m) * j.size) = some (cx ++ raw) := by
    have : (cx ++ raw).length = (k + m) * j.size := by rw [zae, a6, q4, zbH]
    simp only [Bc, hg, if_true, za2, zaT, ← this, zam, zaK]
   simp only [e1, e2, zac, if_true, ha, hrd, b4]
  ·rw [zaz, zbi]
   have hn3 : (Jx ++ Jy ++ Ry).Nodup := by
    rw [zaf]
    have : (Jx ++ (Jy ++ Ry) ++ X).Nodup := by simpa only [zaf] using a4
    exact (zba.1 this).1
   refine ⟨fun hm => ?_, hn3⟩
   rcases zaR.1 hm with hm | hm
   ·rcases zaR.1 hm with hm | hm
    ·exact Nat.lt_irrefl _ (a5 _ hm)
    ·have := hRlt _ (zaD _ hm)
     omega
   ·have := hRlt _ (zaL _ hm)
    omega
 rcases Y7 e1 e2 h1 with ⟨rfl, rfl, rfl, rfl⟩ | ⟨id, off, cx, J', b, rfl, rfl, hb1, hlv, hap, h4, h5⟩
 ·have hc : Ec H j.size .nl = some [] := rfl
  refine Ei (b := KH (.sl H.length 0 (0 + m) j.size) (H ++ [⟨[] ++ raw, true, true⟩])) ?_ (h _ _ rfl (fin H [] [] rfl (.inr trivial) (by simp [Es]) q5 q6 (by simpa using hn') (by simp) (by simp)) ⟨_, [], raw, rfl, by rw [zah (zam _), zaZ]; rfl, q2, by simp⟩)
  have hl0 : Ju .nl = some 0 := rfl
  have hk0 : Sr H .nl = some H := rfl
  simp only [L7, hl0, zac, q1, q2, hc, hk0]
  rw [if_pos hb, if_pos q3]
  rfl
 ·have hc : Ec H j.size (.sl id off k j.size) = some cx := by
   show (if j.size = j.size then Bc H id off (k * j.size) else none) = _
   rw [if_pos rfl, h4]
  have hk : Sr H (.sl id off k j.size) = some (H.set id { b with live := false }) := by
   show (H[id]?).bind (fun b => if b.app then some (H.set id { b with live := false }) else none) = _
   rw [hb1, zac, if_pos hap]
  have hn2 : (id :: (J' ++ (Jy ++ (Ry ++ X)))).Nodup := hn'
  have hnid := (zbi.1 hn2).1
  have hset : ∀ z, z ≠ id → (H.set id { b with live := false })[z]? = H[z]? := fun z hz => zbC (fun e => hz e.symm)
  have c1 := Hl (f' := Dk Au E0.tp (H.set id { b with live := false }) 5) (fun t x a h hi => F6 5 t x a h fun z hz => hset z (fun e => hnid (e ▸ zaD _ (hi z hz)))) h5
  have c2 := Hl (f' := Dk Au E0.tp (H.set id { b with live := false }) 5) (fun t x a h hi => F6 5 t x a h fun z hz => hset z (fun e => hnid (e ▸ zaL _ (zaD _ (hi z hz))))) q5
  have c3 := q6.frame (H' := H.set id { b with live := false }) fun z hz => hset z (fun e => hnid (e ▸ zaL _ (zaL _ (zaD _ hz))))
  have hJlt : ∀ z ∈ J', z < H.length := fun z hz => Pf 6 ty _ _ h1 z (zau _ hz)
  refine Ei (b := KH (.sl (H.set id { b with live := false }).length 0 (k + m) j.size) (H.set id { b with live := false } ++ [⟨cx ++ raw, true, true⟩])) ?_ (h _ _ rfl (fin _ cx J' (by simp) (.inr trivial) c1 c2 c3 (zbi.1 hn2).2 (fun z hz => by rw [List.length_set]; exact hJlt z hz) (Kg h4).1) ⟨_, cx, raw, rfl, by rw [zah (zam _), zaZ]; rfl, q2, (Kg h4).1⟩)
  have hl0 : Ju (.sl id off k j.size) = some k := rfl
  simp only [L7, hl0, zac, q1, q2, hc, hk]
  rw [if_pos hb, if_pos q3]
  rfl
theorem Aal {sz bytes k m ty : Nat} {cty : List Nat} {x y : AV} {ca cb : List AV} (hs : Sep H L) (hty : ∃ i j, Au ty = some i ∧ Au i.elem = some j ∧ j.size = sz ∧ j.cty = cty) (hx : Pk L (.own x ty (.ro k ca)) L1) (hy : Src H L1 sz cty y m cb L2) (hok : Hb (I1 Au E0.tp 5) (zaj m cty).flatten cb) (hb : (k + m) * bytes ≤ 140737488355328)
  (h : ∀ x' H', Bn x' = true → Sep H' (.own x' ty (.ro (k + m) (ca ++ cb)) :: L2) → Gd G (KH x' H')) : Gd G (L7 sz bytes x y H fun x H => KH x H) := AkN hs hty hx hy hok hb fun x' H' h1 h2 _ => h x' H' h1 h2
theorem C6 {G : Option AV → Prop} {o : Option AV} (h : Gd G o) : G o := h
theorem Cl {ty : Nat} {tys : List Nat} {raw cells : List AV} (hs : Sep H L) (hts : E0.tp ty = some tys) (hr : OwnR L raw tys cells L') (hok : Hb (I1 Au E0.tp 7) tys cells) : Bf Au E0.tp ty H (.tup raw) = some (.tup cells) := by
 obtain ⟨I, h1, h2⟩ := hs
 obtain ⟨J, R, g1, g2, g3⟩ := hr.sound h1 7 hok
 have hn := (zba.1 (g3.nodup_iff.1 h2)).1
 rw [Bf, Kk, hts, zac, g1, zac, zac, if_pos hn]
theorem Cf {ty : Nat} {cty : List Nat} {raw cells : List AV} (hs : Sep H L) (hty : ∃ i, Au ty = some i ∧ i.cty = cty) (hr : OwnR L raw cty cells L') (hok : Hb (I1 Au E0.tp 7) cty cells) : Bf Au E0.tp ty H (.agg raw) = some (.agg cells) := by
 obtain ⟨i, e1, rfl⟩ := hty
 obtain ⟨I, h1, h2⟩ := hs
 obtain ⟨J, R, g1, g2, g3⟩ := hr.sound h1 7 hok
 have hn := (zba.1 (g3.nodup_iff.1 h2)).1
 rw [Bf, Jl, e1, zac, g1, zac, zac, if_pos hn]
theorem Dm {ty : Nat} {x t : AV} (hs : Sep H L) (hp : Pk L (.own x ty t) L') : Bf Au E0.tp ty H x = some t := by
 obtain ⟨_, h1, I, h2, h3⟩ := hs.own hp
 rw [Bf, Kf 6 8 ty x t I h2 (Cd h1 (by decide)), zac, if_pos h3]
theorem Ai {G : Option AV → Prop} {ty : Nat} {x t : AV} (e : Bf Au E0.tp ty H x = some t) (h : G (some t)) : Gd G (Bf Au E0.tp ty H x) := by
 rw [e]
 exact h
end
theorem Ir {L : List Ck} {d : Nat} {a0 a1 : Value} {xs ts : List AV} (h : VwL L (d + 1) xs ts) : VwL L (d + 1) (.sc a0 :: .sc a1 :: xs) (.sc a0 :: .sc a1 :: ts) := (.cons .sc (.cons .sc h))
theorem My {L : List Ck} {d : Nat} {a0 a1 a2 : Value} {xs ts : List AV} (h : VwL L (d + 1) xs ts) : VwL L (d + 1) (.sc a0 :: .sc a1 :: .sc a2 :: xs) (.sc a0 :: .sc a1 :: .sc a2 :: ts) := (.cons .sc (.cons .sc (.cons .sc h)))
theorem L8 {L : List Ck} {d : Nat} {a0 a1 a2 a3 a4 : Value} {xs ts : List AV} (h : VwL L (d + 1) xs ts) : VwL L (d + 1) (.sc a0 :: .sc a1 :: .sc a2 :: .sc a3 :: .sc a4 :: xs) (.sc a0 :: .sc a1 :: .sc a2 :: .sc a3 :: .sc a4 :: ts) := (.cons .sc (.cons .sc (.cons .sc (.cons .sc (.cons .sc h)))))
theorem Gl {L : List Ck} {d : Nat} {a0 a1 a2 a3 a4 a5 : Value} {xs ts : List AV} (h : VwL L (d + 1) xs ts) : VwL L (d + 1) (.sc a0 :: .sc a1 :: .sc a2 :: .sc a3 :: .sc a4 :: .sc a5 :: xs) (.sc a0 :: .sc a1 :: .sc a2 :: .sc a3 :: .sc a4 :: .sc a5 :: ts) := (.cons .sc (.cons .sc (.cons .sc (.cons .sc (.cons .sc (.cons .sc h))))))
theorem Wz {L L' : List Ck} {a0 a1 a2 : Value} {t0 t1 t2 : Nat} {xs cs : List AV} {ts : List Nat} (h : OwnR L xs ts cs L') : OwnR L (.sc a0 :: .sc a1 :: .sc a2 :: xs) (t0 :: t1 :: t2 :: ts) (.sc a0 :: .sc a1 :: .sc a2 :: cs) L' := (.sc (.sc (.sc h)))
theorem Hs {L L' : List Ck} {a0 a1 a2 a3 a4 : Value} {t0 t1 t2 t3 t4 : Nat} {xs cs : List AV} {ts : List Nat} (h : OwnR L xs ts cs L') : OwnR L (.sc a0 :: .sc a1 :: .sc a2 :: .sc a3 :: .sc a4 :: xs) (t0 :: t1 :: t2 :: t3 :: t4 :: ts) (.sc a0 :: .sc a1 :: .sc a2 :: .sc a3 :: .sc a4 :: cs) L' := (.sc (.sc (.sc (.sc (.sc h)))))
theorem Ed {L L' : List Ck} {a0 a1 a2 a3 a4 a5 : Value} {t0 t1 t2 t3 t4 t5 : Nat} {xs cs : List AV} {ts : List Nat} (h : OwnR L xs ts cs L') : OwnR L (.sc a0 :: .sc a1 :: .sc a2 :: .sc a3 :: .sc a4 :: .sc a5 :: xs) (t0 :: t1 :: t2 :: t3 :: t4 :: t5 :: ts) (.sc a0 :: .sc a1 :: .sc a2 :: .sc a3 :: .sc a4 :: .sc a5 :: cs) L' := (.sc (.sc (.sc (.sc (.sc (.sc h))))))
theorem Fn {P : Prop} (h : P) : True ∧ True ∧ P := ⟨trivial, trivial, h⟩
theorem W0 {P : Prop} (h : P) : True ∧ True ∧ True ∧ P := ⟨trivial, trivial, trivial, h⟩
theorem Ht {P : Prop} (h : P) : True ∧ True ∧ True ∧ True ∧ True ∧ P := ⟨trivial, trivial, trivial, trivial, trivial, h⟩
theorem Ee {P : Prop} (h : P) : True ∧ True ∧ True ∧ True ∧ True ∧ True ∧ P := ⟨trivial, trivial, trivial, trivial, trivial, trivial, h⟩
theorem Zj {j o : Nat} {ds : List AV} {b : Bool} {L1 L2 : List Ck} (h : Pk L1 (.blk j ds b) L2) : ∀ y ∈ [AV.ptr j o], ∃ j' o' ds' b', y = .ptr j' o' ∧ ∃ L2, Pk L1 (.blk j' ds' b') L2 := fun y hy => by
 cases zbl.1 hy
 exact ⟨_, _, _, _, rfl, _, h⟩
theorem A6 {β : Type} {G : Option β → Prop} {H : Ad} {L L1 : List Ck} {i o : Nat} {cs : List AV} {a : Bool} {y : AV} {KS : Ad → Option β} (hs : Sep H L) (hp : Pk L (.blk i cs a) L1) (hy : Bn y = true) (hl : Nat.ble (o + 1) cs.length = true) (h : ∀ H', Sep H' (.blk i (cs.set o y) a :: L1) → Gd G (KS H')) : Gd G (G8 1 (.ptr i o) y H fun H => KS H) := Ci hs hp (Eh hy) rfl (Cn hl) (by
 unfold Gx
 have := Cn hl
 rw [List.set_eq_take_append_cons_drop, if_pos (by omega)]
 simp) h
end
section
open Go
variable {β : Type}
theorem L6 {d ty : Nat} {cty : List Nat} {cs : List AV} (hty : ∃ i, Au ty = some i ∧ i.cty = cty) (h : Hb (I1 Au E0.tp d) cty cs) : I1 Au E0.tp (d + 1) ty (.agg cs) := by
 obtain ⟨i, hi, rfl⟩ := hty
 exact ⟨i, hi, h⟩
theorem Am {d ty : Nat} (h : ∃ i j, Au ty = some i ∧ Au i.elem = some j) : I1 Au E0.tp (d + 1) ty (.ro 0 []) := by
 obtain ⟨i, j, h1, h2⟩ := h
 exact ⟨i, j, h1, h2, by simp, by simp [Hb]⟩
theorem Gd.both {G : Option β → Prop} {a b : Option β} (h1 : Gd G a) (h2 : a = b) : Gd G (Qd a b) := by
 rw [Aa4 rfl h2.symm]
 exact h1
theorem Da (s : ByteArray) : I1 Au E0.tp 6 22 (Ag s) := Ic (d := 4) Ki s
theorem Y4 (l : List Int) : I1 Au E0.tp 6 57 (El l) := Pb (d := 4) (fun z : Int => .int .i64 z) AgL l
theorem V4 (l : List ByteArray) : I1 Au E0.tp 6 56 (En l) := Pb (d := 4) (fun z : ByteArray => .string z) Yc l
theorem K8 (l : List WantV) : I1 Au E0.tp 6 55 (C5 Bw l) := Aa0 (d := 5) Gu ⟨_, _, rfl, rfl, rfl, rfl⟩ (Acz 4) l
theorem InsL.mono {ts : List Nat} {cs : List AV} {Φ Ψ : List AV → List Ck → Prop} (h : InsL ts cs Φ) (m : ∀ xs Lx, Φ xs Lx → Ψ xs Lx) : InsL ts cs Ψ := fun H L hs => by
 obtain ⟨xs, Lx, a, b, c⟩ := h H L hs
 exact ⟨xs, Lx, a, b, m _ _ c⟩
theorem M4 (p : PacketV) : InsL M2 (Ar p) fun xs Lx => ∃ x6 x13 x19 x22 x23 x24 : AV, Bn x6 = true ∧ Bn x13 = true ∧ Bn x19 = true ∧ Bn x22 = true ∧ Bn x23 = true ∧ Bn x24 = true ∧ xs = [.sc (.int .i64 p.fType), .sc (.bool p.fDup), .sc (.int .i64 p.fQos), .sc (.bool p.fRetain), .sc (.int .i64 p.fId), .sc (.string p.fTopic), x6, .sc (.string p.fClient), .sc (.int .i64 p.fLevel), .sc (.bool p.fClean), .sc (.int .i64 p.fKeep), .sc (.bool p.fHasWill), .sc (.string p.fWTopic), x13, .sc (.int .i64 p.fWQos), .sc (.bool p.fWRetain), .sc (.bool p.fHasUser), .sc (.string p.fUser), .sc (.bool p.fHasPass), x19, .sc (.int .i64 p.fCode), .sc (.bool p.fPresent), x22, x23, x24] ∧ Lx = [.own x24 57 (El p.fCodes), .own x23 56 (En p.fNames), .own x22 55 (C5 Bw p.fWants), .own x19 22 (Ag p.fPass), .own x13 22 (Ag p.fWBody), .own x6 22 (Ag p.fBody)] :=
 InsL.mono (Bm (Bm (Bm (Bm (Bm (Bm (J8 (ty := 22) rfl (Da p.fBody) (Bm (Bm (Bm (Bm (Bm (Bm (J8 (ty := 22) rfl (Da p.fWBody) (Bm (Bm (Bm (Bm (Bm (J8 (ty := 22) rfl (Da p.fPass) (Bm (Bm (J8 (ty := 55) rfl (K8 p.fWants) (J8 (ty := 56) rfl (V4 p.fNames) (J8 (ty := 57) rfl (Y4 p.fCodes) Et))))))))))))))))))))))))) (by
  rintro _ _ ⟨_, rfl, ⟨_, rfl, ⟨_, rfl, ⟨_, rfl, ⟨_, rfl, ⟨_, rfl, ⟨x6, _, _, l6, rfl, rfl, ⟨_, rfl, ⟨_, rfl, ⟨_, rfl, ⟨_, rfl, ⟨_, rfl, ⟨_, rfl, ⟨x13, _, _, l13, rfl, rfl, ⟨_, rfl, ⟨_, rfl, ⟨_, rfl, ⟨_, rfl, ⟨_, rfl, ⟨x19, _, _, l19, rfl, rfl, ⟨_, rfl, ⟨_, rfl, ⟨x22, _, _, l22, rfl, rfl, ⟨x23, _, _, l23, rfl, rfl, ⟨x24, _, _, l24, rfl, rfl, ⟨rfl, rfl⟩⟩⟩⟩⟩⟩⟩⟩⟩⟩⟩⟩⟩⟩⟩⟩⟩⟩⟩⟩⟩⟩⟩⟩⟩⟩
  exact ⟨x6, x13, x19, x22, x23, x24, l6, l13, l19, l22, l23, l24, rfl, rfl⟩)
end
section
open Go
inductive Sel : List Ck → List Ck → Prop
 | nil {L : List Ck} : Sel L []
 | cons {L L1 L' : List Ck} {c : Ck} : Pk L c L1 → Sel L1 L' → Sel L (c :: L')
 | rest {L : List Ck} : Sel L L
 | skip {L L' : List Ck} {c : Ck} : Sel L L' → Sel (c :: L) L'
theorem zS2 {a0 a1 : Ck} {L : List Ck} : Sel (a0 :: a1 :: L) L := .skip (.skip (.rest))
section
variable {β : Type} {n : Nat} {H : Ad} {L L' L1 L2 : List Ck} {G : Option β → Prop} {K : AV → Option β} {KH : KO β}
theorem Sep.none (h : Sep H L) : Sep H [] := by
 induction L with
 | nil => exact h
 | cons c L ih => exact ih h.tail
theorem Sel.sepI : ∀ {L L' : List Ck} {I : List Nat}, Sel L L' → SepI H L I → ∃ J X, SepI H L' J ∧ I.Perm (J ++ X)
 | _, _, I, .nil, h => ⟨[], I, rfl, zbA.refl _⟩
 | _, _, I, .rest, h => ⟨I, [], h, by simp⟩
 | _, _, I, .skip q, h => by
  obtain ⟨J, R, rfl, g1, g2⟩ := h
  obtain ⟨J', X, e1, e2⟩ := q.sepI g2
  refine ⟨J', J ++ X, e1, ?_⟩
  refine (zbA.append_left J e2).trans ?_
  rw [← zaf, ← zaf]
  exact zbA.append_right X List.perm_append_comm
 | _, _, I, .cons p q, h => by
  obtain ⟨J, R, g1, g2, g3⟩ := p.sepI h
  obtain ⟨J', X, e1, e2⟩ := q.sepI g2
  refine ⟨J ++ J', X, ⟨J, J', rfl, g1, e1⟩, ?_⟩
  rw [zaf]
  exact g3.trans (zbA.append_left J e2)
theorem Sep.sel (h : Sep H L) (q : Sel L L') : Sep H L' := by
 obtain ⟨I, h1, h2⟩ := h
 obtain ⟨J, X, g1, g2⟩ := q.sepI h1
 exact ⟨J, g1, (zba.1 (g2.nodup_iff.1 h2)).1⟩
theorem Gb {x off : Nat} {ts : List AV} {cs : List AV} {a : Bool} {m : Option β} (hs : Sep H L) (hp : Pk L (.blk x cs a) L1) (ht : ∀ y ∈ ts, ∃ j o ds b, y = .ptr j o ∧ ∃ L2, Pk L1 (.blk j ds b) L2) (h : Gd G m) : Gd G (S0 (.ptr x off) ts H m) := by
 have e : Ul (.ptr x off) ts H = true := by
  have hb := hs.blk hp
  simp only [Ul, hb, zaA, za7]
  intro y hy
  obtain ⟨j, o, ds, b, rfl, L2, hq⟩ := ht y hy
  obtain ⟨I, ⟨J, R, rfl, ⟨rfl, h1⟩, h2⟩, h3⟩ := hs.pick hp
  obtain ⟨J', R', ⟨rfl, g1⟩, g2, g3⟩ := hq.sepI h2
  have hne : x ≠ j := by
   rintro rfl
   have hn := (zbi.1 h3).1
   exact hn (g3.symm.mem_iff.1 (by simp))
  simp [g1, hne]
 unfold S0
 rw [if_pos e]
 exact h
theorem Gd.bothE {r a b : Option β} (h1 : Gd (· = r) a) (h2 : Gd (· = r) b) : Gd (· = r) (Qd a b) := Aa4 h1 h2
theorem Hv {x o o' : Nat} {m : Option β} (h : Gd G m) : Gd G (Tw (.ptr x o) (.ptr x o') m) := by
 simp only [Tw, if_true]
 exact h
theorem Mp {α : Type} {w : Nat} {enc : α → List AV} {l pre t : List α} {x : α} {i : Int} (hi : i = (pre.length : Nat)) (hw : ∀ x, (enc x).length = w) (h0 : 0 < w) (hl : l = pre ++ x :: t) (h : Gd G (K (.rp (enc x ++ (t.map enc).flatten)))) : Gd G (D7 w (C5 enc l) (.sc (.int .i64 i)) fun t => K t) := by
 subst hl
 subst hi
 exact Ei (AbW hw h0 pre x t _) h
theorem J9 {l pre t : List Int} {x i : Int} (hi : i = (pre.length : Nat)) (hl : l = pre ++ x :: t) (h : Gd G (K (.rp (Ux x ++ (t.map Ux).flatten)))) : Gd G (D7 1 (El l) (.sc (.int .i64 i)) fun t => K t) := by
 rw [Lg]
 exact Mp hi (fun _ => rfl) (by decide) hl h
theorem Nc {l pre t : List ByteArray} {x : ByteArray} {i : Int} (hi : i = (pre.length : Nat)) (hl : l = pre ++ x :: t) (h : Gd G (K (.rp (Uy x ++ (t.map Uy).flatten)))) : Gd G (D7 1 (En l) (.sc (.int .i64 i)) fun t => K t) := by
 rw [Lj]
 exact Mp hi (fun _ => rfl) (by decide) hl h
def A5 (s : ByteArray) (i : Int) : Int := ((s.data.toList.getD i.toNat 0).toNat : Nat)
theorem Ef (s : ByteArray) (i : Int) : 0 ≤ A5 s i ∧ A5 s i < 256 := by
 have := (s.data.toList.getD i.toNat 0).toNat_lt
 unfold A5
 omega
theorem Gr {s : ByteArray} {i : Int} (h0 : 0 ≤ i) (h1 : i < (s.size : Nat)) (h : ∀ rest, Gd G (K (.rp (.sc (.int .u8 (A5 s i)) :: rest)))) : Gd G (D7 1 (Ag s) (.sc (.int .i64 i)) fun t => K t) := by
 have hlt : i.toNat < s.size := by omega
 have e : (Bl s).drop (i.toNat * 1) = .sc (.int .u8 (A5 s i)) :: (Bl s).drop (i.toNat + 1) := by
  rw [zbx, zbh (by rw [Fa]; omega)]
  congr 1
  simp [Bl, A5, zbt, hlt]
 have e2 : (.sc (.int .i64 i) : AV) = .sc (.int .i64 (i.toNat : Nat)) := by
  rw [Int.toNat_of_nonneg h0]
 rw [e2]
 refine Ei (Nz 1 s.size (Bl s) i.toNat _ hlt (by rw [Fa]; omega)) ?_
 rw [e]
 exact h _
theorem AgA {α : Type} {enc : α → List AV} (l q : List α) : C5 enc (l ++ q) = .ro (l.length + q.length) ((l.map enc).flatten ++ (q.map enc).flatten) := by
 show AV.ro _ _ = _
 rw [zae, za4, zb2]
theorem Yv {α : Type} {enc : α → List AV} {sz bytes ty : Nat} {cty : List Nat} {x : AV} {l : List α} {i : Nat} {raw cb : List AV} {a : Bool} {e : α} {L3 : List Ck} (hs : Sep H L) (hty : ∃ i j, Au ty = some i ∧ Au i.elem = some j ∧ j.size = sz ∧ j.cty = cty) (hx : Pk L (.own x ty (C5 enc l)) L1) (hp : Pk L1 (.blk i raw a) L2) (hl : raw.length = sz) (hf : raw.all Bn = true) (hr : OwnR L2 raw cty cb L3) (hok : Hb (I1 Au E0.tp 5) cty cb) (he : cb = enc e) (hb : (l.length + 1) * bytes ≤ 140737488355328)
  (h : ∀ x' H', Bn x' = true → Sep H' (.own x' ty (C5 enc (l ++ [e])) :: L3) → Gd G (KH x' H')) : Gd G (L7 sz bytes x (.sl i 0 1 sz) H fun x H => KH x H) := by
 have e1 : (zaj 1 cty).flatten = cty := by simp
 refine Aal hs hty hx (Zf hp (by omega) hf (by rw [e1]; exact hr) (by rw [e1]; exact hok)) (by rw [e1]; exact hok) hb fun x' H' lx hs' => h x' H' lx ?_
 rw [AgA]
 simpa [he] using hs'
theorem Acq {ty : Nat} {cty : List Nat} {x : AV} {l : List Int} {i : Nat} {z : Int} {a : Bool} (hs : Sep H L) (hx : Pk L (.own x ty (El l)) L1) (hp : Pk L1 (.blk i [.sc (.int .i64 z)] a) L2) (hty : ∃ i j, Au ty = some i ∧ Au i.elem = some j ∧ j.size = 1 ∧ j.cty = cty) (hc : cty.length = 1) (hb : (l.length + 1) * 8 ≤ 140737488355328)
  (h : ∀ x' H', Bn x' = true → Sep H' (.own x' ty (El (l ++ [z])) :: L2) → Gd G (KH x' H')) : Gd G (L7 1 8 x (.sl i 0 1 1) H fun x H => KH x H) := by
 obtain ⟨c, rfl⟩ := zbs.1 hc
 rw [Lg] at hx h
 exact Yv hs hty hx hp rfl rfl (.sc .nil) ⟨trivial, trivial⟩ rfl hb h
theorem Yw {ty : Nat} {cty : List Nat} {x : AV} {l : List ByteArray} {i : Nat} {z : ByteArray} {a : Bool} (hs : Sep H L) (hx : Pk L (.own x ty (En l)) L1) (hp : Pk L1 (.blk i [.sc (.string z)] a) L2) (hty : ∃ i j, Au ty = some i ∧ Au i.elem = some j ∧ j.size = 1 ∧ j.cty = cty) (hc : cty.length = 1) (hb : (l.length + 1) * 16 ≤ 140737488355328)
  (h : ∀ x' H', Bn x' = true → Sep H' (.own x' ty (En (l ++ [z])) :: L2) → Gd G (KH x' H')) : Gd G (L7 1 16 x (.sl i 0 1 1) H fun x H => KH x H) := by
 obtain ⟨c, rfl⟩ := zbs.1 hc
 rw [Lj] at hx h
 exact Yv hs hty hx hp rfl rfl (.sc .nil) ⟨trivial, trivial⟩ rfl hb h
theorem AkM {sz bytes m ty : Nat} {cty : List Nat} {y : AV} {cb : List AV} (hs : Sep H L) (hty : ∃ i j, Au ty = some i ∧ Au i.elem = some j ∧ j.size = sz ∧ j.cty = cty) (hy : Src H L sz cty y m cb L2) (hok : Hb (I1 Au E0.tp 5) (zaj m cty).flatten cb) (hb : m * bytes ≤ 140737488355328)
  (h : ∀ x' H', Bn x' = true → Sep H' (.own x' ty (.ro m cb) :: L2) → Gd G (KH x' H')) : Gd G (L7 sz bytes .nl y H fun x H => KH x H) := by
 obtain ⟨i, j, e1, e2, e3, e4⟩ := hty
 refine Aal (hs.nl (ty := ty) ⟨i, j, e1, e2⟩) ⟨i, j, e1, e2, e3, e4⟩ .here hy hok (by rw [za2]; exact hb) fun x' H' lx hs' => h x' H' lx ?_
 rw [za2, zal] at hs'
 exact hs'
theorem Rv {d : Nat} : ∀ {ts : List Nat} {l : List AV}, ts.length = l.length → l.all Ol = true → Hb (I1 Au E0.tp (d + 1)) ts l
 | [], [], _, _ => trivial
 | t :: ts, x :: l, h, hl => by
  rw [zap, zag] at hl
  refine ⟨?_, Rv (by simpa using h) hl.2⟩
  cases x with
  | sc v => trivial
  | _ => simp [Ol] at hl
 | [], _ :: _, h, _ => by simp at h
 | _ :: _, [], h, _ => by simp at h
theorem Kl (s : ByteArray) : (Bl s).all Ol = true := by
 simp only [Bl, List.all_map, za7]
 intro b _
 rfl
theorem Acv {cty : List Nat} {w m : Nat} (h : cty.length = w) : ((zaj m cty).flatten).length = m * w := by simp [h]
theorem Ji {s : ByteArray} (hs : Sep H L) (hb : s.size ≤ 140737488355328) (h : ∀ x' H', Bn x' = true → Sep H' (.own x' 22 (Ag s) :: L) → Gd G (KH x' H')) : Gd G (L7 1 1 .nl (Ag s) H fun x H => KH x H) :=
 AkM hs ⟨_, _, rfl, rfl, rfl, rfl⟩ (AgH rfl (by rw [Fa]; omega) (Kl s)) (Rv (by rw [Acv (w := 1) rfl, Fa, zbx]) (Kl s)) (by omega) h
end
end
section
open Go
section
variable {β : Type} {n : Nat} {H : Ad} {L L' L1 L2 : List Ck} {G : Option β → Prop} {K : AV → Option β} {KH : KO β}
theorem V8 {d : Nat} : ∀ {ts : List Nat} {xs cells : List AV} {I : List Nat}, Es (Dk Au E0.tp H d) ts xs = some (cells, I) → cells.all Ol = true → xs = cells ∧ I = []
 | ts, [], cells, I, h, _ => by
  obtain ⟨_, e⟩ := Jk h
  cases e
  exact ⟨rfl, rfl⟩
 | [], _ :: _, _, _, h, _ => by simp [Es] at h
 | t :: ts, x :: xs, cells, I, h, hs => by
  obtain ⟨a, b, h1, h2, e⟩ := Id h
  cases e
  rw [zap, zag] at hs
  obtain ⟨rfl, e2⟩ := V8 h2 hs.2
  have hx : x = a.1 ∧ a.2 = [] := by
   obtain ⟨a1, a2⟩ := a
   cases a1 with
   | sc v =>
    have := Y8 h1
    subst this
    cases d with
    | zero => simp [Dk] at h1
    | succ d =>
     have : (AV.sc v, ([] : List Nat)) = (.sc v, a2) := Option.some.inj h1
     cases this
     exact ⟨rfl, rfl⟩
   | _ => simp [Ol] at hs
  refine ⟨by rw [hx.1], by rw [hx.2, e2]; rfl⟩
theorem Tu {d : Nat} : ∀ {ts : List Nat} {l : List AV}, ts.length = l.length → l.all Ol = true → Es (Dk Au E0.tp H (d + 1)) ts l = some (l, [])
 | [], [], _, _ => rfl
 | t :: ts, x :: l, h, hl => by
  rw [zap, zag] at hl
  cases x with
  | sc v =>
   rw [Es, Y6, zac, Tu (by simpa using h) hl.2]
   rfl
  | _ => simp [Ol] at hl
 | [], _ :: _, h, _ => by simp at h
 | _ :: _, [], h, _ => by simp at h
theorem Sep.closeR {sz m ty id : Nat} {pre cells post : List AV} (hty : ∃ i j, Au ty = some i ∧ Au i.elem = some j ∧ j.size = sz ∧ j.cty.length = sz) (hs : Sep H (.blk id (pre ++ (cells ++ post)) true :: L)) (hf : cells.all Ol = true) (hl : cells.length = m * sz) : Sep H (.own (.sl id pre.length m sz) ty (.ro m cells) :: L) := by
 obtain ⟨i, j, e1, e2, rfl, e4⟩ := hty
 obtain ⟨I, ⟨J, R, rfl, ⟨rfl, h1⟩, h2⟩, h3⟩ := hs
 have hlen : ((zaj m j.cty).flatten).length = cells.length := by simp [e4, hl]
 refine ⟨[id] ++ R, ⟨[id], R, rfl, ⟨rfl, ⟨i, j, e1, e2, hl, Rv hlen hf⟩, ?_⟩, h2⟩, h3⟩
 rw [Jm]
 have ha : Jz H id = true := by simp only [Jz, h1]
 have hrd : Bc H id pre.length (m * j.size) = some cells := by
  simp only [Bc, h1, if_true]
  rw [if_pos (by simp only [zae]; omega), List.drop_left', ← hl, zb9]
  rfl
  rfl
 simp only [e1, e2, zac, if_true, ha, hrd, Tu (d := 4) hlen hf]
theorem Aip {w m o d : Nat} {z : Int} {K : AV → Option β} (h0 : 0 ≤ z) (h1 : z < m) (hk : Gd G (K (.ptr d (o + z.toNat * w)))) : Gd G (D7 w (.sl d o m w) (.sc (.int .i64 z)) fun t => K t) := by
 have e := Yz w m d o z.toNat (fun t => K t) (by omega)
 rw [show ((z.toNat : Nat) : Int) = z by omega] at e
 exact Ei e hk
end
end
section
open Go
section
variable {β : Type} {n : Nat} {H : Ad} {L L' L1 L2 : List Ck} {G : Option β → Prop} {K : AV → Option β} {KH : KO β}
theorem Xz {d : Nat} : ∀ {ts : List Nat} {xs cells : List AV} {I : List Nat} {k : Nat} {v : Value}, Es (Dk Au E0.tp H d) ts xs = some (cells, I) → cells[k]? = some (.sc v) → xs[k]? = some (.sc v)
 | ts, [], cells, I, k, v, h, hk => by
  obtain ⟨_, e⟩ := Jk h
  cases e
  simp at hk
 | [], _ :: _, _, _, _, _, h, _ => by simp [Es] at h
 | t :: ts, x :: xs, cells, I, k, v, h, hk => by
  obtain ⟨a, b, h1, h2, e⟩ := Id h
  cases e
  cases k with
  | zero =>
   obtain ⟨a1, a2⟩ := a
   have : a1 = .sc v := by simpa using hk
   subst this
   rw [Y8 h1]
   rfl
  | succ k => simpa using Xz h2 (by simpa using hk)
theorem Aio {sz m ty : Nat} {x : AV} {cells : List AV} {i : Int} (hs : Sep H L) (hty : ∃ i j, Au ty = some i ∧ Au i.elem = some j ∧ j.size = sz) (hp : Pk L (.own x ty (.ro m cells)) L1) (h0 : 0 ≤ i) (h1 : i < (m : Nat))
  (h : ∀ id off, (∀ k v, k < sz → cells[i.toNat * sz + k]? = some (.sc v) → Bc H id (off + k) 1 = some [.sc v]) → Gd G (K (.ptr id off))) : Gd G (D7 sz x (si i) fun t => K t) := by
 obtain ⟨ti, tj, e1, e2, rfl⟩ := hty
 obtain ⟨_, _, I, e, _⟩ := hs.own hp
 rcases Y7 e1 e2 e with ⟨rfl, rfl, rfl, rfl⟩ | ⟨id, off, raw, J', b, rfl, rfl, hb, hlv, ha, h4, h5⟩
 exact absurd h1 (by simp; omega)
 refine Aip h0 h1 (h _ _ fun k v hk hc => ?_)
 obtain ⟨hl, b', hb', _, hle, hcs⟩ := Kg h4
 rw [hb] at hb'
 cases hb'
 have hr := Xz h5 hc
 have hlt := (zad.1 hr).1
 rw [hl] at hlt
 have hg : b.cells[off + i.toNat * tj.size + k]? = some (.sc v) := by
  rw [hcs, zbk hlt, zaY] at hr
  rw [← hr]
  congr 1
  omega
 obtain ⟨hlt2, he⟩ := zad.1 hg
 simp only [Bc, hb, hlv, if_true]
 rw [if_pos (by omega), zbh hlt2, he]
 rfl
theorem AlN {id o : Nat} {c : AV} (e : Bc H id o 1 = some [c]) (h : Gd G (K c)) : Gd G (C3 false 1 (.ptr id o) H fun x => K x) := Ei (ldF e _) h
end
end
section
open Go
section
variable {β : Type} {n : Nat} {H : Ad} {L L' L1 L2 : List Ck} {G : Option β → Prop} {K : AV → Option β} {KH : KO β}
theorem AiQ {id o w k v : Nat} {cs : List AV} (e : Bc H id o w = some cs) (hk : k + v ≤ w) : Bc H id (o + k) v = some ((cs.drop k).take v) := by
 obtain ⟨hl, b, hb, hlv, hle, hcs⟩ := Kg e
 simp only [Bc, hb, hlv, if_true]
 rw [if_pos (by omega), hcs, List.drop_take, List.take_take, zbp, Nat.min_eq_left (by omega)]
theorem Qt {id o k : Nat} {c : AV} {w : Nat} {cs : List AV} (e : Bc H id o w = some cs) (hk : k < w) (hc : cs[k]? = some c) (h : Gd G (K c)) : Gd G (C3 false 1 (.ptr id (o + k)) H fun x => K x) := by
 have e2 := AiQ (k := k) (v := 1) e (by omega)
 obtain ⟨hlt, he⟩ := zad.1 hc
 rw [zbh hlt, he] at e2
 exact AlN e2 h
def A9 (s : ByteArray) (b : Int) : ByteArray := s.push (UInt8.ofNat b.toNat)
theorem Ay (s : ByteArray) (b : Int) : (A9 s b).size = s.size + 1 := by
 unfold A9
 exact ByteArray.size_push
theorem H3 (s : ByteArray) (b : Int) (h0 : 0 ≤ b) (h1 : b < 256) : Ag (A9 s b) = .ro (s.size + 1) (Bl s ++ [.sc (.int .u8 b)]) := by
 show AV.ro (A9 s b).size (Bl (A9 s b)) = _
 rw [Ay]
 congr 1
 have e : ((UInt8.ofNat b.toNat).toNat : Int) = b := by
  rw [UInt8.toNat_ofNat']
  omega
 unfold Bl A9
 rw [zbE, Array.toList_push, za4, zaq, zaC, e]
theorem Ff {ty : Nat} {cty : List Nat} {x : AV} {s : ByteArray} {i : Nat} {z : Int} {a : Bool} (hs : Sep H L) (hx : Pk L (.own x ty (Ag s)) L1) (hp : Pk L1 (.blk i [.sc (.int .u8 z)] a) L2) (hty : ∃ i j, Au ty = some i ∧ Au i.elem = some j ∧ j.size = 1 ∧ j.cty = cty) (hc : cty.length = 1) (hb : 0 ≤ z ∧ z < 256 ∧ s.size + 1 ≤ 140737488355328)
  (h : ∀ x' H', Bn x' = true → Sep H' (.own x' ty (Ag (A9 s z)) :: L2) → Gd G (KH x' H')) : Gd G (L7 1 1 x (.sl i 0 1 1) H fun x H => KH x H) := by
 obtain ⟨c, rfl⟩ := zbs.1 hc
 have e1 : (zaj 1 [c]).flatten = [c] := by simp
 rw [H3 s z hb.1 hb.2.1] at h
 exact Aal (m := 1) (cb := [.sc (.int .u8 z)]) hs hty hx (Zf hp rfl rfl (by rw [e1]; exact .sc .nil) (by rw [e1]; exact ⟨trivial, trivial⟩)) (by rw [e1]; exact ⟨trivial, trivial⟩) (by omega) fun x' H' lx hs' => h x' H' lx hs'
theorem Fy {k k' : IntKind} {a z : Int} {K : AV → Option β} (hz : k.wrap a = z) (h : Gd G (K (.sc (.int k z)))) : Gd G (W8 k (.sc (.int k' a)) fun t => K t) := by
 subst hz
 exact h
end
end
section
open Go
section
variable {β : Type} {n : Nat} {H : Ad} {L L1 : List Ck} {G : Option β → Prop} {K : AV → Option β} {KH : KO β}
theorem Nx {ty : Nat} {x : AV} {l : List ByteArray} {y : ByteArray} {i : Int} (hs : Sep H L) (hp : Pk L (.own x ty (En l)) L1) (hty : ∃ i j, Au ty = some i ∧ Au i.elem = some j ∧ j.size = 1) (h0 : 0 ≤ i) (hy : l[i.toNat]? = some y)
  (h : ∀ id off, Bc H id off 1 = some [ss y] → Gd G (K (.ptr id off))) : Gd G (D7 1 x (si i) fun t => K t) := by
 have hlt := (zad.1 hy).1
 exact Aio (m := l.length) (cells := l.map fun z => .sc (.string z)) hs hty hp h0 (by omega) fun id off hc => h id off (hc 0 _ (by omega) (by simp [hy]))
theorem Nw {ty f : Nat} {g : Nat → List AV → Option AV} {args vs : List AV} {v : Value} (hg : E0.ext f = some g) (hv : args.mapM (Dz H 8) = some vs) (ht : g ty vs = some (.sc v)) (h : Gd G (KH (.sc v) H)) : Gd G ((PR n β).call ty (.fn f [] []) args H fun x H => KH x H) := by
 refine Ei ?_ h
 rw [AaM hg hv ht, G7, zan]
theorem Aiq {X : Option β} (e : Bool) {F : Bool → Option β} (h1 : ∀ b, b = e → Gd (· = F b) X) (h2 : ∀ b, b = e → Gd G (F b)) : Gd G X := by
 have h : X = F e := h1 e rfl
 rw [h]
 exact h2 e rfl
theorem AfW {X : Option β} : Gd (· = X) X := rfl
theorem AlP {c v b : Bool} {y : AV} (hc : c = true) (hv : v = b) (h : Gd G (K (.sc (.bool b)))) : Gd G (Oi (.sc (.bool c)) (.sc (.bool v)) y fun t => K t) := by
 subst hc
 subst hv
 exact B4 rfl h
theorem AlO {c v b : Bool} {x : AV} (hc : c = false) (hv : v = b) (h : Gd G (K (.sc (.bool b)))) : Gd G (Oi (.sc (.bool c)) x (.sc (.bool v)) fun t => K t) := by
 subst hc
 subst hv
 exact A7 rfl h
end
end
end Go.Proofs.YtlcpigdmekgajaaGreatDoor.Abs
set_option maxHeartbeats 1600000
namespace Go.Proofs.YtlcpigdmekgajaaGreatDoor.Abs
open _root_.Bool renaming false_eq_true → zaa, and_eq_true → zag, not_true → zaw, true_and → zaA, eq_iff_iff → zb8
open _root_.Option renaming bind_eq_some_iff → zab, bind_some → zac, map_eq_some_iff → zaH, getD_some → zaJ, bind_eq_bind → zaM, pure_def → zbb
open _root_.List renaming getElem?_eq_some_iff → zad, length_append → zae, append_assoc → zaf, getElem?_append_right → zah, getElem?_append_left → zai, replicate → zaj, nil_append → zal, append_nil → zan, length_cons → zao, all_cons → zap, map_cons → zaq, length_singleton → zas, mem_cons_of_mem → zau, length_nil → zav, mem_cons_self → zax, cons_append → zaz, flatten_cons → za1, drop_append_of_le_length → za3, map_append → za4, all_eq_true → za7, map_nil → zaC, mem_append_left → zaD, mapM_cons → zaG, take_length → zaK, mem_append_right → zaL, mem_append → zaR, drop_zero → zaT, drop_length → zaU, getElem?_map → zaW, getElem?_drop → zaY, nodup_append → zba, replicate_succ → zbf, drop_eq_getElem_cons → zbh, nodup_cons → zbi, getElem?_take_of_lt → zbk, mem_singleton → zbl, getElem?_cons_zero → zbn, drop_drop → zbp, length_eq_one_iff → zbs, getD_eq_getElem?_getD → zbt, flatten_append → zb2, flatten_nil → zb3, drop_of_length_le → zb5, take_left' → zb9, Perm → zbA, any_cons → zbB, getElem?_set_ne → zbC, mem_cons → zbG, mem_map → zbI, map_map → zbJ
open _root_.ByteArray renaming size → zbD, data_push → zbE
open _root_.Nat renaming le_refl → zam, zero_add → za2, le_trans → za5, add_assoc → zaE, add_zero → zaO, eq_of_beq_eq_true → zaQ, sub_self → zaZ, succ_mul → zbv, mul_one → zbx, beq → zb4, add_comm → zbF, add_mul → zbH
open _root_.Array renaming ext' → zbd, replicate → zb0
open _root_.Int renaming natCast_zero → zaV, toNat_natCast → zbq
section
open Go
def Fz (l : ByteArray) (last : Bool) : Bool := !vPH l || (l.toList == (⟨#[43]⟩ : ByteArray).toList || (l.toList == (⟨#[35]⟩ : ByteArray).toList && last))
def E4 : List ByteArray → Bool
 | [] => true
 | x :: r => Fz x r.isEmpty && E4 r
def F4 (s : ByteArray) : Bool := Bi s && (!(s.toList == (⟨#[]⟩ : ByteArray).toList) && decide (((Bp s).length : Int) ≤ 6))
def Cb (s : ByteArray) : Bool := E4 (Bp s) && F4 s
theorem eqB {a b : ByteArray} : (a.toList == b.toList) = true ↔ a = b := by
 rw [beq_iff_eq]
 constructor
 intro h
 have h2 : a.data.toList = b.data.toList := by simpa [ByteArray.toList_eq] using h
 exact ByteArray.ext (zbd h2)
 rintro rfl
 rfl
theorem Y3 : ∀ (r cur : List UInt8), (lvL cur r).length ≤ r.length + 1
 | [], cur => by simp [lvL]
 | c :: r, cur => by
  rw [lvL]
  split
  have := Y3 r []
  simp only [zao]
  omega
  have := Y3 r (cur ++ [c])
  simp only [zao]
  omega
theorem Ss : ∀ (r cur : List UInt8), ∀ x ∈ lvL cur r, x.length ≤ cur.length + r.length
 | [], cur, x, h => by
  simp only [lvL, zbl] at h
  subst h
  simp
 | c :: r, cur, x, h => by
  rw [lvL] at h
  split at h
  rcases zbG.1 h with rfl | h
  simp only [zao]
  omega
  have := Ss r [] x h
  simp only [zao, zav] at *
  omega
  have := Ss r (cur ++ [c]) x h
  simp only [zae, zao, zav] at *
  omega
theorem Ke (s : ByteArray) (hs : s.size ≤ 1048576) : (Bp s).length ≤ 1048577 := by
 have := Y3 s.data.toList []
 unfold Bp
 rw [List.length_map]
 have e : s.data.toList.length = s.size := by simp
 omega
theorem Xs (s : ByteArray) (hs : s.size ≤ 1048576) (x : ByteArray) (hx : x ∈ Bp s) : x.size ≤ 1048576 := by
 unfold Bp at hx
 obtain ⟨l, hl, rfl⟩ := zbI.1 hx
 have := Ss s.data.toList [] l hl
 have e : s.data.toList.length = s.size := by simp
 have e2 : (ofL l).size = l.length := by simp [ofL, zbD]
 simp only [zav] at this
 omega
theorem AlT (a b : Nat) : decide (((a : Nat) : Int) < ((a + (b + 1) : Nat) : Int) - 1) = !decide (((a : Nat) : Int) = ((a + (b + 1) : Nat) : Int) - 1) := by
 by_cases h : b = 0
 rw [decide_eq_false (by omega), decide_eq_true (by omega)]
 rfl
 rw [decide_eq_true (by omega), decide_eq_false (by omega)]
 rfl
theorem AdU (l : ByteArray) (last : Bool) : Fz l last = !((It l 43 && !(l.toList == (⟨#[43]⟩ : ByteArray).toList)) || (It l 35 && (!(l.toList == (⟨#[35]⟩ : ByteArray).toList) || !last))) := by
 unfold Fz
 rw [show vPH l = (It l 43 || It l 35) from rfl]
 by_cases h1 : (l.toList == (⟨#[43]⟩ : ByteArray).toList) = true
 obtain rfl := eqB.1 h1
 have e1 : It (⟨#[43]⟩ : ByteArray) 43 = true := by decide
 have e2 : It (⟨#[43]⟩ : ByteArray) 35 = false := by decide
 rw [e1, e2, h1]
 simp
 by_cases h2 : (l.toList == (⟨#[35]⟩ : ByteArray).toList) = true
 obtain rfl := eqB.1 h2
 have e1 : It (⟨#[35]⟩ : ByteArray) 43 = false := by decide
 have e2 : It (⟨#[35]⟩ : ByteArray) 35 = true := by decide
 rw [e1, e2, h2, Bool.eq_false_iff.2 h1]
 simp
 rw [Bool.eq_false_iff.2 h1, Bool.eq_false_iff.2 h2]
 cases It l 43 <;> cases It l 35 <;> rfl
theorem Ago (n : Nat) (x : ByteArray) (b : Bool) (hx : x.size ≤ 1048576) : Dd E0 (n + 1) 4 150 [.sc (.string x), .sc (.bool b)] = some (.sc (.bool (Fz x b))) := by
 rw [Bd, AhK, f150]
 refine C6 (G := (· = some (sb (Fz x b)))) ?_
 try simp only [A4, D5, Bh, Pr.gT, Pr.gF, Pr.hT, Pr.hF, Pr.kT, Pr.kF, Bv]
 have s0 : Sep [] [] := Cx
 refine Nw rfl rfl (Xc _ x hx) (C2 (Aa ((vPH x)) (fun h1 => ?_) (fun h1 => ?_)))
 refine Ae (nF h1) (Ae (nF h1) (AfX (A7 (nF h1) (Aa ((x.toList == (⟨#[43]⟩ : ByteArray).toList)) (fun h2 => ?_) (fun h2 => ?_)))))
 refine Ac h2 (Ac h2 (Ac h2 (D1 (Ac h2 (B4 h2 (Ai rfl ?_))))))
 have e : Fz x b = true := by
  unfold Fz; simp only [h1, h2, Cw]
 rw [e]
 refine Ae h2 (Ae h2 (AfX (Ae h2 (Aa ((x.toList == (⟨#[35]⟩ : ByteArray).toList)) (fun h3 => ?_) (fun h3 => ?_)))))
 refine Ae h3 (Ae h2 (B4 h3 (A7 h2 (Ai rfl ?_))))
 have e : Fz x b = b := by
  unfold Fz; simp only [h1, h2, h3, Cw]
 rw [e]
 refine Ac h3 (Ae h2 (A7 h3 (A7 h2 (Ai rfl ?_))))
 have e : Fz x b = false := by
  unfold Fz; simp only [h1, h2, h3, Cw]
 rw [e]
 refine Ac (nT h1) (Ac (nT h1) (B4 (nT h1) (Ac rfl (Ac rfl (Ac rfl (D1 (Ac rfl (B4 rfl (Ai rfl ?_)))))))))
 have e : Fz x b = true := by
  unfold Fz; simp only [h1, Cw]
 rw [e]
theorem O4 (n : Nat) (hn : 1048576 < n) (s : ByteArray) (hs : s.size ≤ 1048576) (ks : okS s)   : ∀ (t pre : List ByteArray) (m : Nat) (i : Int) (x1 : AV) (H : Ad), (Bp s) = pre ++ t → i = ((pre.length : Nat) : Int) → t.length < m → Bn x1 = true → Sep H [.own x1 56 (En (Bp s))] → Gd (· = some (.sc (.bool (E4 t && F4 s)))) (Ns (PR (n + 5) AV) (n + 5) (fun x H => Bf Au E0.tp 4 H x) m (.sc (.string s)) (x1) (x1) (.sc (.int .i64 (((Bp s).length : Nat) : Int))) (.sc (.int .i64 i)) H)
 | [], pre, m + 1, i, x1, H, he, hi, hm, lx1, s0 => by
  obtain rfl : pre = (Bp s) := by simpa using he.symm
  have hlen : (Bp s).length ≤ 1048577 := Ke s hs
  have hlen : (Bp s).length ≤ 1048577 := Ke s hs
  rw [Ns]
  try simp only [Ba, A4, D5, Av, Bh, Pr.gT, Pr.gF, Pr.hT, Pr.hF, Pr.kT, Pr.kF, Bv, B5, Bu]
  refine Dw (Ax (by simp [hi]) (Nw rfl rfl (Ia _ s ks) (Aa ((Bi s)) (fun h201 => ?_) (fun h201 => ?_))))
  refine Ae h201 (Ae h201 (Sm (B4 h201 (Aa ((s.toList == (⟨#[]⟩ : ByteArray).toList)) (fun h202 => ?_) (fun h202 => ?_)))))
  refine Ac (nF h202) (Ac (nF h202) (Ac (nF h202) (A7 (nF h202) (Ai rfl ?_))))
  have e : (E4 [] && F4 s) = false := by
   unfold F4; simp only [E4, h201, h202, Cw]
  rw [e]
  refine Ae (nT h202) (Ae (nT h202) (J7 s0 (.here) (Ae (nT h202) (Ku (B4 (nT h202) (Ai rfl ?_))))))
  have e : (E4 [] && F4 s) = (decide ((((Bp s).length : Nat) : Int) ≤ 6)) := by
   unfold F4; simp only [E4, h201, h202, Cw]
  rw [e]
  refine Ac h201 (Ac h201 (A7 h201 (Ac rfl (Ac rfl (Ac rfl (A7 rfl (Ai rfl ?_)))))))
  have e : (E4 [] && F4 s) = false := by
   unfold F4; simp only [E4, h201, Cw]
  rw [e]
 | y :: t, pre, m + 1, i, x1, H, he, hi, hm, lx1, s0 => by
  have hlt : pre.length < (Bp s).length := by rw [he]; simp
  have hlen : (Bp s).length ≤ 1048577 := Ke s hs
  have hlen : (Bp s).length ≤ 1048577 := Ke s hs
  have hys : y.size ≤ 1048576 := Xs s hs y (by rw [he]; simp)
  have hd : decide (i = (((Bp s).length : Nat) : Int) - 1) = t.isEmpty := by
   rw [he, hi]; cases t <;> simp <;> omega
  rw [Ns]
  try simp only [Ba, A4, D5, Av, Bh, Pr.gT, Pr.gF, Pr.hT, Pr.hF, Pr.kT, Pr.kF, Bv, B5, Bu]
  refine Dw (As (by simp [hi]; omega) ?_)
  have he201 : ((Bp s))[(i).toNat]? = some y := by rw [he, hi]; simp
  refine Nx (y := y) s0 (.here) ⟨_, _, rfl, rfl, rfl⟩ (by omega) he201 fun de201 oe201 re201 => Qt (k := 0) re201 (by omega) rfl (J7 s0 (.here) (O2 (by omega) (by omega) (Be (Aq (v := (.bool (Fz y (decide (i = ((((Bp s).length : Nat) : Int) - 1)))))) s0 rfl (Ir .nil) (Ago (n + 4) y (decide (i = ((((Bp s).length : Nat) : Int) - 1))) hys) (C2 (Aa ((Fz y (decide (i = ((((Bp s).length : Nat) : Int) - 1))))) (fun h203 => ?_) (fun h203 => ?_)))))))
  refine Ax (nF h203) (B9 (by omega) (by omega) ?_)
  have e204 : (E4 (y :: t) && F4 s) = (E4 t && F4 s) := by
   rw [E4, ← hd]; simp only [h203, Cw]
  rw [e204]
  exact O4 n hn s hs ks   t (pre ++ [y]) m _ x1 _ (by rw [he]; simp) (by rw [hi]; simp) (by simpa using hm) lx1 (by simpa only [za4, zaq, zaC] using (s0.sel (.cons (.here) .nil)))
  refine As (nT h203) (Ai rfl ?_)
  have e : (E4 (y :: t) && F4 s) = false := by
   rw [E4, ← hd]; simp only [h203, Cw]
  rw [e]
theorem To (n : Nat) (hn : 1048576 < n) (s : ByteArray) (hs : s.size ≤ 1048576) (ks : okS s) : Dd E0 (n + 6) 4 138 [.sc (.string s)] = some (.sc (.bool (Cb s))) := by
 rw [Bd, AhD, f138]
 refine C6 (G := (· = some (sb (Cb s)))) ?_
 have hlen : (Bp s).length ≤ 1048577 := Ke s hs
 try simp only [B5]
 have s0 : Sep [] [] := Cx
 exact Cg s0 rfl (.cons .sc .nil) (Tp (n + 4) s hs) (V4 (Bp s)) fun x1 H lx1 s2 => J7 s2 (.here) (O4 n hn s hs ks   (Bp s) [] _ 0 x1 _ rfl rfl (by omega) lx1 s2)
theorem H7 (n : Nat) (hn : 1048576 < n) (s : ByteArray) (hs : s.size ≤ 1048576) (ks : okS s)   : ∀ (t pre : List ByteArray) (m : Nat) (i : Int) (x1 : AV) (H : Ad), (Bp s) = pre ++ t → i = ((pre.length : Nat) : Int) → t.length < m → Bn x1 = true → Sep H [.own x1 56 (En (Bp s))] → Gd (· = some (.sc (.bool (E4 t && F4 s)))) (Qq (PR (n + 5) AV) (n + 5) (fun x H => Bf Au E0.tp 4 H x) m (.sc (.string s)) (x1) (.sc (.int .i64 i)) H)
 | [], pre, m + 1, i, x1, H, he, hi, hm, lx1, s0 => by
  obtain rfl : pre = (Bp s) := by simpa using he.symm
  have hlen : (Bp s).length ≤ 1048577 := Ke s hs
  have hlen : (Bp s).length ≤ 1048577 := Ke s hs
  rw [Qq]
  try simp only [Ba, A4, Av, Bh, Pr.gT, Pr.gF, Pr.hT, Pr.hF, Pr.kT, Pr.kF, Bv, B5, Bu]
  refine J7 s0 (.here) (Dw (Ax (by simp [hi]) (Aq (v := (.bool (Bi s))) s0 rfl (.cons .sc .nil) (Gk (n + 1) (by omega) _ s) (Aa ((Bi s)) (fun h201 => ?_) (fun h201 => ?_)))))
  refine Ae h201 (Ae h201 (Sm (B4 h201 (Aa ((s.toList == (⟨#[]⟩ : ByteArray).toList)) (fun h202 => ?_) (fun h202 => ?_)))))
  refine Ac (nF h202) (Ac (nF h202) (Ac (nF h202) (A7 (nF h202) (Ai rfl ?_))))
  have e : (E4 [] && F4 s) = false := by
   unfold F4; simp only [E4, h201, h202, Cw]
  rw [e]
  refine Ae (nT h202) (Ae (nT h202) (J7 s0 (.here) (Ae (nT h202) (Ku (B4 (nT h202) (Ai rfl ?_))))))
  have e : (E4 [] && F4 s) = (decide ((((Bp s).length : Nat) : Int) ≤ 6)) := by
   unfold F4; simp only [E4, h201, h202, Cw]
  rw [e]
  refine Ac h201 (Ac h201 (A7 h201 (Ac rfl (Ac rfl (Ac rfl (A7 rfl (Ai rfl ?_)))))))
  have e : (E4 [] && F4 s) = false := by
   unfold F4; simp only [E4, h201, Cw]
  rw [e]
 | y :: t, pre, m + 1, i, x1, H, he, hi, hm, lx1, s0 => by
  have hlt : pre.length < (Bp s).length := by rw [he]; simp
  have hlen : (Bp s).length ≤ 1048577 := Ke s hs
  have hlen : (Bp s).length ≤ 1048577 := Ke s hs
  have hys : y.size ≤ 1048576 := Xs s hs y (by rw [he]; simp)
  have hd : decide (i = (((Bp s).length : Nat) : Int) - 1) = t.isEmpty := by
   rw [he, hi]; cases t <;> simp <;> omega
  have hv : Fz y t.isEmpty = !((It y 43 && !(y.toList == (⟨#[43]⟩ : ByteArray).toList)) || (It y 35 && (!(y.toList == (⟨#[35]⟩ : ByteArray).toList) || decide (i < (((Bp s).length : Nat) : Int) - 1)))) := by
   rw [AdU, ← hd, show decide (i < (((Bp s).length : Nat) : Int) - 1) = !decide (i = (((Bp s).length : Nat) : Int) - 1) from by rw [he, hi, zae, zao]; exact AlT _ _]
  rw [Qq]
  try simp only [Ba, A4, Av, Bh, Pr.gT, Pr.gF, Pr.hT, Pr.hF, Pr.kT, Pr.kF, Bv, B5, Bu]
  refine J7 s0 (.here) (Dw (As (by simp [hi]; omega) ?_))
  have he201 : ((Bp s))[(i).toNat]? = some y := by rw [he, hi]; simp
  refine Nx (y := y) s0 (.here) ⟨_, _, rfl, rfl, rfl⟩ (by omega) he201 fun de201 oe201 re201 => Qt (k := 0) re201 (by omega) rfl (Aq (v := (.bool (It y 43))) s0 rfl (Ir .nil) (AjC (n + 4) (by omega) _ y hys) (Aa ((It y 43)) (fun h203 => ?_) (fun h203 => ?_)))
  refine Ae h203 (Ae h203 (Ae h203 ?_))
  have he204 : ((Bp s))[(i).toNat]? = some y := by rw [he, hi]; simp
  refine Nx (y := y) s0 (.here) ⟨_, _, rfl, rfl, rfl⟩ (by omega) he204 fun de204 oe204 re204 => Ae h203 (Qt (k := 0) re204 (by omega) rfl (Ae h203 (Sm (B4 h203 (Aa ((y.toList == (⟨#[43]⟩ : ByteArray).toList)) (fun h206 => ?_) (fun h206 => ?_))))))
  refine Ae (nF h206) (Ae (nF h206) (Ae (nF h206) ?_))
  have he207 : ((Bp s))[(i).toNat]? = some y := by rw [he, hi]; simp
  refine Nx (y := y) s0 (.here) ⟨_, _, rfl, rfl, rfl⟩ (by omega) he207 fun de207 oe207 re207 => Ae (nF h206) (Qt (k := 0) re207 (by omega) rfl (Ae (nF h206) (Aq (v := (.bool (It y 35))) s0 rfl (Ir .nil) (Agb (n + 4) (by omega) _ y hys) (Ae (nF h206) (Aa ((It y 35)) (fun h209 => ?_) (fun h209 => ?_))))))
  refine Ae h209 (Ae h209 (Ae h209 ?_))
  have he210 : ((Bp s))[(i).toNat]? = some y := by rw [he, hi]; simp
  refine Nx (y := y) s0 (.here) ⟨_, _, rfl, rfl, rfl⟩ (by omega) he210 fun de210 oe210 re210 => Ae h209 (Qt (k := 0) re210 (by omega) rfl (Ae h209 (Sm (Ae h209 (Aa ((y.toList == (⟨#[35]⟩ : ByteArray).toList)) (fun h212 => ?_) (fun h212 => ?_))))))
  refine Ae (nF h212) (Ae (nF h212) (Ae (nF h212) (J7 s0 (.here) (Ae (nF h212) (O2 (by omega) (by omega) (Ae (nF h212) (Dw (Ae h209 (A7 (nF h212) (Ae (nF h206) (B4 h209 (A7 (nF h206) (Aa ((decide (i < ((((Bp s).length : Nat) : Int) - 1)))) (fun h213 => ?_) (fun h213 => ?_))))))))))))))
  refine As h213 (Ai rfl ?_)
  have e : (E4 (y :: t) && F4 s) = false := by
   rw [E4, hv]; simp only [h203, h206, h209, h212, h213, Cw]
  rw [e]
  refine Ax h213 (B9 (by omega) (by omega) ?_)
  have e214 : (E4 (y :: t) && F4 s) = (E4 t && F4 s) := by
   rw [E4, hv]; simp only [h203, h206, h209, h212, h213, Cw]
  rw [e214]
  exact H7 n hn s hs ks   t (pre ++ [y]) m _ x1 _ (by rw [he]; simp) (by rw [hi]; simp) (by simpa using hm) lx1 (by simpa only [za4, zaq, zaC] using (s0.sel (.cons (.here) .nil)))
  refine Ac (nT h212) (Ac (nT h212) (Ac (nT h212) (Ac (nT h212) (Ac (nT h212) (Ae h209 (B4 (nT h212) (Ae (nF h206) (B4 h209 (A7 (nF h206) (As rfl (Ai rfl ?_)))))))))))
  have e : (E4 (y :: t) && F4 s) = false := by
   rw [E4, hv]; simp only [h203, h206, h209, h212, Cw]
  rw [e]
  refine Ac h209 (Ac h209 (Ac h209 (Ac h209 (Ac h209 (Ac h209 (D1 (D1 (D1 (D1 (D1 (Ac h209 (Ae (nF h206) (A7 h209 (A7 (nF h206) (Ax rfl (B9 (by omega) (by omega) ?_))))))))))))))))
  have e215 : (E4 (y :: t) && F4 s) = (E4 t && F4 s) := by
   rw [E4, hv]; simp only [h203, h206, h209, Cw]
  rw [e215]
  exact H7 n hn s hs ks   t (pre ++ [y]) m _ x1 _ (by rw [he]; simp) (by rw [hi]; simp) (by simpa using hm) lx1 (by simpa only [za4, zaq, zaC] using (s0.sel (.cons (.here) .nil)))
  refine Ac (nT h206) (Ac (nT h206) (Ac (nT h206) (Ac (nT h206) (Ac (nT h206) (Ac (nT h206) (D1 (D1 (D1 (D1 (D1 (D1 (D1 (D1 (D1 (D1 (D1 (D1 (Ac (nT h206) (B4 (nT h206) (As rfl (Ai rfl ?_)))))))))))))))))))))
  have e : (E4 (y :: t) && F4 s) = false := by
   rw [E4, hv]; simp only [h203, h206, Cw]
  rw [e]
  refine Ac h203 (Ac h203 (Ac h203 (Ac h203 (Ac h203 (A7 h203 (Ae rfl (Ae rfl (Ae rfl ?_))))))))
  have he216 : ((Bp s))[(i).toNat]? = some y := by rw [he, hi]; simp
  refine Nx (y := y) s0 (.here) ⟨_, _, rfl, rfl, rfl⟩ (by omega) he216 fun de216 oe216 re216 => Ae rfl (Qt (k := 0) re216 (by omega) rfl (Ae rfl (Aq (v := (.bool (It y 35))) s0 rfl (Ir .nil) (Agb (n + 4) (by omega) _ y hys) (Ae rfl (Aa ((It y 35)) (fun h218 => ?_) (fun h218 => ?_))))))
  refine Ae h218 (Ae h218 (Ae h218 ?_))
  have he219 : ((Bp s))[(i).toNat]? = some y := by rw [he, hi]; simp
  refine Nx (y := y) s0 (.here) ⟨_, _, rfl, rfl, rfl⟩ (by omega) he219 fun de219 oe219 re219 => Ae h218 (Qt (k := 0) re219 (by omega) rfl (Ae h218 (Sm (Ae h218 (Aa ((y.toList == (⟨#[35]⟩ : ByteArray).toList)) (fun h221 => ?_) (fun h221 => ?_))))))
  refine Ae (nF h221) (Ae (nF h221) (Ae (nF h221) (J7 s0 (.here) (Ae (nF h221) (O2 (by omega) (by omega) (Ae (nF h221) (Dw (Ae h218 (A7 (nF h221) (Ae rfl (B4 h218 (A7 rfl (Aa ((decide (i < ((((Bp s).length : Nat) : Int) - 1)))) (fun h222 => ?_) (fun h222 => ?_))))))))))))))
  refine As h222 (Ai rfl ?_)
  have e : (E4 (y :: t) && F4 s) = false := by
   rw [E4, hv]; simp only [h203, h218, h221, h222, Cw]
  rw [e]
  refine Ax h222 (B9 (by omega) (by omega) ?_)
  have e223 : (E4 (y :: t) && F4 s) = (E4 t && F4 s) := by
   rw [E4, hv]; simp only [h203, h218, h221, h222, Cw]
  rw [e223]
  exact H7 n hn s hs ks   t (pre ++ [y]) m _ x1 _ (by rw [he]; simp) (by rw [hi]; simp) (by simpa using hm) lx1 (by simpa only [za4, zaq, zaC] using (s0.sel (.cons (.here) .nil)))
  refine Ac (nT h221) (Ac (nT h221) (Ac (nT h221) (Ac (nT h221) (Ac (nT h221) (Ae h218 (B4 (nT h221) (Ae rfl (B4 h218 (A7 rfl (As rfl (Ai rfl ?_)))))))))))
  have e : (E4 (y :: t) && F4 s) = false := by
   rw [E4, hv]; simp only [h203, h218, h221, Cw]
  rw [e]
  refine Ac h218 (Ac h218 (Ac h218 (Ac h218 (Ac h218 (Ac h218 (D1 (D1 (D1 (D1 (D1 (Ac h218 (Ae rfl (A7 h218 (A7 rfl (Ax rfl (B9 (by omega) (by omega) ?_))))))))))))))))
  have e224 : (E4 (y :: t) && F4 s) = (E4 t && F4 s) := by
   rw [E4, hv]; simp only [h203, h218, Cw]
  rw [e224]
  exact H7 n hn s hs ks   t (pre ++ [y]) m _ x1 _ (by rw [he]; simp) (by rw [hi]; simp) (by simpa using hm) lx1 (by simpa only [za4, zaq, zaC] using (s0.sel (.cons (.here) .nil)))
theorem Mk (n : Nat) (hn : 1048576 < n) (s : ByteArray) (hs : s.size ≤ 1048576) (ks : okS s) : Dd E0 (n + 6) 4 92 [.sc (.string s)] = some (.sc (.bool (Cb s))) := by
 rw [Bd, AkD, f92]
 refine C6 (G := (· = some (sb (Cb s)))) ?_
 have hlen : (Bp s).length ≤ 1048577 := Ke s hs
 try simp only [F8]
 have s0 : Sep [] [] := Cx
 exact Cg s0 rfl (.cons .sc .nil) (T0 (n + 4) (by omega) s hs) (V4 (Bp s)) fun x1 H lx1 s2 => H7 n hn s hs ks   (Bp s) [] _ 0 x1 _ rfl rfl (by omega) lx1 s2
end
section
open Go
theorem Alb {s : ByteArray} (h : s.size ≤ 1048576) : okS s := za5 h (by decide)
theorem Ka (n : Nat) (hn : 1048576 < n) (ty : Nat) (s : ByteArray) (hs : s.size ≤ 1048576) : Dd E0 (n + 5) ty 91 [.sc (.string s)] = some (.sc (.bool (Dl s))) := by
 rw [Bd, AkC, f91]
 try simp only [Gw, F8, B6, Ba, D9, A4, Iv, Ky, D5, Av, Bh, Pr.gT, Pr.gF, Pr.hT, Pr.hF, Pr.kT, Pr.kF, Bv, B5, Hf, Bu, Nl, Ho, I4, Cq, Ct, Po, Du, Dh, Gm]
 refine Kw rfl (Dy (Jd _ _) Ip) (Gk (n + 0) (by omega) _ s) ?_
 apply B8 ((Bi s) && (!(s.toList == (⟨#[]⟩ : ByteArray).toList)))
 intro b1 q1
 refine Aa ((Bi s)) (fun h1 => ?_) (fun h1 => ?_)
 exact A2 h1 (A2 h1 (Do (v := sb (!(s.toList == (⟨#[]⟩ : ByteArray).toList))) (fun k => rfl) (Dq h1 (Js q1 h1) rfl)))
 exact A1 h1 (A1 h1 (Dp h1 (Jr q1 h1) rfl))
 intro b1 q1
 apply B8 (b1 && (!(It s 43)))
 intro b2 q2
 refine Aa (b1) (fun h2 => ?_) (fun h2 => ?_)
 exact A2 h2 (A2 h2 (Kw rfl (Dy (Jd _ _) (Dy (Jd _ _) Ip)) (AjC (n + 3) (by omega) _ s hs) (A2 h2 (Yd (Dq h2 (Js q2 h2) rfl)))))
 exact A1 h2 (A1 h2 (A1 h2 (Dp h2 (Jr q2 h2) rfl)))
 intro b2 q2
 apply B8 (b2 && (!(It s 35)))
 intro b3 q3
 refine Aa (b2) (fun h3 => ?_) (fun h3 => ?_)
 exact A2 h3 (A2 h3 (Kw rfl (Dy (Jd _ _) (Dy (Jd _ _) Ip)) (Agb (n + 3) (by omega) _ s hs) (A2 h3 (Yd (Dq h3 (Js q3 h3) rfl)))))
 exact A1 h3 (A1 h3 (A1 h3 (Dp h3 (Jr q3 h3) rfl)))
 intro b3 q3
 apply B8 (b3 && (decide (((Bp s).length : Int) ≤ 6)))
 intro b4 q4
 refine Aa (b3) (fun h4 => ?_) (fun h4 => ?_)
 exact A2 h4 (A2 h4 (Acx rfl (Dy (Jd _ _) Ip) (T0 (n + 3) (by omega) s hs) fun N5 X5 z5 => A2 h4 (AgT (A2 h4 (Do (v := sb (decide (((Bp s).length : Int) ≤ 6))) (fun k => rfl) (Dq h4 (Js q4 h4) rfl))))))
 exact A1 h4 (A1 h4 (A1 h4 (A1 h4 (Dp h4 (Jr q4 h4) rfl))))
 intro b4 q4
 exact AgS (by subst_vars; unfold Dl; first | rfl | (unfold vPH; cases Bi s <;> cases It s 43 <;> cases It s 35 <;> simp))
theorem Qu (n : Nat) (hn : 1048576 < n) (ty : Nat) (s : ByteArray) (hs : s.size ≤ 1048576) : Dd E0 (n + 5) ty 108 [.sc (.string s)] = some (.sc (.bool (Dl s))) := by
 rw [Bd, Ahu, f108]
 try simp only [Gw, F8, B6, Ba, D9, A4, Iv, Ky, D5, Av, Bh, Pr.gT, Pr.gF, Pr.hT, Pr.hF, Pr.kT, Pr.kF, Bv, B5, Hf, Bu, Nl, Ho, I4, Cq, Ct, Po, Du, Dh, Gm]
 refine Ags rfl (Dy (Jd _ _) Ip) (Ia _ s (Alb hs)) ?_
 apply B8 ((Bi s) && (!(s.toList == (⟨#[]⟩ : ByteArray).toList)))
 intro b1 q1
 refine Aa ((Bi s)) (fun h1 => ?_) (fun h1 => ?_)
 exact A2 h1 (A2 h1 (Do (v := sb (!(s.toList == (⟨#[]⟩ : ByteArray).toList))) (fun k => rfl) (Dq h1 (Js q1 h1) rfl)))
 exact A1 h1 (A1 h1 (Dp h1 (Jr q1 h1) rfl))
 intro b1 q1
 apply B8 (b1 && (!(vPH s)))
 intro b2 q2
 refine Aa (b1) (fun h2 => ?_) (fun h2 => ?_)
 exact A2 h2 (A2 h2 (Ags rfl (Dy (Jd _ _) (Dy (Jd _ _) Ip)) (Xc _ s hs) (A2 h2 (Yd (Dq h2 (Js q2 h2) rfl)))))
 exact A1 h2 (A1 h2 (A1 h2 (Dp h2 (Jr q2 h2) rfl)))
 intro b2 q2
 apply B8 (b2 && (decide (((Bp s).length : Int) ≤ 6)))
 intro b3 q3
 refine Aa (b2) (fun h3 => ?_) (fun h3 => ?_)
 exact A2 h3 (A2 h3 (Acx rfl (Dy (Jd _ _) Ip) (Tp (n + 3) s hs) fun N4 X4 z4 => A2 h3 (AgT (A2 h3 (Do (v := sb (decide (((Bp s).length : Int) ≤ 6))) (fun k => rfl) (Dq h3 (Js q3 h3) rfl))))))
 exact A1 h3 (A1 h3 (A1 h3 (A1 h3 (Dp h3 (Jr q3 h3) rfl))))
 intro b3 q3
 exact AgS (by subst_vars; unfold Dl; first | rfl | (unfold vPH; cases Bi s <;> cases It s 43 <;> cases It s 35 <;> simp))
end
section
open Go
def J5 (x y : WantV) : Bool := x.fFilter.toList == y.fFilter.toList && x.fQos == y.fQos
theorem Xa (x y : WantV) : Me [1, 0] (Bw x) (Bw y) = some (J5 x y) := by
 simp only [Bw, Me, Abb, J5, if_true, zac]
 generalize (x.fFilter.toList == y.fFilter.toList) = b0
 generalize (x.fQos == y.fQos) = b1
 cases b0 <;> cases b1 <;> rfl
theorem Abc (n : Nat) (hn : 1048576 < n) (ty : Nat) (l q : List WantV) (hl : l.length ≤ 1048576) : Dd E0 (n + 1) ty 132 [C5 Bw l, C5 Bw q] = some (.sc (.bool (Hg J5 l q))) := by
 rw [Bd, Ah9, f132]
 simp only [B5, A4, Av]
 rw [Gi, Gi, Ru, Dv, Hg]
 by_cases h : l.length = q.length
 rw [if_neg (by simpa using h), if_pos h]
 rw [Gi]
 have key := Lq (β := AV) Bw (Gu) (by decide) (fun x => .agg (Bw x)) (fun p k => C3 true 2 p [] k) (fun x r k => Aaq 2 _ _ [] k (Gu x)) (fun x y k => R2 .neq [1, 0] x y k) J5 (fun x y k => AbT _ _ _ _ (Xa x y) k) l q h hl (fun m i => Q9 (PR n AV) n (fun x H => Bf Au E0.tp ty H x) m (C5 Bw l) (C5 Bw q) (si l.length) i []) (some bF) (some bT) (fun m i => rfl) l q [] [] n rfl rfl rfl (by omega)
 simp only [zav, zaV] at key
 refine key.trans ?_
 cases Jt J5 l q <;> rfl
 rw [if_pos (by simpa using h), if_neg h]
 rfl
theorem AcO (n : Nat) (hn : 1048576 < n) (ty : Nat) (l q : List ByteArray) (hl : l.length ≤ 1048576) : Dd E0 (n + 1) ty 133 [En l, En q] = some (.sc (.bool (Hg Sk l q))) := by
 rw [Lj, Lj]
 rw [Bd, AhA, f133]
 simp only [B5, A4, Av]
 rw [Gi, Gi, Ru, Dv, Hg]
 by_cases h : l.length = q.length
 rw [if_neg (by simpa using h), if_pos h]
 rw [Gi]
 have key := Lq (β := AV) Uy (fun _ => rfl) (by decide) (fun z => ss z) (fun p k => C3 false 1 p [] k) (fun x r k => ldS x r [] k) (fun x y k => Cs .neq x y k) Sk (fun x y k => neS x y k) l q h hl (fun m i => Ra (PR n AV) n (fun x H => Bf Au E0.tp ty H x) m (C5 Uy l) (C5 Uy q) (si l.length) i []) (some bF) (some bT) (fun m i => rfl) l q [] [] n rfl rfl rfl (by omega)
 simp only [zav, zaV] at key
 refine key.trans ?_
 cases Jt Sk l q <;> rfl
 rw [if_pos (by simpa using h), if_neg h]
 rfl
theorem AcN (n : Nat) (hn : 1048576 < n) (ty : Nat) (l q : List Int) (hl : l.length ≤ 1048576) : Dd E0 (n + 1) ty 134 [El l, El q] = some (.sc (.bool (Hg eqI l q))) := by
 rw [Lg, Lg]
 rw [Bd, AhB, f134]
 simp only [B5, A4, Av]
 rw [Gi, Gi, Ru, Dv, Hg]
 by_cases h : l.length = q.length
 rw [if_neg (by simpa using h), if_pos h]
 rw [Gi]
 have key := Lq (β := AV) Ux (fun _ => rfl) (by decide) (fun z => si z) (fun p k => C3 false 1 p [] k) (fun x r k => ldI x r [] k) (fun x y k => Cs .neq x y k) eqI (fun x y k => neI x y k) l q h hl (fun m i => Rb (PR n AV) n (fun x H => Bf Au E0.tp ty H x) m (C5 Ux l) (C5 Ux q) (si l.length) i []) (some bF) (some bT) (fun m i => rfl) l q [] [] n rfl rfl rfl (by omega)
 simp only [zav, zaV] at key
 refine key.trans ?_
 cases Jt eqI l q <;> rfl
 rw [if_pos (by simpa using h), if_neg h]
 rfl
def Ha (a b : PacketV) : Bool := (a.fType == b.fType) && (a.fDup == b.fDup) && (a.fQos == b.fQos) && (a.fRetain == b.fRetain) && (a.fId == b.fId) && (a.fTopic.toList == b.fTopic.toList) && (a.fBody.toList == b.fBody.toList) && (a.fClient.toList == b.fClient.toList) && (a.fLevel == b.fLevel) && (a.fClean == b.fClean) && (a.fKeep == b.fKeep) && (a.fHasWill == b.fHasWill) && (a.fWTopic.toList == b.fWTopic.toList) && (a.fWBody.toList == b.fWBody.toList) && (a.fWQos == b.fWQos) && (a.fWRetain == b.fWRetain) && (a.fHasUser == b.fHasUser) && (a.fUser.toList == b.fUser.toList) && (a.fHasPass == b.fHasPass) && (a.fPass.toList == b.fPass.toList) && (a.fCode == b.fCode) && (a.fPresent == b.fPresent)
def L4 (a b : PacketV) : Bool := Hg J5 a.fWants b.fWants && Hg Sk a.fNames b.fNames && Hg eqI a.fCodes b.fCodes
def Cp (a b : PacketV) : Bool := L4 a b && Ha a b
theorem AiN (n : Nat) (hn : 1048576 < n) (ty : Nat) (a b : PacketV) (H : Ad) (i1 i2 : Nat) (B1 : H[i1]? = some ⟨Ar a, true, true⟩) (B2 : H[i2]? = some ⟨Ar b, true, true⟩) (hl2 : a.fCodes.length ≤ 1048576) (hq2 : a.fCodes.length = b.fCodes.length) : Oy (PR (n + 1) AV) (n + 1) (fun x H => Bf Au E0.tp ty H x) (n + 1) (.ptr i1 0) (.ptr i2 0) (.sc (.int .i64 0)) H = some (.sc (.bool (if Jt eqI a.fCodes b.fCodes then (Ha a b) else false))) := by
 have hL : ∀ m i, Oy (PR (n + 1) AV) (n + 1) (fun x H => Bf Au E0.tp ty H x) (m + 1) (.ptr i1 0) (.ptr i2 0) i H = Cs .lss i (si a.fCodes.length) fun t14 => Em t14 (D7 1 (C5 Ux a.fCodes) i fun t19 => C3 false 1 t19 H fun t20 => D7 1 (C5 Ux b.fCodes) i fun t23 => C3 false 1 t23 H fun t24 => (fun x y k => Cs .neq x y k) t20 t24 fun t25 => Em t25 (some bF) (Cs .add i (si 1) fun t16 => Oy (PR (n + 1) AV) (n + 1) (fun x H => Bf Au E0.tp ty H x) m (.ptr i1 0) (.ptr i2 0) t16 H)) (some (sb (Ha a b))) := by
  intro m i
  show (PR (n + 1) AV).fadr 24 (.ptr i1 0) _ = _
  simp only [B6, Ba, A4, Iv, Ky, Av, Bh, Pr.gT, Pr.gF, Pr.hT, Pr.hF, Pr.kT, Pr.kF, Bv, B5, Bu]
  refine A8 (C1 (c := El a.fCodes) B1 (Cn rfl) rfl (Nf ?_))
  congr 1
  funext t
  congr 1
  refine A8 (C1 (c := El a.fCodes) B1 (Cn rfl) rfl ?_)
  rw [Lg]
  congr 1
  funext t2
  congr 1
  funext t3
  refine A8 (C1 (c := El b.fCodes) B2 (Cn rfl) rfl ?_)
  rw [Lg]
  rfl
  skip
  refine A8 (C1 (c := si a.fType) B1 (Cn rfl) rfl (A8 (C1 (c := si b.fType) B2 (Cn rfl) rfl (Do (v := sb (a.fType == b.fType)) (fun k => rfl) ?_))))
  apply B8 ((a.fType == b.fType) && (a.fDup == b.fDup))
  intro b1 q1
  refine Aa ((a.fType == b.fType)) (fun h1 => ?_) (fun h1 => ?_)
  exact A2 h1 (A8 (A2 h1 (C1 (c := sb a.fDup) B1 (Cn rfl) rfl (A2 h1 (A8 (A2 h1 (C1 (c := sb b.fDup) B2 (Cn rfl) rfl (A2 h1 (Iq (v := sb (a.fDup == b.fDup)) (fun k => rfl) (Dq h1 (Js q1 h1) rfl))))))))))
  exact A1 h1 (A1 h1 (A1 h1 (A1 h1 (A1 h1 (Dp h1 (Jr q1 h1) rfl)))))
  intro b1 q1
  apply B8 (b1 && (a.fQos == b.fQos))
  intro b2 q2
  refine Aa (b1) (fun h2 => ?_) (fun h2 => ?_)
  exact A2 h2 (A8 (A2 h2 (C1 (c := si a.fQos) B1 (Cn rfl) rfl (A2 h2 (A8 (A2 h2 (C1 (c := si b.fQos) B2 (Cn rfl) rfl (A2 h2 (Do (v := sb (a.fQos == b.fQos)) (fun k => rfl) (Dq h2 (Js q2 h2) rfl))))))))))
  exact A1 h2 (A1 h2 (A1 h2 (A1 h2 (A1 h2 (Dp h2 (Jr q2 h2) rfl)))))
  intro b2 q2
  apply B8 (b2 && (a.fRetain == b.fRetain))
  intro b3 q3
  refine Aa (b2) (fun h3 => ?_) (fun h3 => ?_)
  exact A2 h3 (A8 (A2 h3 (C1 (c := sb a.fRetain) B1 (Cn rfl) rfl (A2 h3 (A8 (A2 h3 (C1 (c := sb b.fRetain) B2 (Cn rfl) rfl (A2 h3 (Iq (v := sb (a.fRetain == b.fRetain)) (fun k => rfl) (Dq h3 (Js q3 h3) rfl))))))))))
  exact A1 h3 (A1 h3 (A1 h3 (A1 h3 (A1 h3 (Dp h3 (Jr q3 h3) rfl)))))
  intro b3 q3
  apply B8 (b3 && (a.fId == b.fId))
  intro b4 q4
  refine Aa (b3) (fun h4 => ?_) (fun h4 => ?_)
  exact A2 h4 (A8 (A2 h4 (C1 (c := si a.fId) B1 (Cn rfl) rfl (A2 h4 (A8 (A2 h4 (C1 (c := si b.fId) B2 (Cn rfl) rfl (A2 h4 (Do (v := sb (a.fId == b.fId)) (fun k => rfl) (Dq h4 (Js q4 h4) rfl))))))))))
  exact A1 h4 (A1 h4 (A1 h4 (A1 h4 (A1 h4 (Dp h4 (Jr q4 h4) rfl)))))
  intro b4 q4
  apply B8 (b4 && (a.fTopic.toList == b.fTopic.toList))
  intro b5 q5
  refine Aa (b4) (fun h5 => ?_) (fun h5 => ?_)
  exact A2 h5 (A8 (A2 h5 (C1 (c := ss a.fTopic) B1 (Cn rfl) rfl (A2 h5 (A8 (A2 h5 (C1 (c := ss b.fTopic) B2 (Cn rfl) rfl (A2 h5 (Do (v := sb (a.fTopic.toList == b.fTopic.toList)) (fun k => rfl) (Dq h5 (Js q5 h5) rfl))))))))))
  exact A1 h5 (A1 h5 (A1 h5 (A1 h5 (A1 h5 (Dp h5 (Jr q5 h5) rfl)))))
  intro b5 q5
  apply B8 (b5 && (a.fBody.toList == b.fBody.toList))
  intro b6 q6
  refine Aa (b5) (fun h6 => ?_) (fun h6 => ?_)
  exact A2 h6 (A8 (A2 h6 (C1 (c := Ag a.fBody) B1 (Cn rfl) rfl (A2 h6 (A8 (A2 h6 (C1 (c := Ag b.fBody) B2 (Cn rfl) rfl (A2 h6 (Kw rfl (Dy (Ih _ _ _) (Dy (Ih _ _ _) Ip)) (Ro (n + 0) _ a.fBody b.fBody) (Dq h6 (Js q6 h6) rfl))))))))))
  exact A1 h6 (A1 h6 (A1 h6 (A1 h6 (A1 h6 (Dp h6 (Jr q6 h6) rfl)))))
  intro b6 q6
  apply B8 (b6 && (a.fClient.toList == b.fClient.toList))
  intro b7 q7
  refine Aa (b6) (fun h7 => ?_) (fun h7 => ?_)
  exact A2 h7 (A8 (A2 h7 (C1 (c := ss a.fClient) B1 (Cn rfl) rfl (A2 h7 (A8 (A2 h7 (C1 (c := ss b.fClient) B2 (Cn rfl) rfl (A2 h7 (Do (v := sb (a.fClient.toList == b.fClient.toList)) (fun k => rfl) (Dq h7 (Js q7 h7) rfl))))))))))
  exact A1 h7 (A1 h7 (A1 h7 (A1 h7 (A1 h7 (Dp h7 (Jr q7 h7) rfl)))))
  intro b7 q7
  apply B8 (b7 && (a.fLevel == b.fLevel))
  intro b8 q8
  refine Aa (b7) (fun h8 => ?_) (fun h8 => ?_)
  exact A2 h8 (A8 (A2 h8 (C1 (c := si a.fLevel) B1 (Cn rfl) rfl (A2 h8 (A8 (A2 h8 (C1 (c := si b.fLevel) B2 (Cn rfl) rfl (A2 h8 (Do (v := sb (a.fLevel == b.fLevel)) (fun k => rfl) (Dq h8 (Js q8 h8) rfl))))))))))
  exact A1 h8 (A1 h8 (A1 h8 (A1 h8 (A1 h8 (Dp h8 (Jr q8 h8) rfl)))))
  intro b8 q8
  apply B8 (b8 && (a.fClean == b.fClean))
  intro b9 q9
  refine Aa (b8) (fun h9 => ?_) (fun h9 => ?_)
  exact A2 h9 (A8 (A2 h9 (C1 (c := sb a.fClean) B1 (Cn rfl) rfl (A2 h9 (A8 (A2 h9 (C1 (c := sb b.fClean) B2 (Cn rfl) rfl (A2 h9 (Iq (v := sb (a.fClean == b.fClean)) (fun k => rfl) (Dq h9 (Js q9 h9) rfl))))))))))
  exact A1 h9 (A1 h9 (A1 h9 (A1 h9 (A1 h9 (Dp h9 (Jr q9 h9) rfl)))))
  intro b9 q9
  apply B8 (b9 && (a.fKeep == b.fKeep))
  intro b10 q10
  refine Aa (b9) (fun h10 => ?_) (fun h10 => ?_)
  exact A2 h10 (A8 (A2 h10 (C1 (c := si a.fKeep) B1 (Cn rfl) rfl (A2 h10 (A8 (A2 h10 (C1 (c := si b.fKeep) B2 (Cn rfl) rfl (A2 h10 (Do (v := sb (a.fKeep == b.fKeep)) (fun k => rfl) (Dq h10 (Js q10 h10) rfl))))))))))
  exact A1 h10 (A1 h10 (A1 h10 (A1 h10 (A1 h10 (Dp h10 (Jr q10 h10) rfl)))))
  intro b10 q10
  apply B8 (b10 && (a.fHasWill == b.fHasWill))
  intro b11 q11
  refine Aa (b10) (fun h11 => ?_) (fun h11 => ?_)
  exact A2 h11 (A8 (A2 h11 (C1 (c := sb a.fHasWill) B1 (Cn rfl) rfl (A2 h11 (A8 (A2 h11 (C1 (c := sb b.fHasWill) B2 (Cn rfl) rfl (A2 h11 (Iq (v := sb (a.fHasWill == b.fHasWill)) (fun k => rfl) (Dq h11 (Js q11 h11) rfl))))))))))
  exact A1 h11 (A1 h11 (A1 h11 (A1 h11 (A1 h11 (Dp h11 (Jr q11 h11) rfl)))))
  intro b11 q11
  apply B8 (b11 && (a.fWTopic.toList == b.fWTopic.toList))
  intro b12 q12
  refine Aa (b11) (fun h12 => ?_) (fun h12 => ?_)
  exact A2 h12 (A8 (A2 h12 (C1 (c := ss a.fWTopic) B1 (Cn rfl) rfl (A2 h12 (A8 (A2 h12 (C1 (c := ss b.fWTopic) B2 (Cn rfl) rfl (A2 h12 (Do (v := sb (a.fWTopic.toList == b.fWTopic.toList)) (fun k => rfl) (Dq h12 (Js q12 h12) rfl))))))))))
  exact A1 h12 (A1 h12 (A1 h12 (A1 h12 (A1 h12 (Dp h12 (Jr q12 h12) rfl)))))
  intro b12 q12
  apply B8 (b12 && (a.fWBody.toList == b.fWBody.toList))
  intro b13 q13
  refine Aa (b12) (fun h13 => ?_) (fun h13 => ?_)
  exact A2 h13 (A8 (A2 h13 (C1 (c := Ag a.fWBody) B1 (Cn rfl) rfl (A2 h13 (A8 (A2 h13 (C1 (c := Ag b.fWBody) B2 (Cn rfl) rfl (A2 h13 (Kw rfl (Dy (Ih _ _ _) (Dy (Ih _ _ _) Ip)) (Ro (n + 0) _ a.fWBody b.fWBody) (Dq h13 (Js q13 h13) rfl))))))))))
  exact A1 h13 (A1 h13 (A1 h13 (A1 h13 (A1 h13 (Dp h13 (Jr q13 h13) rfl)))))
  intro b13 q13
  apply B8 (b13 && (a.fWQos == b.fWQos))
  intro b14 q14
  refine Aa (b13) (fun h14 => ?_) (fun h14 => ?_)
  exact A2 h14 (A8 (A2 h14 (C1 (c := si a.fWQos) B1 (Cn rfl) rfl (A2 h14 (A8 (A2 h14 (C1 (c := si b.fWQos) B2 (Cn rfl) rfl (A2 h14 (Do (v := sb (a.fWQos == b.fWQos)) (fun k => rfl) (Dq h14 (Js q14 h14) rfl))))))))))
  exact A1 h14 (A1 h14 (A1 h14 (A1 h14 (A1 h14 (Dp h14 (Jr q14 h14) rfl)))))
  intro b14 q14
  apply B8 (b14 && (a.fWRetain == b.fWRetain))
  intro b15 q15
  refine Aa (b14) (fun h15 => ?_) (fun h15 => ?_)
  exact A2 h15 (A8 (A2 h15 (C1 (c := sb a.fWRetain) B1 (Cn rfl) rfl (A2 h15 (A8 (A2 h15 (C1 (c := sb b.fWRetain) B2 (Cn rfl) rfl (A2 h15 (Iq (v := sb (a.fWRetain == b.fWRetain)) (fun k => rfl) (Dq h15 (Js q15 h15) rfl))))))))))
  exact A1 h15 (A1 h15 (A1 h15 (A1 h15 (A1 h15 (Dp h15 (Jr q15 h15) rfl)))))
  intro b15 q15
  apply B8 (b15 && (a.fHasUser == b.fHasUser))
  intro b16 q16
  refine Aa (b15) (fun h16 => ?_) (fun h16 => ?_)
  exact A2 h16 (A8 (A2 h16 (C1 (c := sb a.fHasUser) B1 (Cn rfl) rfl (A2 h16 (A8 (A2 h16 (C1 (c := sb b.fHasUser) B2 (Cn rfl) rfl (A2 h16 (Iq (v := sb (a.fHasUser == b.fHasUser)) (fun k => rfl) (Dq h16 (Js q16 h16) rfl))))))))))
  exact A1 h16 (A1 h16 (A1 h16 (A1 h16 (A1 h16 (Dp h16 (Jr q16 h16) rfl)))))
  intro b16 q16
  apply B8 (b16 && (a.fUser.toList == b.fUser.toList))
  intro b17 q17
  refine Aa (b16) (fun h17 => ?_) (fun h17 => ?_)
  exact A2 h17 (A8 (A2 h17 (C1 (c := ss a.fUser) B1 (Cn rfl) rfl (A2 h17 (A8 (A2 h17 (C1 (c := ss b.fUser) B2 (Cn rfl) rfl (A2 h17 (Do (v := sb (a.fUser.toList == b.fUser.toList)) (fun k => rfl) (Dq h17 (Js q17 h17) rfl))))))))))
  exact A1 h17 (A1 h17 (A1 h17 (A1 h17 (A1 h17 (Dp h17 (Jr q17 h17) rfl)))))
  intro b17 q17
  apply B8 (b17 && (a.fHasPass == b.fHasPass))
  intro b18 q18
  refine Aa (b17) (fun h18 => ?_) (fun h18 => ?_)
  exact A2 h18 (A8 (A2 h18 (C1 (c := sb a.fHasPass) B1 (Cn rfl) rfl (A2 h18 (A8 (A2 h18 (C1 (c := sb b.fHasPass) B2 (Cn rfl) rfl (A2 h18 (Iq (v := sb (a.fHasPass == b.fHasPass)) (fun k => rfl) (Dq h18 (Js q18 h18) rfl))))))))))
  exact A1 h18 (A1 h18 (A1 h18 (A1 h18 (A1 h18 (Dp h18 (Jr q18 h18) rfl)))))
  intro b18 q18
  apply B8 (b18 && (a.fPass.toList == b.fPass.toList))
  intro b19 q19
  refine Aa (b18) (fun h19 => ?_) (fun h19 => ?_)
  exact A2 h19 (A8 (A2 h19 (C1 (c := Ag a.fPass) B1 (Cn rfl) rfl (A2 h19 (A8 (A2 h19 (C1 (c := Ag b.fPass) B2 (Cn rfl) rfl (A2 h19 (Kw rfl (Dy (Ih _ _ _) (Dy (Ih _ _ _) Ip)) (Ro (n + 0) _ a.fPass b.fPass) (Dq h19 (Js q19 h19) rfl))))))))))
  exact A1 h19 (A1 h19 (A1 h19 (A1 h19 (A1 h19 (Dp h19 (Jr q19 h19) rfl)))))
  intro b19 q19
  apply B8 (b19 && (a.fCode == b.fCode))
  intro b20 q20
  refine Aa (b19) (fun h20 => ?_) (fun h20 => ?_)
  exact A2 h20 (A8 (A2 h20 (C1 (c := si a.fCode) B1 (Cn rfl) rfl (A2 h20 (A8 (A2 h20 (C1 (c := si b.fCode) B2 (Cn rfl) rfl (A2 h20 (Do (v := sb (a.fCode == b.fCode)) (fun k => rfl) (Dq h20 (Js q20 h20) rfl))))))))))
  exact A1 h20 (A1 h20 (A1 h20 (A1 h20 (A1 h20 (Dp h20 (Jr q20 h20) rfl)))))
  intro b20 q20
  apply B8 (b20 && (a.fPresent == b.fPresent))
  intro b21 q21
  refine Aa (b20) (fun h21 => ?_) (fun h21 => ?_)
  exact A2 h21 (A8 (A2 h21 (C1 (c := sb a.fPresent) B1 (Cn rfl) rfl (A2 h21 (A8 (A2 h21 (C1 (c := sb b.fPresent) B2 (Cn rfl) rfl (A2 h21 (Iq (v := sb (a.fPresent == b.fPresent)) (fun k => rfl) (Dq h21 (Js q21 h21) rfl))))))))))
  exact A1 h21 (A1 h21 (A1 h21 (A1 h21 (A1 h21 (Dp h21 (Jr q21 h21) rfl)))))
  intro b21 q21
  subst_vars; rfl
 have key := Lq (β := AV) Ux (fun _ => rfl) (by decide) (fun z => si z) (fun p k => C3 false 1 p H k) (fun x r k => ldI x r H k) (fun x y k => Cs .neq x y k) eqI (fun x y k => neI x y k) a.fCodes b.fCodes hq2 hl2 (fun m i => Oy (PR (n + 1) AV) (n + 1) (fun x H => Bf Au E0.tp ty H x) m (.ptr i1 0) (.ptr i2 0) i H) (some bF) (some (sb (Ha a b))) hL a.fCodes b.fCodes [] [] (n + 1) rfl rfl rfl (by omega)
 simp only [zav, zaV] at key
 refine key.trans ?_
 cases Jt eqI a.fCodes b.fCodes <;> rfl
theorem AiM (n : Nat) (hn : 1048576 < n) (ty : Nat) (a b : PacketV) (H : Ad) (i1 i2 : Nat) (B1 : H[i1]? = some ⟨Ar a, true, true⟩) (B2 : H[i2]? = some ⟨Ar b, true, true⟩) (hl1 : a.fNames.length ≤ 1048576) (hq1 : a.fNames.length = b.fNames.length) (hl2 : a.fCodes.length ≤ 1048576) (hq2 : a.fCodes.length = b.fCodes.length) : Mn (PR (n + 1) AV) (n + 1) (fun x H => Bf Au E0.tp ty H x) (n + 1) (.ptr i1 0) (.ptr i2 0) (.sc (.int .i64 0)) H = some (.sc (.bool (if Jt Sk a.fNames b.fNames then (if Jt eqI a.fCodes b.fCodes then (Ha a b) else false) else false))) := by
 have hL : ∀ m i, Mn (PR (n + 1) AV) (n + 1) (fun x H => Bf Au E0.tp ty H x) (m + 1) (.ptr i1 0) (.ptr i2 0) i H = Cs .lss i (si a.fNames.length) fun t14 => Em t14 (D7 1 (C5 Uy a.fNames) i fun t19 => C3 false 1 t19 H fun t20 => D7 1 (C5 Uy b.fNames) i fun t23 => C3 false 1 t23 H fun t24 => (fun x y k => Cs .neq x y k) t20 t24 fun t25 => Em t25 (some bF) (Cs .add i (si 1) fun t16 => Mn (PR (n + 1) AV) (n + 1) (fun x H => Bf Au E0.tp ty H x) m (.ptr i1 0) (.ptr i2 0) t16 H)) (some (sb (if Jt eqI a.fCodes b.fCodes then (Ha a b) else false))) := by
  intro m i
  show (PR (n + 1) AV).fadr 23 (.ptr i1 0) _ = _
  simp only [B6, Ba, A4, Iv, Ky, Av, Bh, Pr.gT, Pr.gF, Pr.hT, Pr.hF, Pr.kT, Pr.kF, Bv, B5, Bu]
  refine A8 (C1 (c := En a.fNames) B1 (Cn rfl) rfl (Nf ?_))
  congr 1
  funext t
  congr 1
  refine A8 (C1 (c := En a.fNames) B1 (Cn rfl) rfl ?_)
  rw [Lj]
  congr 1
  funext t2
  congr 1
  funext t3
  refine A8 (C1 (c := En b.fNames) B2 (Cn rfl) rfl ?_)
  rw [Lj]
  rfl
  skip
  exact AiN n hn ty a b H i1 i2 B1 B2 hl2 hq2
 have key := Lq (β := AV) Uy (fun _ => rfl) (by decide) (fun z => ss z) (fun p k => C3 false 1 p H k) (fun x r k => ldS x r H k) (fun x y k => Cs .neq x y k) Sk (fun x y k => neS x y k) a.fNames b.fNames hq1 hl1 (fun m i => Mn (PR (n + 1) AV) (n + 1) (fun x H => Bf Au E0.tp ty H x) m (.ptr i1 0) (.ptr i2 0) i H) (some bF) (some (sb (if Jt eqI a.fCodes b.fCodes then (Ha a b) else false))) hL a.fNames b.fNames [] [] (n + 1) rfl rfl rfl (by omega)
 simp only [zav, zaV] at key
 refine key.trans ?_
 cases Jt Sk a.fNames b.fNames <;> rfl
theorem AiL (n : Nat) (hn : 1048576 < n) (ty : Nat) (a b : PacketV) (H : Ad) (i1 i2 : Nat) (B1 : H[i1]? = some ⟨Ar a, true, true⟩) (B2 : H[i2]? = some ⟨Ar b, true, true⟩) (hl0 : a.fWants.length ≤ 1048576) (hq0 : a.fWants.length = b.fWants.length) (hl1 : a.fNames.length ≤ 1048576) (hq1 : a.fNames.length = b.fNames.length) (hl2 : a.fCodes.length ≤ 1048576) (hq2 : a.fCodes.length = b.fCodes.length) : Mm (PR (n + 1) AV) (n + 1) (fun x H => Bf Au E0.tp ty H x) (n + 1) (.ptr i1 0) (.ptr i2 0) (.sc (.int .i64 0)) H = some (.sc (.bool (if Jt J5 a.fWants b.fWants then (if Jt Sk a.fNames b.fNames then (if Jt eqI a.fCodes b.fCodes then (Ha a b) else false) else false) else false))) := by
 have hL : ∀ m i, Mm (PR (n + 1) AV) (n + 1) (fun x H => Bf Au E0.tp ty H x) (m + 1) (.ptr i1 0) (.ptr i2 0) i H = Cs .lss i (si a.fWants.length) fun t14 => Em t14 (D7 2 (C5 Bw a.fWants) i fun t19 => C3 true 2 t19 H fun t20 => D7 2 (C5 Bw b.fWants) i fun t23 => C3 true 2 t23 H fun t24 => (fun x y k => R2 .neq [1, 0] x y k) t20 t24 fun t25 => Em t25 (some bF) (Cs .add i (si 1) fun t16 => Mm (PR (n + 1) AV) (n + 1) (fun x H => Bf Au E0.tp ty H x) m (.ptr i1 0) (.ptr i2 0) t16 H)) (some (sb (if Jt Sk a.fNames b.fNames then (if Jt eqI a.fCodes b.fCodes then (Ha a b) else false) else false))) := by
  intro m i
  show (PR (n + 1) AV).fadr 22 (.ptr i1 0) _ = _
  simp only [B6, Ba, A4, Iv, Ky, Av, Bh, Pr.gT, Pr.gF, Pr.hT, Pr.hF, Pr.kT, Pr.kF, Bv, B5, Bu]
  refine A8 (C1 (c := C5 Bw a.fWants) B1 (Cn rfl) rfl (Nf ?_))
  congr 1
  funext t
  congr 1
  refine A8 (C1 (c := C5 Bw a.fWants) B1 (Cn rfl) rfl ?_)
  congr 1
  funext t2
  congr 1
  funext t3
  refine A8 (C1 (c := C5 Bw b.fWants) B2 (Cn rfl) rfl ?_)
  rfl
  skip
  exact AiM n hn ty a b H i1 i2 B1 B2 hl1 hq1 hl2 hq2
 have key := Lq (β := AV) Bw (Gu) (by decide) (fun x => .agg (Bw x)) (fun p k => C3 true 2 p H k) (fun x r k => Aaq 2 _ _ H k (Gu x)) (fun x y k => R2 .neq [1, 0] x y k) J5 (fun x y k => AbT _ _ _ _ (Xa x y) k) a.fWants b.fWants hq0 hl0 (fun m i => Mm (PR (n + 1) AV) (n + 1) (fun x H => Bf Au E0.tp ty H x) m (.ptr i1 0) (.ptr i2 0) i H) (some bF) (some (sb (if Jt Sk a.fNames b.fNames then (if Jt eqI a.fCodes b.fCodes then (Ha a b) else false) else false))) hL a.fWants b.fWants [] [] (n + 1) rfl rfl rfl (by omega)
 simp only [zav, zaV] at key
 refine key.trans ?_
 cases Jt J5 a.fWants b.fWants <;> rfl
theorem Oj (n : Nat) (hn : 1048576 < n) (ty : Nat) (a : PacketV) (b : PacketV) (hl0 : a.fWants.length ≤ 1048576) (hl1 : a.fNames.length ≤ 1048576) (hl2 : a.fCodes.length ≤ 1048576) : Dd E0 (n + 2) ty 89 [.agg (Ar a), .agg (Ar b)] = some (.sc (.bool (Cp a b))) := by
 rw [Bd, AkA, f89]
 try simp only [Gw, F8, B6, Ba, D9, A4, Iv, Ky, D5, Av, Bh, Pr.gT, Pr.gF, Pr.hT, Pr.hF, Pr.kT, Pr.kF, Bv, B5, Hf, Bu, Nl, Ho, I4, Cq, Ct, Po, Du, Dh, Gm]
 refine Ac9 (Cy _) fun iB1 eB1 B1 => Ac9 (Cy _) fun iB2 eB2 B2 => ?_
 replace B1 := G5 B1 [⟨Ar b, true, true⟩]
 refine A8 (C1 (c := C5 Bw a.fWants) B1 (Cn rfl) rfl (Nf (A8 (C1 (c := C5 Bw b.fWants) B2 (Cn rfl) rfl (Nf (Do (v := sb ((a.fWants.length : Int) != (b.fWants.length : Int))) (fun k => rfl) ?_))))))
 apply B8 (((a.fWants.length : Int) != (b.fWants.length : Int)) || ((a.fNames.length : Int) != (b.fNames.length : Int)))
 intro b3 q3
 refine Aa (((a.fWants.length : Int) != (b.fWants.length : Int))) (fun h3 => ?_) (fun h3 => ?_)
 exact Jv h3 (Jv h3 (Jv h3 (Jv h3 (Jv h3 (Jv h3 (Jv h3 (Dq h3 (mOT q3 h3) rfl)))))))
 exact Iu h3 (A8 (Iu h3 (C1 (c := En a.fNames) B1 (Cn rfl) rfl (Iu h3 (Nf (Iu h3 (A8 (Iu h3 (C1 (c := En b.fNames) B2 (Cn rfl) rfl (Iu h3 (Nf (Iu h3 (Do (v := sb ((a.fNames.length : Int) != (b.fNames.length : Int))) (fun k => rfl) (Dp h3 (mOF q3 h3) rfl))))))))))))))
 intro b3 q3
 apply B8 (b3 || ((a.fCodes.length : Int) != (b.fCodes.length : Int)))
 intro b4 q4
 refine Aa (b3) (fun h4 => ?_) (fun h4 => ?_)
 exact Jv h4 (Jv h4 (Jv h4 (Jv h4 (Jv h4 (Jv h4 (Jv h4 (Dq h4 (mOT q4 h4) rfl)))))))
 exact Iu h4 (A8 (Iu h4 (C1 (c := El a.fCodes) B1 (Cn rfl) rfl (Iu h4 (Nf (Iu h4 (A8 (Iu h4 (C1 (c := El b.fCodes) B2 (Cn rfl) rfl (Iu h4 (Nf (Iu h4 (Do (v := sb ((a.fCodes.length : Int) != (b.fCodes.length : Int))) (fun k => rfl) (Dp h4 (mOF q4 h4) rfl))))))))))))))
 intro b4 q4
 refine Aa (b4) (fun h5 => ?_) (fun h5 => ?_)
 exact P9 h5 (Wx (by subst_vars; simp only [Cp, L4, Hg]; by_cases e0 : a.fWants.length = b.fWants.length <;> by_cases e1 : a.fNames.length = b.fNames.length <;> by_cases e2 : a.fCodes.length = b.fCodes.length <;> simp_all))
 refine Tc h5 ?_
 have l0 : a.fWants.length = b.fWants.length := by (subst_vars; simp at *; omega)
 have l1 : a.fNames.length = b.fNames.length := by (subst_vars; simp at *; omega)
 have l2 : a.fCodes.length = b.fCodes.length := by (subst_vars; simp at *; omega)
 refine (AiL n hn ty a b _ _ _ B1 B2 hl0 l0 hl1 l1 hl2 l2).trans ?_
 simp only [Cp, L4, Hg, l0, l1, l2, if_true]
 cases Jt J5 a.fWants b.fWants <;> cases Jt Sk a.fNames b.fNames <;> cases Jt eqI a.fCodes b.fCodes <;> simp
theorem Of (n : Nat) (hn : 1048576 < n) (ty : Nat) (a : PacketV) (b : PacketV) (hl0 : a.fWants.length ≤ 1048576) (hl1 : a.fNames.length ≤ 1048576) (hl2 : a.fCodes.length ≤ 1048576) : Dd E0 (n + 2) ty 104 [.agg (Ar a), .agg (Ar b)] = some (.sc (.bool (Cp a b))) := by
 rw [Bd, Ahq, f104]
 try simp only [Gw, F8, B6, Ba, D9, A4, Iv, Ky, D5, Av, Bh, Pr.gT, Pr.gF, Pr.hT, Pr.hF, Pr.kT, Pr.kF, Bv, B5, Hf, Bu, Nl, Ho, I4, Cq, Ct, Po, Du, Dh, Gm]
 refine Ac9 (Cy _) fun iB1 eB1 B1 => Ac9 (Cy _) fun iB2 eB2 B2 => ?_
 replace B1 := G5 B1 [⟨Ar b, true, true⟩]
 refine A8 (C1 (c := si a.fType) B1 (Cn rfl) rfl (A8 (C1 (c := si b.fType) B2 (Cn rfl) rfl (Do (v := sb (a.fType == b.fType)) (fun k => rfl) ?_))))
 apply B8 ((a.fType == b.fType) && (a.fDup == b.fDup))
 intro b3 q3
 refine Aa ((a.fType == b.fType)) (fun h3 => ?_) (fun h3 => ?_)
 exact A2 h3 (A8 (A2 h3 (C1 (c := sb a.fDup) B1 (Cn rfl) rfl (A2 h3 (A8 (A2 h3 (C1 (c := sb b.fDup) B2 (Cn rfl) rfl (A2 h3 (Iq (v := sb (a.fDup == b.fDup)) (fun k => rfl) (Dq h3 (Js q3 h3) rfl))))))))))
 exact A1 h3 (A1 h3 (A1 h3 (A1 h3 (A1 h3 (Dp h3 (Jr q3 h3) rfl)))))
 intro b3 q3
 apply B8 (b3 && (a.fQos == b.fQos))
 intro b4 q4
 refine Aa (b3) (fun h4 => ?_) (fun h4 => ?_)
 exact A2 h4 (A8 (A2 h4 (C1 (c := si a.fQos) B1 (Cn rfl) rfl (A2 h4 (A8 (A2 h4 (C1 (c := si b.fQos) B2 (Cn rfl) rfl (A2 h4 (Do (v := sb (a.fQos == b.fQos)) (fun k => rfl) (Dq h4 (Js q4 h4) rfl))))))))))
 exact A1 h4 (A1 h4 (A1 h4 (A1 h4 (A1 h4 (Dp h4 (Jr q4 h4) rfl)))))
 intro b4 q4
 apply B8 (b4 && (a.fRetain == b.fRetain))
 intro b5 q5
 refine Aa (b4) (fun h5 => ?_) (fun h5 => ?_)
 exact A2 h5 (A8 (A2 h5 (C1 (c := sb a.fRetain) B1 (Cn rfl) rfl (A2 h5 (A8 (A2 h5 (C1 (c := sb b.fRetain) B2 (Cn rfl) rfl (A2 h5 (Iq (v := sb (a.fRetain == b.fRetain)) (fun k => rfl) (Dq h5 (Js q5 h5) rfl))))))))))
 exact A1 h5 (A1 h5 (A1 h5 (A1 h5 (A1 h5 (Dp h5 (Jr q5 h5) rfl)))))
 intro b5 q5
 apply B8 (b5 && (a.fId == b.fId))
 intro b6 q6
 refine Aa (b5) (fun h6 => ?_) (fun h6 => ?_)
 exact A2 h6 (A8 (A2 h6 (C1 (c := si a.fId) B1 (Cn rfl) rfl (A2 h6 (A8 (A2 h6 (C1 (c := si b.fId) B2 (Cn rfl) rfl (A2 h6 (Do (v := sb (a.fId == b.fId)) (fun k => rfl) (Dq h6 (Js q6 h6) rfl))))))))))
 exact A1 h6 (A1 h6 (A1 h6 (A1 h6 (A1 h6 (Dp h6 (Jr q6 h6) rfl)))))
 intro b6 q6
 apply B8 (b6 && (a.fTopic.toList == b.fTopic.toList))
 intro b7 q7
 refine Aa (b6) (fun h7 => ?_) (fun h7 => ?_)
 exact A2 h7 (A8 (A2 h7 (C1 (c := ss a.fTopic) B1 (Cn rfl) rfl (A2 h7 (A8 (A2 h7 (C1 (c := ss b.fTopic) B2 (Cn rfl) rfl (A2 h7 (Do (v := sb (a.fTopic.toList == b.fTopic.toList)) (fun k => rfl) (Dq h7 (Js q7 h7) rfl))))))))))
 exact A1 h7 (A1 h7 (A1 h7 (A1 h7 (A1 h7 (Dp h7 (Jr q7 h7) rfl)))))
 intro b7 q7
 apply B8 (b7 && (a.fBody.toList == b.fBody.toList))
 intro b8 q8
 refine Aa (b7) (fun h8 => ?_) (fun h8 => ?_)
 exact A2 h8 (A8 (A2 h8 (C1 (c := Ag a.fBody) B1 (Cn rfl) rfl (A2 h8 (A8 (A2 h8 (C1 (c := Ag b.fBody) B2 (Cn rfl) rfl (A2 h8 (Kw rfl (Dy (Ih _ _ _) (Dy (Ih _ _ _) Ip)) (Kj (n + 0) _ a.fBody b.fBody) (Dq h8 (Js q8 h8) rfl))))))))))
 exact A1 h8 (A1 h8 (A1 h8 (A1 h8 (A1 h8 (Dp h8 (Jr q8 h8) rfl)))))
 intro b8 q8
 refine A8 (C1 (c := ss a.fClient) B1 (Cn rfl) rfl (A8 (C1 (c := ss b.fClient) B2 (Cn rfl) rfl (Do (v := sb (a.fClient.toList == b.fClient.toList)) (fun k => rfl) ?_))))
 apply B8 ((a.fClient.toList == b.fClient.toList) && (a.fLevel == b.fLevel))
 intro b9 q9
 refine Aa ((a.fClient.toList == b.fClient.toList)) (fun h9 => ?_) (fun h9 => ?_)
 exact A2 h9 (A8 (A2 h9 (C1 (c := si a.fLevel) B1 (Cn rfl) rfl (A2 h9 (A8 (A2 h9 (C1 (c := si b.fLevel) B2 (Cn rfl) rfl (A2 h9 (Do (v := sb (a.fLevel == b.fLevel)) (fun k => rfl) (Dq h9 (Js q9 h9) rfl))))))))))
 exact A1 h9 (A1 h9 (A1 h9 (A1 h9 (A1 h9 (Dp h9 (Jr q9 h9) rfl)))))
 intro b9 q9
 apply B8 (b9 && (a.fClean == b.fClean))
 intro b10 q10
 refine Aa (b9) (fun h10 => ?_) (fun h10 => ?_)
 exact A2 h10 (A8 (A2 h10 (C1 (c := sb a.fClean) B1 (Cn rfl) rfl (A2 h10 (A8 (A2 h10 (C1 (c := sb b.fClean) B2 (Cn rfl) rfl (A2 h10 (Iq (v := sb (a.fClean == b.fClean)) (fun k => rfl) (Dq h10 (Js q10 h10) rfl))))))))))
 exact A1 h10 (A1 h10 (A1 h10 (A1 h10 (A1 h10 (Dp h10 (Jr q10 h10) rfl)))))
 intro b10 q10
 apply B8 (b10 && (a.fKeep == b.fKeep))
 intro b11 q11
 refine Aa (b10) (fun h11 => ?_) (fun h11 => ?_)
 exact A2 h11 (A8 (A2 h11 (C1 (c := si a.fKeep) B1 (Cn rfl) rfl (A2 h11 (A8 (A2 h11 (C1 (c := si b.fKeep) B2 (Cn rfl) rfl (A2 h11 (Do (v := sb (a.fKeep == b.fKeep)) (fun k => rfl) (Dq h11 (Js q11 h11) rfl))))))))))
 exact A1 h11 (A1 h11 (A1 h11 (A1 h11 (A1 h11 (Dp h11 (Jr q11 h11) rfl)))))
 intro b11 q11
 apply B8 (b11 && (a.fHasUser == b.fHasUser))
 intro b12 q12
 refine Aa (b11) (fun h12 => ?_) (fun h12 => ?_)
 exact A2 h12 (A8 (A2 h12 (C1 (c := sb a.fHasUser) B1 (Cn rfl) rfl (A2 h12 (A8 (A2 h12 (C1 (c := sb b.fHasUser) B2 (Cn rfl) rfl (A2 h12 (Iq (v := sb (a.fHasUser == b.fHasUser)) (fun k => rfl) (Dq h12 (Js q12 h12) rfl))))))))))
 exact A1 h12 (A1 h12 (A1 h12 (A1 h12 (A1 h12 (Dp h12 (Jr q12 h12) rfl)))))
 intro b12 q12
 apply B8 (b12 && (a.fUser.toList == b.fUser.toList))
 intro b13 q13
 refine Aa (b12) (fun h13 => ?_) (fun h13 => ?_)
 exact A2 h13 (A8 (A2 h13 (C1 (c := ss a.fUser) B1 (Cn rfl) rfl (A2 h13 (A8 (A2 h13 (C1 (c := ss b.fUser) B2 (Cn rfl) rfl (A2 h13 (Do (v := sb (a.fUser.toList == b.fUser.toList)) (fun k => rfl) (Dq h13 (Js q13 h13) rfl))))))))))
 exact A1 h13 (A1 h13 (A1 h13 (A1 h13 (A1 h13 (Dp h13 (Jr q13 h13) rfl)))))
 intro b13 q13
 apply B8 (b13 && (a.fHasPass == b.fHasPass))
 intro b14 q14
 refine Aa (b13) (fun h14 => ?_) (fun h14 => ?_)
 exact A2 h14 (A8 (A2 h14 (C1 (c := sb a.fHasPass) B1 (Cn rfl) rfl (A2 h14 (A8 (A2 h14 (C1 (c := sb b.fHasPass) B2 (Cn rfl) rfl (A2 h14 (Iq (v := sb (a.fHasPass == b.fHasPass)) (fun k => rfl) (Dq h14 (Js q14 h14) rfl))))))))))
 exact A1 h14 (A1 h14 (A1 h14 (A1 h14 (A1 h14 (Dp h14 (Jr q14 h14) rfl)))))
 intro b14 q14
 apply B8 (b14 && (a.fPass.toList == b.fPass.toList))
 intro b15 q15
 refine Aa (b14) (fun h15 => ?_) (fun h15 => ?_)
 exact A2 h15 (A8 (A2 h15 (C1 (c := Ag a.fPass) B1 (Cn rfl) rfl (A2 h15 (A8 (A2 h15 (C1 (c := Ag b.fPass) B2 (Cn rfl) rfl (A2 h15 (Kw rfl (Dy (Ih _ _ _) (Dy (Ih _ _ _) Ip)) (Kj (n + 0) _ a.fPass b.fPass) (Dq h15 (Js q15 h15) rfl))))))))))
 exact A1 h15 (A1 h15 (A1 h15 (A1 h15 (A1 h15 (Dp h15 (Jr q15 h15) rfl)))))
 intro b15 q15
 refine A8 (C1 (c := sb a.fHasWill) B1 (Cn rfl) rfl (A8 (C1 (c := sb b.fHasWill) B2 (Cn rfl) rfl (Iq (v := sb (a.fHasWill == b.fHasWill)) (fun k => rfl) ?_))))
 apply B8 ((a.fHasWill == b.fHasWill) && (a.fWTopic.toList == b.fWTopic.toList))
 intro b16 q16
 refine Aa ((a.fHasWill == b.fHasWill)) (fun h16 => ?_) (fun h16 => ?_)
 exact A2 h16 (A8 (A2 h16 (C1 (c := ss a.fWTopic) B1 (Cn rfl) rfl (A2 h16 (A8 (A2 h16 (C1 (c := ss b.fWTopic) B2 (Cn rfl) rfl (A2 h16 (Do (v := sb (a.fWTopic.toList == b.fWTopic.toList)) (fun k => rfl) (Dq h16 (Js q16 h16) rfl))))))))))
 exact A1 h16 (A1 h16 (A1 h16 (A1 h16 (A1 h16 (Dp h16 (Jr q16 h16) rfl)))))
 intro b16 q16
 apply B8 (b16 && (a.fWBody.toList == b.fWBody.toList))
 intro b17 q17
 refine Aa (b16) (fun h17 => ?_) (fun h17 => ?_)
 exact A2 h17 (A8 (A2 h17 (C1 (c := Ag a.fWBody) B1 (Cn rfl) rfl (A2 h17 (A8 (A2 h17 (C1 (c := Ag b.fWBody) B2 (Cn rfl) rfl (A2 h17 (Kw rfl (Dy (Ih _ _ _) (Dy (Ih _ _ _) Ip)) (Kj (n + 0) _ a.fWBody b.fWBody) (Dq h17 (Js q17 h17) rfl))))))))))
 exact A1 h17 (A1 h17 (A1 h17 (A1 h17 (A1 h17 (Dp h17 (Jr q17 h17) rfl)))))
 intro b17 q17
 apply B8 (b17 && (a.fWQos == b.fWQos))
 intro b18 q18
 refine Aa (b17) (fun h18 => ?_) (fun h18 => ?_)
 exact A2 h18 (A8 (A2 h18 (C1 (c := si a.fWQos) B1 (Cn rfl) rfl (A2 h18 (A8 (A2 h18 (C1 (c := si b.fWQos) B2 (Cn rfl) rfl (A2 h18 (Do (v := sb (a.fWQos == b.fWQos)) (fun k => rfl) (Dq h18 (Js q18 h18) rfl))))))))))
 exact A1 h18 (A1 h18 (A1 h18 (A1 h18 (A1 h18 (Dp h18 (Jr q18 h18) rfl)))))
 intro b18 q18
 apply B8 (b18 && (a.fWRetain == b.fWRetain))
 intro b19 q19
 refine Aa (b18) (fun h19 => ?_) (fun h19 => ?_)
 exact A2 h19 (A8 (A2 h19 (C1 (c := sb a.fWRetain) B1 (Cn rfl) rfl (A2 h19 (A8 (A2 h19 (C1 (c := sb b.fWRetain) B2 (Cn rfl) rfl (A2 h19 (Iq (v := sb (a.fWRetain == b.fWRetain)) (fun k => rfl) (Dq h19 (Js q19 h19) rfl))))))))))
 exact A1 h19 (A1 h19 (A1 h19 (A1 h19 (A1 h19 (Dp h19 (Jr q19 h19) rfl)))))
 intro b19 q19
 refine A8 (C1 (c := C5 Bw a.fWants) B1 (Cn rfl) rfl (A8 (C1 (c := C5 Bw b.fWants) B2 (Cn rfl) rfl (Kw rfl (Dy (Ih _ _ _) (Dy (Ih _ _ _) Ip)) (Abc (n + 0) (by omega) _ a.fWants b.fWants (by omega)) ?_))))
 apply B8 ((Hg J5 a.fWants b.fWants) && (Hg Sk a.fNames b.fNames))
 intro b20 q20
 refine Aa ((Hg J5 a.fWants b.fWants)) (fun h20 => ?_) (fun h20 => ?_)
 exact A2 h20 (A8 (A2 h20 (C1 (c := En a.fNames) B1 (Cn rfl) rfl (A2 h20 (A8 (A2 h20 (C1 (c := En b.fNames) B2 (Cn rfl) rfl (A2 h20 (Kw rfl (Dy (Ih _ _ _) (Dy (Ih _ _ _) Ip)) (AcO (n + 0) (by omega) _ a.fNames b.fNames (by omega)) (Dq h20 (Js q20 h20) rfl))))))))))
 exact A1 h20 (A1 h20 (A1 h20 (A1 h20 (A1 h20 (Dp h20 (Jr q20 h20) rfl)))))
 intro b20 q20
 apply B8 (b20 && (Hg eqI a.fCodes b.fCodes))
 intro b21 q21
 refine Aa (b20) (fun h21 => ?_) (fun h21 => ?_)
 exact A2 h21 (A8 (A2 h21 (C1 (c := El a.fCodes) B1 (Cn rfl) rfl (A2 h21 (A8 (A2 h21 (C1 (c := El b.fCodes) B2 (Cn rfl) rfl (A2 h21 (Kw rfl (Dy (Ih _ _ _) (Dy (Ih _ _ _) Ip)) (AcN (n + 0) (by omega) _ a.fCodes b.fCodes (by omega)) (Dq h21 (Js q21 h21) rfl))))))))))
 exact A1 h21 (A1 h21 (A1 h21 (A1 h21 (A1 h21 (Dp h21 (Jr q21 h21) rfl)))))
 intro b21 q21
 apply B8 (b8 && b15)
 intro b22 q22
 refine Aa (b8) (fun h22 => ?_) (fun h22 => ?_)
 exact A2 h22 (Dq h22 (Js q22 h22) rfl)
 exact A1 h22 (Dp h22 (Jr q22 h22) rfl)
 intro b22 q22
 apply B8 (b22 && b19)
 intro b23 q23
 refine Aa (b22) (fun h23 => ?_) (fun h23 => ?_)
 exact A2 h23 (Dq h23 (Js q23 h23) rfl)
 exact A1 h23 (Dp h23 (Jr q23 h23) rfl)
 intro b23 q23
 apply B8 (b23 && b21)
 intro b24 q24
 refine Aa (b23) (fun h24 => ?_) (fun h24 => ?_)
 exact A2 h24 (Dq h24 (Js q24 h24) rfl)
 exact A1 h24 (Dp h24 (Jr q24 h24) rfl)
 intro b24 q24
 apply B8 (b24 && (a.fCode == b.fCode))
 intro b25 q25
 refine Aa (b24) (fun h25 => ?_) (fun h25 => ?_)
 exact A2 h25 (A8 (A2 h25 (C1 (c := si a.fCode) B1 (Cn rfl) rfl (A2 h25 (A8 (A2 h25 (C1 (c := si b.fCode) B2 (Cn rfl) rfl (A2 h25 (Do (v := sb (a.fCode == b.fCode)) (fun k => rfl) (Dq h25 (Js q25 h25) rfl))))))))))
 exact A1 h25 (A1 h25 (A1 h25 (A1 h25 (A1 h25 (Dp h25 (Jr q25 h25) rfl)))))
 intro b25 q25
 apply B8 (b25 && (a.fPresent == b.fPresent))
 intro b26 q26
 refine Aa (b25) (fun h26 => ?_) (fun h26 => ?_)
 exact A2 h26 (A8 (A2 h26 (C1 (c := sb a.fPresent) B1 (Cn rfl) rfl (A2 h26 (A8 (A2 h26 (C1 (c := sb b.fPresent) B2 (Cn rfl) rfl (A2 h26 (Iq (v := sb (a.fPresent == b.fPresent)) (fun k => rfl) (Dq h26 (Js q26 h26) rfl))))))))))
 exact A1 h26 (A1 h26 (A1 h26 (A1 h26 (A1 h26 (Dp h26 (Jr q26 h26) rfl)))))
 intro b26 q26
 exact Wx (by subst_vars; simp only [Cp, L4, Ha]; ac_rfl)
end
end Go.Proofs.YtlcpigdmekgajaaGreatDoor.Abs
