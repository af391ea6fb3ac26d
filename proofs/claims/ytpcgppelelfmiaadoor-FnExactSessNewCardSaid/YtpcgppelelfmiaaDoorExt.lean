/- The contracts: impl.TextOk walked; strings.ContainsAny at "+#"; strings.Split at "/". -/
import Derived.Test.YtpcgppelelfmiaaDoorChecked
import Derived.Test.YtpcgppelelfmiaaDoorFns
import Derived.Test.YtpcgppelelfmiaaDoorEnv
import Derived.WalkKit
import Derived.WalkMore
import Derived.Below
import Derived.Shelf.Unicode.ValidAny
import Derived.Shelf.Strings.Split
import Derived.Shelf.Vars
import Derived.Test.YtpcgppelelfmiaaDoorIdx
import Derived.Test.YtpcgppelelfmiaaDoorRel
import Derived.Test.YtpcgppelelfmiaaDoorOpsE
import Derived.Lib.TrimUEq
import Derived.Lib.ValidLaws
import Derived.Laws.RangeAny
import Derived.LoopTactic
set_option linter.unusedVariables false
set_option linter.unusedSimpArgs false
namespace Go.Proofs
open Go.RowKit Go.Shelf Go.Lib
def Tryd.laysValid_ren : Go.Shelf.Ren := ⟨fun | 196 => 106 | 259 => 110 | n => n, fun | 9 => 9 | 4 => 4 | 3 => 3 | 5 => 5 | 12 => 12 | 119 => 125 | 0 => 0 | 46 => 129 | 139 => 128 | 138 => 127 | 53 => 137 | n => n, fun | 3 => 0 | 4 => 1 | n => n⟩
theorem Tryd.laysValid : Go.Proofs.Lays.n196 Tryd.prog Tryd.laysValid_ren := {
  mixed := by kernel_rfl
  f196 := Tryd.func106.trans (congrArg some (by kernel_rfl))
  f259 := Tryd.func110.trans (congrArg some (by kernel_rfl))
  t0 := Tryd.underlying0
  a0 := Tryd.isAgg0
  z0 := Tryd.sizeOf0
  v0 := Tryd.zeroValue0
  t3 := Tryd.underlying3
  a3 := Tryd.isAgg3
  z3 := Tryd.sizeOf3
  v3 := Tryd.zeroValue3
  t4 := Tryd.underlying4
  a4 := Tryd.isAgg4
  z4 := Tryd.sizeOf4
  v4 := Tryd.zeroValue4
  t5 := Tryd.underlying5
  a5 := Tryd.isAgg5
  z5 := Tryd.sizeOf5
  v5 := Tryd.zeroValue5
  t9 := Tryd.underlying9
  a9 := Tryd.isAgg9
  z9 := Tryd.sizeOf9
  v9 := Tryd.zeroValue9
  t12 := Tryd.underlying12
  a12 := Tryd.isAgg12
  z12 := Tryd.sizeOf12
  v12 := Tryd.zeroValue12
  t46 := Tryd.underlying129
  a46 := Tryd.isAgg129
  z46 := Tryd.sizeOf129
  v46 := Tryd.zeroValue129
  t53 := Tryd.underlying137
  a53 := Tryd.isAgg137
  z53 := Tryd.sizeOf137
  v53 := Tryd.zeroValue137
  t119 := Tryd.underlying125
  a119 := Tryd.isAgg125
  z119 := Tryd.sizeOf125
  t138 := Tryd.underlying127
  a138 := Tryd.isAgg127
  z138 := Tryd.sizeOf127
  v138 := Tryd.zeroValue127
  t139 := Tryd.underlying128
  a139 := Tryd.isAgg128
  z139 := Tryd.sizeOf128
  v139 := Tryd.zeroValue128
  g3 := by kernel_rfl
  g4 := by kernel_rfl }
def Tryd.laysAny_ren : Go.Shelf.Ren := ⟨fun | 150 => 97 | 153 => 107 | 152 => 111 | 226 => 112 | 227 => 113 | 228 => 114 | 137 => 116 | 119 => 117 | 224 => 118 | 225 => 119 | 217 => 123 | 266 => 128 | n => n, fun | 9 => 9 | 4 => 4 | 3 => 3 | 5 => 5 | 21 => 21 | 117 => 133 | 116 => 132 | 0 => 0 | 46 => 129 | 124 => 141 | n => n, fun | n => n⟩
theorem Tryd.laysAny : Go.Proofs.Lays.n150 Tryd.prog Tryd.laysAny_ren := {
  mixed := by kernel_rfl
  f119 := Tryd.func117.trans (congrArg some (by kernel_rfl))
  f137 := Tryd.func116.trans (congrArg some (by kernel_rfl))
  f150 := Tryd.func97.trans (congrArg some (by kernel_rfl))
  f152 := Tryd.func111.trans (congrArg some (by kernel_rfl))
  f153 := Tryd.func107.trans (congrArg some (by kernel_rfl))
  f217 := Tryd.func123.trans (congrArg some (by kernel_rfl))
  f224 := Tryd.func118.trans (congrArg some (by kernel_rfl))
  f225 := Tryd.func119.trans (congrArg some (by kernel_rfl))
  f226 := Tryd.func112.trans (congrArg some (by kernel_rfl))
  f227 := Tryd.func113.trans (congrArg some (by kernel_rfl))
  f228 := Tryd.func114.trans (congrArg some (by kernel_rfl))
  f266 := Tryd.func128.trans (congrArg some (by kernel_rfl))
  t0 := Tryd.underlying0
  a0 := Tryd.isAgg0
  z0 := Tryd.sizeOf0
  v0 := Tryd.zeroValue0
  t3 := Tryd.underlying3
  a3 := Tryd.isAgg3
  z3 := Tryd.sizeOf3
  v3 := Tryd.zeroValue3
  t4 := Tryd.underlying4
  a4 := Tryd.isAgg4
  z4 := Tryd.sizeOf4
  v4 := Tryd.zeroValue4
  t5 := Tryd.underlying5
  a5 := Tryd.isAgg5
  z5 := Tryd.sizeOf5
  v5 := Tryd.zeroValue5
  t9 := Tryd.underlying9
  a9 := Tryd.isAgg9
  z9 := Tryd.sizeOf9
  v9 := Tryd.zeroValue9
  t21 := Tryd.underlying21
  a21 := Tryd.isAgg21
  z21 := Tryd.sizeOf21
  v21 := Tryd.zeroValue21
  t46 := Tryd.underlying129
  a46 := Tryd.isAgg129
  z46 := Tryd.sizeOf129
  v46 := Tryd.zeroValue129
  t116 := Tryd.underlying132
  a116 := Tryd.isAgg132
  z116 := Tryd.sizeOf132
  t117 := Tryd.underlying133
  a117 := Tryd.isAgg133
  z117 := Tryd.sizeOf133
  v117 := Tryd.zeroValue133
  t124 := Tryd.underlying141
  a124 := Tryd.isAgg141
  z124 := Tryd.sizeOf141
  v124 := Tryd.zeroValue141 }
def Tryd.laysSplit_ren : Go.Shelf.Ren := ⟨fun | 146 => 108 | 221 => 115 | 268 => 120 | 138 => 121 | 143 => 122 | 195 => 124 | 197 => 125 | 218 => 126 | 219 => 127 | 260 => 129 | 217 => 123 | 225 => 119 | 224 => 118 | 267 => 130 | 266 => 128 | 314 => 131 | n => n, fun | 9 => 9 | 31 => 109 | 3 => 3 | 4 => 4 | 0 => 0 | 105 => 143 | 21 => 21 | 5 => 5 | 46 => 129 | 119 => 125 | 139 => 128 | 138 => 127 | 146 => 146 | 51 => 145 | n => n, fun | 1 => 2 | 3 => 0 | 4 => 1 | n => n⟩
theorem Tryd.laysSplit : Go.Proofs.Lays.n146 Tryd.prog Tryd.laysSplit_ren := {
  mixed := by kernel_rfl
  f138 := Tryd.func121.trans (congrArg some (by kernel_rfl))
  f143 := Tryd.func122.trans (congrArg some (by kernel_rfl))
  f146 := Tryd.func108.trans (congrArg some (by kernel_rfl))
  f195 := Tryd.func124.trans (congrArg some (by kernel_rfl))
  f197 := Tryd.func125.trans (congrArg some (by kernel_rfl))
  f217 := Tryd.func123.trans (congrArg some (by kernel_rfl))
  f218 := Tryd.func126.trans (congrArg some (by kernel_rfl))
  f219 := Tryd.func127.trans (congrArg some (by kernel_rfl))
  f221 := Tryd.func115.trans (congrArg some (by kernel_rfl))
  f224 := Tryd.func118.trans (congrArg some (by kernel_rfl))
  f225 := Tryd.func119.trans (congrArg some (by kernel_rfl))
  f260 := Tryd.func129.trans (congrArg some (by kernel_rfl))
  f266 := Tryd.func128.trans (congrArg some (by kernel_rfl))
  f267 := Tryd.func130.trans (congrArg some (by kernel_rfl))
  f268 := Tryd.func120.trans (congrArg some (by kernel_rfl))
  f314 := Tryd.func131.trans (congrArg some (by kernel_rfl))
  t0 := Tryd.underlying0
  a0 := Tryd.isAgg0
  z0 := Tryd.sizeOf0
  v0 := Tryd.zeroValue0
  t3 := Tryd.underlying3
  a3 := Tryd.isAgg3
  z3 := Tryd.sizeOf3
  v3 := Tryd.zeroValue3
  t4 := Tryd.underlying4
  a4 := Tryd.isAgg4
  z4 := Tryd.sizeOf4
  v4 := Tryd.zeroValue4
  t5 := Tryd.underlying5
  a5 := Tryd.isAgg5
  z5 := Tryd.sizeOf5
  v5 := Tryd.zeroValue5
  t9 := Tryd.underlying9
  a9 := Tryd.isAgg9
  z9 := Tryd.sizeOf9
  v9 := Tryd.zeroValue9
  t21 := Tryd.underlying21
  a21 := Tryd.isAgg21
  z21 := Tryd.sizeOf21
  v21 := Tryd.zeroValue21
  t31 := Tryd.underlying109
  a31 := Tryd.isAgg109
  z31 := Tryd.sizeOf109
  v31 := Tryd.zeroValue109
  t46 := Tryd.underlying129
  a46 := Tryd.isAgg129
  z46 := Tryd.sizeOf129
  v46 := Tryd.zeroValue129
  t51 := Tryd.underlying145
  a51 := Tryd.isAgg145
  z51 := Tryd.sizeOf145
  v51 := Tryd.zeroValue145
  t105 := Tryd.underlying143
  a105 := Tryd.isAgg143
  z105 := Tryd.sizeOf143
  v105 := Tryd.zeroValue143
  t119 := Tryd.underlying125
  a119 := Tryd.isAgg125
  z119 := Tryd.sizeOf125
  t138 := Tryd.underlying127
  a138 := Tryd.isAgg127
  z138 := Tryd.sizeOf127
  v138 := Tryd.zeroValue127
  t139 := Tryd.underlying128
  a139 := Tryd.isAgg128
  z139 := Tryd.sizeOf128
  v139 := Tryd.zeroValue128
  t146 := Tryd.underlying146
  a146 := Tryd.isAgg146
  z146 := Tryd.sizeOf146
  v146 := Tryd.zeroValue146
  g1 := by kernel_rfl
  g3 := by kernel_rfl
  g4 := by kernel_rfl }
namespace YtpcgppelelfmiaaDoor.Abs
def noZ : Nat → List UInt8 → Bool
  | 0, _ => true
  | n + 1, l => if l = [] then true else if (Lib.decodeL l).1 = 0 then false else noZ n (l.drop (Lib.decodeL l).2)
def cleanT (s : ByteArray) : Bool := noZ s.size s.data.toList && (Lib.validD s.data.toList && decide (s.size ≤ 60))
/-- The library's tables lie as they are laid. -/
def JT (w : World) : Prop := Lib.Utf8Tabs (Tryd.laysValid_ren.g 3) (Tryd.laysValid_ren.g 4) w
/-- .. and the library's variable MaxLen holds a number. -/
def J0 (w : World) : Prop := JT w ∧ ∃ m, w.cell? ⟨Tryd.laysSplit_ren.g 1, 0, none⟩ = some (.int .i64 m)
theorem jt_stays : ∀ w w' : World, JT w → Below w.heap.size w w' → JT w' := fun _ _ h hb => Utf8Tabs_below h hb
theorem j0_stays : ∀ w w' : World, J0 w → Below w.heap.size w w' → J0 w' := fun w w' h hb => ⟨jt_stays w w' h.1 hb, by
  obtain ⟨m, hm⟩ := h.2
  have hlt := World.block_lt_of_cell? _ _ hm
  refine ⟨m, ?_⟩
  rw [← hm]
  simp only [World.cell?]
  rw [hb.block _ hlt]⟩

set_option maxHeartbeats 1000000 in
set_option maxRecDepth 1000000 in
theorem text_walk (s : ByteArray) (w : World) (hs : s.size ≤ 9223372036854775807) (hT : JT w) :
    Calls Tryd.prog 96 #[.string s] w fun e w' => e = .returned (.bool (cleanT s)) ∧ Below w.heap.size w w' := by
  have cV : ∀ w, JT w → Calls Tryd.prog 106 #[.string s] w _ := fun w hT => Any.utf8_ValidString Tryd.laysValid s w hs hT
  unfold cleanT
  generalize hV : Lib.validD s.data.toList = V at cV ⊢
  have bel : ∀ pos, Below w.heap.size w (w.iter s pos) := fun pos => (Below.refl _ w).alloc (Nat.le_refl _) _
  go_enter Tryd.func96, Tryd.ntmps96
  go_wp2
  go_loopw [] (fun w' => ∃ (pos b : Nat), w' = w.iter s pos ∧ noZ b (s.data.toList.drop pos) = noZ s.size s.data.toList ∧ s.size ≤ pos + b) (fun w' => s.size - w'.iterPos w.heap.size)
  case atStart => exact ⟨0, s.size, rfl, by simp, by omega⟩
  case round =>
    obtain ⟨pos, b, rfl, hc, hb⟩ := hrel
    by_cases hp : pos < s.size
    · have hnx : ∀ ty, (Instr.next (.pointer (some ⟨w.heap.size, 0, none⟩)) true ty).run Tryd.prog (w.iter s pos) = _ := fun ty => run_next_any w s pos ty hp
      have hdd := Lib.decodeL_drop s pos
      have hwd : 1 ≤ (Utf8.decode s pos).2 := by rw [← hdd]; exact Lib.decodeL_width _
      obtain ⟨b, rfl⟩ : ∃ b', b = b' + 1 := ⟨b - 1, by omega⟩
      have hne : s.data.toList.drop pos ≠ [] := by
        intro h
        have := congrArg List.length h
        simp at this
        omega
      rw [noZ, if_neg hne, hdd] at hc
      by_cases hz : (Utf8.decode s pos).1 = 0
      · rw [if_pos hz] at hc
        have hz' : (((Utf8.decode s pos).1 : Int) == 0) = true := by simp [hz]
        go_wp2
        go_ret
        rw [← hc]
        exact ⟨by simp, bel _⟩
      · rw [if_neg hz, List.drop_drop] at hc
        have hz' : (((Utf8.decode s pos).1 : Int) == 0) = false := by simp; omega
        go_wp2
        go_roundw
        case rel => exact ⟨pos + (Utf8.decode s pos).2, b, rfl, hc, by omega⟩
        case measure =>
          simp
          omega
    · have hnx : ∀ ty, (Instr.next (.pointer (some ⟨w.heap.size, 0, none⟩)) true ty).run Tryd.prog (w.iter s pos) = _ := fun ty => run_next_end w s pos ty hp
      have hnil : s.data.toList.drop pos = [] := by
        apply List.drop_of_length_le
        simp
        omega
      have hc2 : noZ s.size s.data.toList = true := by
        rw [← hc, hnil]
        cases b <;> simp [noZ]
      rw [hc2]
      have cV2 := cV (w.iter s pos) (Utf8Tabs_below hT (bel pos))
      go_wp2_with (go_at_call 106; refine cV2.mono ?_; rintro e w' ⟨rfl, hb2⟩)
      all_goals
        go_ret
        refine ⟨?_, (bel pos).trans (hb2.mono (bel pos).size)⟩
      · simp_all
        omega
      · simp_all

theorem textGo_eq : ∀ (n : Nat) (l : List UInt8), textGo n l = (noZ n l && Lib.validGoD n l)
  | 0, _ => rfl
  | n + 1, l => by
    rw [textGo, noZ, Lib.validGoD, textGo_eq n]
    by_cases h : l = []
    · simp [h]
    · by_cases h1 : (Lib.decodeL l).1 = 65533 ∧ (Lib.decodeL l).2 = 1
      · simp [h, h1]
      · by_cases h2 : (Lib.decodeL l).1 = 0
        · simp [h, h2]
        · simp [h, h1, h2]
theorem clean_eq (s : ByteArray) : cleanT s = vTextOk s := by
  have e : s.data.toList.length = s.size := by simp
  unfold cleanT vTextOk Lib.validD
  rw [textGo_eq, e]
  cases noZ s.size s.data.toList <;> cases Lib.validGoD s.size s.data.toList <;> simp

theorem ph_of {c : ByteArray} (h : c.data.toList = [43, 35]) : c = phB := by
  cases c with
  | mk d =>
    have : d = #[43, 35] := by apply Array.ext'; simpa using h
    subst this
    rfl
theorem sep_of {c : ByteArray} (h : c.data.toList = [47]) : c = sepB := by
  cases c with
  | mk d =>
    have : d = #[47] := by apply Array.ext'; simpa using h
    subst this
    rfl
theorem set116 : (Tryd.prog.info? (Tryd.laysAny_ren.t 116)).map (fun i => (i.zero, i.size)) = some (some (.agg (Array.replicate 256 (.bool false))), 256) := by kernel_rfl
theorem hi9 : (Tryd.prog.info? (Tryd.laysSplit_ren.t 9)).map (fun i => (i.zero, i.size, i.bytes)) = some (some (.string ByteArray.empty), 1, 16) := by kernel_rfl
theorem hr_same {w w' : World} (hb : Below w.heap.size w w') : HR w noPhi w' [] := by
  refine ⟨hb, ?_, ?_, ?_, ?_⟩
  · intro i k b o sz hi
    cases hi
  · intro i k hi
    cases hi
  · intro i i' k k' b o sz o' sz' hi
    cases hi
  · intro i p hp
    cases hp
/-- A result that is a value. -/
theorem ext_val {w w' : World} (hb : Below w.heap.size w w') (ty : Nat) (v : Value) : ∃ φ' Hc x ids, HR w φ' w' Hc ∧ VR w φ' x v ∧ ownT E0.ti E0.tp Hc 8 ty x = some (.sc v, ids) ∧ ids.Nodup :=
  ⟨noPhi, [], .sc v, [], hr_same hb, VR_sc _ _ _, rfl, List.nodup_nil⟩
theorem ownL_scE {ti : Nat → Option TI} {tp : Nat → Option (List Nat)} {H : Heap} {d : Nat} : ∀ (ts : List Nat) (l : List Value), ts.length = l.length → ownL (ownT ti tp H (d + 1)) ts (l.map AV.sc) = some (l.map AV.sc, [])
  | [], [], _ => rfl
  | t :: ts, v :: l, h => by
    have ih := ownL_scE (ti := ti) (tp := tp) (H := H) (d := d) ts l (by simpa using h)
    simp only [List.map_cons, ownL, ih, Option.bind_some]
    rfl
theorem own_sl0 {ti : Nat → Option TI} {tp : Nat → Option (List Nat)} {H : Heap} {d ty id off n z : Nat} : ownT ti tp H (d + 1) ty (.sl id off n z) = (ti ty).bind fun i => (ti i.elem).bind fun j => if z = j.size then (if isApp H id then (rdCells H id off (n * z)).bind fun cs => (ownL (ownT ti tp H d) (List.replicate n j.cty).flatten cs).bind fun q => some (.ro n q.1, id :: q.2) else none) else none := rfl
/-- A result that is a list of texts, in a block of its own. -/
theorem ext_strs (w : World) (l : List ByteArray) (e : TypeId) : ∃ φ' Hc x ids, HR w φ' (w.alloc (.cells (l.map Value.string).toArray e)) Hc ∧ VR w φ' x (.slice (some ⟨w.heap.size, 0, none⟩) l.length l.length) ∧
    ownT E0.ti E0.tp Hc 8 109 x = some (.ro l.length (l.map fun s => .sc (.string s)), ids) ∧ ids.Nodup := by
  have hcs : VRs w noPhi ((l.map Value.string).map AV.sc) (fun j => (l.map Value.string).toArray[0 + j]?) := by
    rw [VRs_iff]
    intro j x hj
    rw [List.getElem?_map] at hj
    obtain ⟨v, hv, rfl⟩ := Option.map_eq_some_iff.1 hj
    exact ⟨v, by simpa using hv, VR_sc _ _ _⟩
  obtain ⟨h1, h2⟩ := (HR.start w).alloc (below_alloc' w (.cells (l.map Value.string).toArray e)) (b := w.heap.size) (o := 0) (k := ⟨(l.map Value.string).map AV.sc, true, true⟩) (Nat.le_refl _) (alloc_new w _) (by simp) (fun _ => rfl) (.inl rfl) hcs
  refine ⟨_, _, .sl 0 0 l.length 1, [0], h1, ?_, ?_, by simp⟩
  · rw [VR]
    refine .inr ⟨w.heap.size, 0, _, upd_at _ _ _, .inr ⟨l.length, Nat.le_refl _, rfl, ?_⟩⟩
    simp
  · rw [own_sl0]
    have hr : rdCells ([] ++ [⟨(l.map Value.string).map AV.sc, true, true⟩]) 0 0 (l.length * 1) = some ((l.map Value.string).map AV.sc) := by
      simp [rdCells, List.take_of_length_le]
    have e1 : E0.ti 109 = ti0 109 := rfl
    obtain ⟨i, j, hi, hj, hz, hc⟩ : ∃ i j, ti0 109 = some i ∧ ti0 i.elem = some j ∧ j.size = 1 ∧ j.cty = [i.elem] := ⟨_, _, rfl, rfl, rfl, rfl⟩
    simp only [e1, hi, Option.bind_some, show E0.ti i.elem = some j from hj, hz, if_true, hr, hc]
    have ho := ownL_scE (ti := E0.ti) (tp := E0.tp) (H := [] ++ [⟨(l.map Value.string).map AV.sc, true, true⟩]) (d := 6) (List.replicate l.length [i.elem]).flatten (l.map Value.string) (by simp)
    rw [ho]
    have ha : isApp ([] ++ [(⟨(l.map Value.string).map AV.sc, true, true⟩ : Blk)]) 0 = true := rfl
    rw [if_pos ha]
    simp [List.map_map]

theorem any_walk (s : ByteArray) (w : World) (hs : s.size < 4294967281) : Calls Tryd.prog 97 #[.string s, .string phB] w fun e w' => e = .returned (.bool (vPH s)) ∧ Below w.heap.size w w' :=
  contains_ph Tryd.laysAny (zero_of_info set116).1 (zero_of_info set116).2 s w hs
theorem split_walk (s : ByteArray) (w : World) (hs : s.size < 4294967281) (hm : ∃ m, w.cell? ⟨Tryd.laysSplit_ren.g 1, 0, none⟩ = some (.int .i64 m)) : Calls Tryd.prog 108 #[.string s, .string sepB] w fun e w' =>
    e = .returned (.slice (some ⟨w.heap.size, 0, none⟩) (vLevels s).length (vLevels s).length) ∧ w' = w.alloc (.cells ((vLevels s).map Value.string).toArray (Tryd.laysSplit_ren.t 9)) := by
  obtain ⟨m, hm⟩ := hm
  have h := Any.strings_Split Tryd.laysSplit hi9 s sepB m w hs hm (Nat.le_refl _)
  rw [split_levels, ← levels_len] at h
  exact h

theorem one_arg {w : World} {x : Value} {us : List Value} (hl : us.length = 1) (hv : VRs w noPhi [.sc x] (fun j => us[j]?)) : us = [x] := by
  match us, hl with
  | [y], _ =>
    rw [VRs] at hv
    obtain ⟨⟨u, hu, hv⟩, _⟩ := hv
    rw [VR] at hv
    simp at hu
    rw [hu, hv]
theorem two_args {w : World} {x y : Value} {us : List Value} (hl : us.length = 2) (hv : VRs w noPhi [.sc x, .sc y] (fun j => us[j]?)) : us = [x, y] := by
  match us, hl with
  | [a, b], _ =>
    rw [VRs, VRs] at hv
    obtain ⟨⟨u, hu, hv⟩, ⟨u2, hu2, hv2⟩, _⟩ := hv
    rw [VR] at hv hv2
    simp at hu hu2
    rw [hu, hv, hu2, hv2]

theorem ext0 : ExtOk Tryd.prog E0 J0 := by
  intro f g hg w hj ty vs us t hl hv ht
  have hf : E0.ext f = if Nat.beq f 96 then some ext96 else if Nat.beq f 97 then some ext97 else if Nat.beq f 108 then some ext108 else none := rfl
  rw [hf] at hg
  split at hg
  · rename_i hfe
    obtain rfl := Nat.eq_of_beq_eq_true hfe
    cases hg
    unfold ext96 at ht
    split at ht
    case h_2 => cases ht
    rename_i s
    split at ht
    case isFalse => cases ht
    rename_i hs
    cases ht
    have hm : maxLen = 9223372036854775807 := by decide
    rw [hm] at hs
    obtain rfl := one_arg hl hv
    refine .inr ⟨enters_of Tryd.func96 (by kernel_rfl) rfl _ _, (text_walk s w hs hj.1).mono fun e w' ⟨he, hb⟩ => ⟨_, he, ?_⟩⟩
    rw [clean_eq]
    exact ext_val hb _ _
  split at hg
  · rename_i hfe
    obtain rfl := Nat.eq_of_beq_eq_true hfe
    cases hg
    unfold ext97 at ht
    split at ht
    case h_2 => cases ht
    rename_i s c
    split at ht
    case isFalse => cases ht
    rename_i hs
    cases ht
    obtain rfl := two_args hl hv
    obtain ⟨hc, hs⟩ := hs
    obtain rfl := ph_of hc
    exact .inr ⟨enters_of Tryd.func97 (by kernel_rfl) rfl _ _, (any_walk s w hs).mono fun e w' ⟨he, hb⟩ => ⟨_, he, ext_val hb _ _⟩⟩
  split at hg
  · rename_i hfe
    obtain rfl := Nat.eq_of_beq_eq_true hfe
    cases hg
    unfold ext108 at ht
    split at ht
    case h_2 => cases ht
    rename_i s c
    split at ht
    case isFalse => cases ht
    rename_i hs
    cases ht
    obtain rfl := two_args hl hv
    obtain ⟨rfl, hc, hs⟩ := hs
    obtain rfl := sep_of hc
    exact .inr ⟨enters_of Tryd.func108 (by kernel_rfl) rfl _ _, (split_walk s w hs hj.2).mono fun e w' ⟨he, hw⟩ => ⟨_, he, by subst hw; exact ext_strs w (vLevels s) _⟩⟩
  · cases hg
end YtpcgppelelfmiaaDoor.Abs
end Go.Proofs
