/- What the proof needs, part 5: a sound evaluator over trees, the program's functions on it, and what they come to. -/
import Derived.Test.YtdofipeaomgbbaaGreatDoorMod
import Derived.Test.YtdofipeaomgbbaaGreatDoorRows
import Derived.Test.YtdofipeaomgbbaaGreatDoorTie
import Derived.Test.YtdofipeaomgbbaaGreatDoorCards
import Derived.Lib.LaidIn
import Derived.Lib.LaidU8T
import Derived.PinnedBridge
import Derived.SevenTiedAt
import Derived.Deep.DeepHandedRow
import Derived.Deep.DeepWitnessRowRef
import Derived.WalkKit
import Derived.ProofKit
import Derived.OpenShut
import Derived.ShutString
import Derived.ChangeOld
import Derived.Below
import Derived.SizedLaws
set_option linter.unusedVariables false
set_option linter.unusedSimpArgs false
namespace Go.Proofs.YtdofipeaomgbbaaGreatDoor.Abs
open _root_.Option renaming bind_some → zab, getD_some → zaA, map_eq_some_iff → zaW
open _root_.List renaming getElem?_eq_some_iff → zac, replicate → zad, nil_append → zae, getElem?_append_right → zaf, length_append → zag, getElem?_append_left → zai, append_assoc → zak, append_nil → zam, getElem?_eq_getElem → zan, cons_append → zao, length_singleton → zap, mem_append_right → zar, mem_append_left → zas, length_cons → zat, length_nil → zau, mem_cons_of_mem → zav, map_cons → zax, flatten_append → zay, take_length → zaz, getElem?_set_ne → za0, mem_cons → za2, drop_zero → za4, forall_mem_append → za5, map_append → za6, all_eq_true → za7, mem_cons_self → za9, length_take → zaB, length_drop → zaC, replicate_append_replicate → zaE, nodup_cons → zaF, flatten_cons → zaH, mem_range'_1 → zaJ, not_mem_nil → zaK, mem_append → zaL, nodup_append → zaO, getElem?_set_self → zaR, nodup_range' → zaS, take_append_drop → zaU, drop_drop → zba, range' → zbg, any_cons → zbh, length_set → zbi, all_cons → zbk, take_of_length_le → zbn, set_eq_take_append_cons_drop → zbw, map_nil → zbx, headD_cons → zb3, length_map → zb4, mem_map → zb5, Perm → zb6, tail_cons → zb8, drop_take → zbJ, take_take → zbK, replicate_succ → zbN, mem_singleton → zbP, drop_left' → zbQ
open _root_.Bool renaming and_eq_true → zah, false_eq_true → zaj, or_eq_true → zb0, true_and → zbE, or_eq_false_iff → zbG
open _root_.Nat renaming le_refl → zal, zero_add → zaw, le_trans → za1, zero_le → za3, mul_le_mul_right → za8, add_le_add_right → zaD, add_le_add_left → zaG, min_eq_left → zaM, sub_self → zaN, add_mul → zaP, add_zero → zbf, one_mul → zbt
open _root_.Int renaming toNat_natCast → zbo
section
open Go
section
variable {β : Type} {n : Nat} {H : Ab} {L L' L1 L2 : List Ck} {G : Option β → Prop} {K : AV → Option β} {KH : KO β}
theorem Xv {d : Nat} : ∀ {ts : List Nat} {xs cells : List AV} {I : List Nat} {k : Nat} {v v' : Value}, Cp (B7 Ap E0.tp H (d + 1)) ts xs = some (cells, I) → cells[k]? = some (.sc v) → Cp (B7 Ap E0.tp H (d + 1)) ts (xs.set k (.sc v')) = some (cells.set k (.sc v'), I)
 | ts, [], cells, I, k, v, v', h, hk => by
  obtain ⟨_, e⟩ := Je h
  cases e
  simp at hk
 | [], _ :: _, _, _, _, _, _, h, _ => by simp [Cp] at h
 | t :: ts, x :: xs, cells, I, k, v, v', h, hk => by
  obtain ⟨a, b, h1, h2, e⟩ := Fp h
  cases e
  cases k with
  | zero =>
   obtain ⟨a1, a2⟩ := a
   have : a1 = .sc v := by simpa using hk
   subst this
   have hx := Z6 h1
   subst hx
   have e2 : ([] : List Nat) = a2 := by
    have : (AV.sc v, ([] : List Nat)) = (.sc v, a2) := Option.some.inj h1
    cases this
    rfl
   subst e2
   show Cp _ (t :: ts) (.sc v' :: xs) = some (.sc v' :: b.1, [] ++ b.2)
   rw [Cp, Ja, zab, h2]
   rfl
  | succ k =>
   have ih := Xv (v' := v') h2 (by simpa using hk)
   show Cp _ (t :: ts) (x :: xs.set k (.sc v')) = some (a.1 :: b.1.set k (.sc v'), a.2 ++ b.2)
   rw [Cp, h1, zab, ih]
   rfl
theorem Xr {d : Nat} : ∀ {ts : List Nat} {cs : List AV} {k : Nat} {v' : Value}, E5 (He Ap E0.tp (d + 1)) ts cs → E5 (He Ap E0.tp (d + 1)) ts (cs.set k (.sc v'))
 | [], [], _, _, h => h
 | t :: ts, c :: cs, 0, v', h => ⟨trivial, h.2⟩
 | t :: ts, c :: cs, k + 1, v', h => ⟨h.1, Xr h.2⟩
 | [], _ :: _, _, _, h => by cases h
 | _ :: _, [], _, _, h => by cases h
theorem X8 {α : Type} {enc : α → List AV} {w : Nat} (hw : ∀ x, (enc x).length = w) {l : List α} {i k : Nat} {y y' : α} {v : AV} (hy : l[i]? = some y) (hk : k < w) (he : enc y' = (enc y).set k v) : ((l.map enc).flatten).set (i * w + k) v = ((l.set i y').map enc).flatten := by
 induction l generalizing i with
 | nil => simp at hy
 | cons x l ih =>
  cases i with
  | zero =>
   have : x = y := by simpa using hy
   subst this
   rw [List.set_cons_zero, zax, zax, zaH, zaH, he, Nat.zero_mul, zaw, List.set_append_left _ _ (by rw [hw]; exact hk)]
  | succ i =>
   have := ih (i := i) (by simpa using hy)
   rw [List.set_cons_succ, zax, zax, zaH, zaH, List.set_append_right _ _ (by rw [hw, zaP]; omega), hw, show (i + 1) * w + k - w = i * w + k by rw [zaP]; omega, this]
theorem AcD {cs : List AV} {o : Nat} {v : AV} (h : o < cs.length) : Cf cs o [v] = cs.set o v := by
 unfold Cf
 rw [zbw, if_pos h]
 simp
theorem Il {α : Type} {enc : α → List AV} {w ty k : Nat} {cty : List Nat} {x : AV} {l : List α} {y y' : α} {i : Int} {v v' : Value} {KS : Ab → Option β} (hs : Sep H L) (hty : ∃ i j, Ap ty = some i ∧ Ap i.elem = some j ∧ j.size = w ∧ j.cty = cty) (hp : Pk L (.own x ty (Al enc l)) L1)
  (hi : 0 ≤ i) (hy : l[i.toNat]? = some y) (hw : ∀ x, (enc x).length = w) (hk : k < w) (hv : (enc y)[k]? = some (.sc v)) (hl : Ar (.sc v') = true) (he : enc y' = (enc y).set k (.sc v'))
  (h : ∀ H', Sep H' (.own x ty (Al enc (l.set i.toNat y')) :: L1) → Gd G (KS H')) : Gd G (Es w x (si i) fun t => Er k t fun t => Ev 1 t (.sc v') H fun H => KS H) := by
 obtain ⟨ti, tj, e1, e2, rfl, rfl⟩ := hty
 obtain ⟨I, ⟨J, R, rfl, ⟨hlf, hok, e⟩, h2⟩, h3⟩ := hs.pick hp
 have hlt : i.toNat < l.length := (zac.1 hy).1
 rcases Kt e1 e2 e with ⟨rfl, h0, _, _⟩ | ⟨id, off, raw, J', b, rfl, rfl, hb, hlv, ha, h4, h5⟩
 omega
 obtain ⟨hl4, b', hb', _, hle, hcs⟩ := Ha h4
 rw [hb] at hb'
 cases hb'
 have hm : (i.toNat + 1) * tj.size ≤ l.length * tj.size := za8 _ hlt
 rw [zaP, zbt] at hm
 have hlc : ((l.map enc).flatten).length = l.length * tj.size := Fg hw l
 have hcv : ((l.map enc).flatten)[i.toNat * tj.size + k]? = some (.sc v) := by
  have key : ∀ (l : List α) (i : Nat), l[i]? = some y → ((l.map enc).flatten)[i * tj.size + k]? = some (.sc v) := by
   intro l
   induction l with
   | nil => intro i hi; simp at hi
   | cons z l ih =>
    intro i hi
    cases i with
    | zero =>
     have : z = y := by simpa using hi
     subst this
     rw [zax, zaH, zai (by rw [hw]; omega), Nat.zero_mul, zaw, hv]
    | succ i =>
     rw [zax, zaH, zaf (by rw [hw, zaP]; omega), hw, show (i + 1) * tj.size + k - tj.size = i * tj.size + k by rw [zaP]; omega]
     exact ih i (by simpa using hi)
  exact key l i.toNat hy
 have hid : id < H.length := (zac.1 hb).1
 refine Ox hi (by omega) (Aj (o' := off + (i.toNat * tj.size + k)) (by omega) ?_)
 have hst := Hq 1 id (off + (i.toNat * tj.size + k)) (.sc v') b [.sc v'] H (fun H => KS H) hb (by show (if Ar (.sc v') = true then some [AV.sc v'] else none) = _; rw [if_pos hl]) rfl (by omega) hlv
 refine D3 hst (h _ ?_)
 have hnd := zaF.1 (show (id :: (J' ++ R)).Nodup from h3)
 have hfr : ∀ z, z ≠ id → (H.set id { b with cells := Cf b.cells (off + (i.toNat * tj.size + k)) [.sc v'] })[z]? = H[z]? := fun z hz => za0 (fun e => hz e.symm)
 have hRf : SepI (H.set id { b with cells := Cf b.cells (off + (i.toNat * tj.size + k)) [.sc v'] }) L1 R := h2.frame fun z hz => hfr z (fun e => hnd.1 (e ▸ zar _ hz))
 have h6 := Em (f' := B7 Ap E0.tp (H.set id { b with cells := Cf b.cells (off + (i.toNat * tj.size + k)) [.sc v'] }) 5) (fun t x a h hi => Dg 5 t x a h fun z hz => hfr z (fun e => hnd.1 (e ▸ zas _ (hi z hz)))) h5
 have h7 := Xv (v' := v') h6 hcv
 rw [X8 hw hy hk he] at h7
 refine ⟨(id :: J') ++ R, ⟨id :: J', R, rfl, ⟨rfl, ?_, ?_⟩, hRf⟩, h3⟩
 obtain ⟨i', j', q1, q2, q3, q4⟩ := hok
 rw [e1] at q1
 cases q1
 rw [e2] at q2
 cases q2
 refine ⟨ti, tj, e1, e2, ?_, ?_⟩
 show ((l.set i.toNat y').map enc).flatten.length = (l.set i.toNat y').length * tj.size
 rw [Fg hw]
 have q5 := Xr (d := 4) (k := i.toNat * tj.size + k) (v' := v') q4
 rw [X8 hw hy hk he] at q5
 rw [zbi]
 exact q5
 have hg : (H.set id { b with cells := Cf b.cells (off + (i.toNat * tj.size + k)) [.sc v'] })[id]? = some { b with cells := Cf b.cells (off + (i.toNat * tj.size + k)) [.sc v'] } := zaR hid
 rw [show Al enc (l.set i.toNat y') = .ro (l.set i.toNat y').length (((l.set i.toNat y').map enc).flatten) from rfl, zbi, Gb]
 have hap : Gi (H.set id { b with cells := Cf b.cells (off + (i.toNat * tj.size + k)) [.sc v'] }) id = true := by simp only [Gi, hg]; exact ha
 have hrd : Aw (H.set id { b with cells := Cf b.cells (off + (i.toNat * tj.size + k)) [.sc v'] }) id off (l.length * tj.size) = some (raw.set (i.toNat * tj.size + k) (.sc v')) := by
  unfold Aw
  rw [hg]
  simp only [hlv, if_true]
  rw [AcD (by omega), if_pos (by rw [zbi]; omega), hcs]
  congr 1
  rw [List.drop_set, if_neg (by omega), List.take_set]
  congr 1
  omega
 simp only [e1, e2, zab, if_true, hap, hrd, h7]
theorem Jf {f : Nat → AV → Option (AV × List Nat)} : ∀ {ts1 ts2 : List Nat} {xs cells : List AV} {I : List Nat}, Cp f (ts1 ++ ts2) xs = some (cells, I) → ts1.length ≤ xs.length → ∃ I1 I2, Cp f ts1 (xs.take ts1.length) = some (cells.take ts1.length, I1) ∧ Cp f ts2 (xs.drop ts1.length) = some (cells.drop ts1.length, I2) ∧ I = I1 ++ I2
 | [], ts2, xs, cells, I, h, _ => ⟨[], I, by simp [Cp], by simpa using h, rfl⟩
 | t :: ts1, ts2, [], cells, I, h, hl => by simp at hl
 | t :: ts1, ts2, x :: xs, cells, I, h, hl => by
  obtain ⟨a, b, h1, h2, e⟩ := Fp h
  cases e
  obtain ⟨I1, I2, g1, g2, g3⟩ := Jf (ts1 := ts1) (ts2 := ts2) h2 (by simpa using hl)
  refine ⟨a.2 ++ I1, I2, ?_, by simpa using g2, by rw [g3, zak]⟩
  show Cp f (t :: ts1) (x :: xs.take ts1.length) = some (a.1 :: b.1.take ts1.length, a.2 ++ I1)
  rw [Cp, h1, zab, g1]
  rfl
theorem Ow {α : Type} {enc : α → List AV} {w bytes ty i : Nat} {cty : List Nat} {x y1 y2 : AV} {l : List α} {ys : List (AV × Nat × AV)} (hs : Sep H L) (hty : ∃ i j, Ap ty = some i ∧ Ap i.elem = some j ∧ j.size = w ∧ j.cty = cty) (hp : Pk L (.shs x ty (Al enc l) ys) L1)
  (hi : i < l.length) (q1 : AcM w x 0 i y1) (q2 : AcM w x (i + 1) l.length y2) (hw : ∀ x, (enc x).length = w) (hf : ∀ x, (enc x).all Im = true) (hc : cty.length = w) (hb : l.length * bytes ≤ 140737488355328)
  (h : ∀ x' H', Ar x' = true → Sep H' (.own x' ty (Al enc (l.take i ++ l.drop (i + 1))) :: L1) → Gd G (KH x' H')) : Gd G (Ic w bytes y1 y2 H fun x H => KH x H) := by
 obtain ⟨ti, tj, e1, e2, rfl, rfl⟩ := hty
 obtain ⟨I, ⟨J, R, rfl, ⟨⟨hlf, hok, e⟩, _⟩, h2⟩, h3⟩ := hs.pick hp
 have hokc : E5 (He Ap E0.tp 5) (zad l.length tj.cty).flatten (l.map enc).flatten := by
  obtain ⟨i', j', p1, p2, p3, p4⟩ := hok
  rw [e1] at p1
  cases p1
  rw [e2] at p2
  cases p2
  exact p4
 rcases Kt e1 e2 e with ⟨rfl, h0, _, _⟩ | ⟨id, off, raw, J', b, rfl, rfl, hbb, hlv, ha, h4, h5⟩
 omega
 obtain ⟨hl4, b', hb', _, hle, hcs⟩ := Ha h4
 rw [hbb] at hb'
 cases hb'
 have hy1 : y1 = .sl id off i tj.size := by
  rcases q1 with ⟨q, _⟩ | ⟨a1, a2, a3, q, rfl⟩
  cases q
  cases q
  simp
 have hy2 : y2 = .sl id (off + (i + 1) * tj.size) (l.length - (i + 1)) tj.size := by
  rcases q2 with ⟨q, _⟩ | ⟨a1, a2, a3, q, rfl⟩
  cases q
  cases q
  rfl
 subst hy1
 subst hy2
 have hrl : ∀ k, ((zad k tj.cty).flatten).length = k * tj.size := fun k => by simp [hc]
 have hm : (i + 1) * tj.size ≤ l.length * tj.size := za8 _ hi
 have hm1 : (i + 1) * tj.size = i * tj.size + tj.size := by rw [zaP, zbt]
 have hm2 : (l.length - (i + 1)) * tj.size = l.length * tj.size - (i + 1) * tj.size := Nat.sub_mul ..
 have hrep : (zad l.length tj.cty).flatten = (zad i tj.cty).flatten ++ ((zad 1 tj.cty).flatten ++ (zad (l.length - (i + 1)) tj.cty).flatten) := by
  have := V2 (cty := tj.cty) (show i ≤ i + 1 by omega) (show i + 1 ≤ l.length by omega)
  rw [show i + 1 - i = 1 by omega] at this
  exact this
 rw [hrep] at h5 hokc
 obtain ⟨I1, I2, g1, g2, g3⟩ := Jf h5 (by rw [hrl]; omega)
 obtain ⟨I3, I4, k1, k2, k3⟩ := Jf g2 (by rw [hrl, zaC, hrl]; omega)
 obtain ⟨o1, o2⟩ := Gy hokc
 obtain ⟨o3, o4⟩ := Gy o2
 rw [hrl] at g1 o1
 rw [hrl, hrl, zba, zba] at k2
 rw [hrl, hrl, zba] at o4
 rw [zbt, ← hm1] at k2 o4
 subst g3
 subst k3
 have hc1 : ((l.map enc).flatten).take (i * tj.size) = ((l.take i).map enc).flatten := by
  have := Ti hw l 0 i (za3 _) (by omega)
  rw [Nat.zero_mul, za4, Nat.sub_zero, za4] at this
  exact (AV.ro.inj this).2
 have hc2 : ((l.map enc).flatten).drop ((i + 1) * tj.size) = ((l.drop (i + 1)).map enc).flatten := by
  have := Ti hw l (i + 1) l.length (by omega) (zal _)
  have h9 := (AV.ro.inj this).2
  rw [zbn (by rw [zaC, Fg hw, hm2]; exact zal _), zbn (by rw [zaC]; exact zal _)] at h9
  exact h9
 rw [hc1] at g1 o1
 rw [hc2] at k2 o4
 have hcx : Cu H tj.size (.sl id off i tj.size) = some (raw.take (i * tj.size)) := by
  show (if tj.size = tj.size then Aw H id off (i * tj.size) else none) = _
  simp only [Aw, hbb, hlv, if_true]
  rw [if_pos (by omega), hcs, zbK, zaM (by omega)]
 have hcy : Cu H tj.size (.sl id (off + (i + 1) * tj.size) (l.length - (i + 1)) tj.size) = some (raw.drop ((i + 1) * tj.size)) := by
  show (if tj.size = tj.size then Aw H id (off + (i + 1) * tj.size) ((l.length - (i + 1)) * tj.size) else none) = _
  simp only [Aw, hbb, hlv, if_true]
  rw [if_pos (by omega), hcs, zbJ, zba, hm2]
 have hk : L9 H (.sl id off i tj.size) = some (H.set id { b with live := false }) := by
  show (H[id]?).bind (fun b => if b.app then some (H.set id { b with live := false }) else none) = _
  rw [hbb, zab, if_pos ha]
 have hlfy : (raw.drop ((i + 1) * tj.size)).all Ar = true := Ni (fun t x a I h hl => Te h hl) k2 (by
  show (((l.drop (i + 1)).map enc).flatten).all Im = true
  rw [List.all_flatten, List.all_map, za7]
  intro z _
  exact hf z)
 have hnd := zaF.1 (show (id :: ((I1 ++ (I3 ++ I4)) ++ R)).Nodup from h3)
 have hfr : ∀ z, z ≠ id → z < H.length → (H.set id { b with live := false } ++ [⟨raw.take (i * tj.size) ++ raw.drop ((i + 1) * tj.size), true, true⟩])[z]? = H[z]? := fun z hz hl => by
  rw [zai (by rw [zbi]; exact hl), za0 (fun e => hz e.symm)]
 have hJlt : ∀ z ∈ I1 ++ (I3 ++ I4), z < H.length := fun z hz => Ky 6 ty _ _ e z (zav _ hz)
 have hmem : ∀ z ∈ I1 ++ (I3 ++ I4), z ≠ id := fun z hz e => hnd.1 (e ▸ zas _ hz)
 refine D3 (b := KH (.sl (H.set id { b with live := false }).length 0 (i + (l.length - (i + 1))) tj.size) (H.set id { b with live := false } ++ [⟨raw.take (i * tj.size) ++ raw.drop ((i + 1) * tj.size), true, true⟩])) ?_ (h _ _ rfl ?_)
 have hl0 : G6 (.sl id off i tj.size) = some i := rfl
 have hl1 : G6 (.sl id (off + (i + 1) * tj.size) (l.length - (i + 1)) tj.size) = some (l.length - (i + 1)) := rfl
 have hbb2 : (i + (l.length - (i + 1))) * bytes ≤ 140737488355328 := za1 (za8 _ (by omega)) hb
 simp only [Ic, hl0, hl1, zab, hcx, hcy, hk]
 rw [if_pos hbb2, if_pos hlfy]
 rfl
 have a1 := Em (f' := B7 Ap E0.tp (H.set id { b with live := false } ++ [⟨raw.take (i * tj.size) ++ raw.drop ((i + 1) * tj.size), true, true⟩]) 5) (fun t x a h hi => Dg 5 t x a h fun z hz => by
  have := hi z hz
  exact hfr z (hmem z (zas _ this)) (hJlt z (zas _ this))) g1
 have a2 := Em (f' := B7 Ap E0.tp (H.set id { b with live := false } ++ [⟨raw.take (i * tj.size) ++ raw.drop ((i + 1) * tj.size), true, true⟩]) 5) (fun t x a h hi => Dg 5 t x a h fun z hz => by
  have := hi z hz
  exact hfr z (hmem z (zar _ (zar _ this))) (hJlt z (zar _ (zar _ this)))) k2
 have a3 := Ib a1 a2
 rw [← zay, zaE, ← zay, ← za6] at a3
 have hlen : (l.take i ++ l.drop (i + 1)).length = i + (l.length - (i + 1)) := by
  rw [zag, zaB, zaC, zaM (by omega)]
 have hR : SepI (H.set id { b with live := false } ++ [⟨raw.take (i * tj.size) ++ raw.drop ((i + 1) * tj.size), true, true⟩]) L1 R := h2.frame fun z hz => hfr z (fun e => hnd.1 (e ▸ zar _ hz)) (h2.lt z hz)
 have hg : (H.set id { b with live := false } ++ [(⟨raw.take (i * tj.size) ++ raw.drop ((i + 1) * tj.size), true, true⟩ : Hr)])[(H.set id { b with live := false }).length]? = some ⟨raw.take (i * tj.size) ++ raw.drop ((i + 1) * tj.size), true, true⟩ := by
  rw [zaf (zal _), zaN]
  rfl
 refine ⟨((H.set id { b with live := false }).length :: (I1 ++ I4)) ++ R, ⟨(H.set id { b with live := false }).length :: (I1 ++ I4), R, rfl, ⟨rfl, ?_, ?_⟩, hR⟩, ?_⟩
 refine ⟨ti, tj, e1, e2, Fg hw _, ?_⟩
 show E5 _ (zad (l.take i ++ l.drop (i + 1)).length tj.cty).flatten ((l.take i ++ l.drop (i + 1)).map enc).flatten
 rw [hlen, ← zaE]
 simp only [za6, zay]
 exact Hk o1 o4
 show B7 Ap E0.tp _ 6 ty _ = some (.ro (l.take i ++ l.drop (i + 1)).length (((l.take i ++ l.drop (i + 1)).map enc).flatten), _)
 rw [hlen, Gb]
 have hap : Gi (H.set id { b with live := false } ++ [⟨raw.take (i * tj.size) ++ raw.drop ((i + 1) * tj.size), true, true⟩]) (H.set id { b with live := false }).length = true := by simp only [Gi, hg]
 have hrd : Aw (H.set id { b with live := false } ++ [⟨raw.take (i * tj.size) ++ raw.drop ((i + 1) * tj.size), true, true⟩]) (H.set id { b with live := false }).length 0 ((i + (l.length - (i + 1))) * tj.size) = some (raw.take (i * tj.size) ++ raw.drop ((i + 1) * tj.size)) := by
  have hll : (raw.take (i * tj.size) ++ raw.drop ((i + 1) * tj.size)).length = (i + (l.length - (i + 1))) * tj.size := by
   rw [zag, zaB, zaC, hl4, zaP i (l.length - (i + 1)) tj.size, hm2, zaM (by omega)]
  simp only [Aw, hg, if_true, zaw, za4, ← hll, zal, zaz]
 simp only [e1, e2, zab, if_true, hap, hrd, a3]
 rw [zao, zaF, zbi]
 refine ⟨fun hm => ?_, ?_⟩
 rcases zaL.1 hm with hm | hm
 have : H.length < H.length := hJlt _ (by
  rcases zaL.1 hm with hm | hm
  exact zas _ hm
  exact zar _ (zar _ hm))
 omega
 have := h2.lt _ hm
 omega
 have hn := hnd.2
 have hsub : ((I1 ++ I4) ++ R).Sublist ((I1 ++ (I3 ++ I4)) ++ R) := List.Sublist.append (List.Sublist.append (List.Sublist.refl _) (List.sublist_append_right _ _)) (List.Sublist.refl _)
 exact hn.sublist hsub
end
end
section
open Go
section
variable {β : Type} {n : Nat} {H : Ab} {L L1 : List Ck} {G : Option β → Prop} {KH : KO β}
theorem Ako {α : Type} {enc : α → List AV} {w ty : Nat} {cty : List Nat} {x : AV} {l : List α} {i : Int} (hs : Sep H L) (hty : ∃ i j, Ap ty = some i ∧ Ap i.elem = some j ∧ j.size = w ∧ j.cty = cty) (hp : Pk L (.own x ty (Al enc l)) L1)
  (h0 : 0 ≤ i) (hi : i < (l.length : Nat)) (hw : ∀ x, (enc x).length = w) (hf : ∀ x, (enc x).all Im = true) (hc : cty.length = w)
  (h : ∀ x' H', Ar x' = true → Sep H' (.own x' ty (Al enc (l.take i.toNat ++ l.drop (i.toNat + 1))) :: L1) → Gd G (KH x' H')) : Gd G (Afj w x (si i) (si (i + 1)) H fun x H => KH x H) := by
 have hty' := hty
 obtain ⟨ti, tj, e1, e2, rfl, rfl⟩ := hty
 obtain ⟨I, ⟨J, R, rfl, ⟨hlf, hok, e⟩, h2⟩, h3⟩ := hs.pick hp
 rcases Kt e1 e2 e with ⟨rfl, hn0, _, _⟩ | ⟨id, off, raw, J', b, rfl, rfl, hbb, hlv, ha, h4, h5⟩
 omega
 obtain ⟨hl4, b', hb', _, hle, hcs⟩ := Ha h4
 rw [hbb] at hb'
 cases hb'
 have hk : ∀ o m, L9 H (.sl id o m tj.size) = some (H.set id { b with live := false }) := fun o m => by
  show (H[id]?).bind (fun b => if b.app then some (H.set id { b with live := false }) else none) = _
  rw [hbb, zab, if_pos ha]
 have hi' : i.toNat < l.length := by omega
 have hm : (i.toNat + 1) * tj.size ≤ l.length * tj.size := za8 _ hi'
 have hm1 : (i.toNat + 1) * tj.size = i.toNat * tj.size + tj.size := by rw [zaP, zbt]
 have hm2 : (l.length - (i.toNat + 1)) * tj.size = l.length * tj.size - (i.toNat + 1) * tj.size := Nat.sub_mul ..
 have hlr : raw.all Ar = true := Ni (fun t x a I h hl => Te h hl) h5 (by
  show ((l.map enc).flatten).all Im = true
  rw [List.all_flatten, List.all_map, za7]
  intro z _
  exact hf z)
 have hcx : Cu H tj.size (.sl id off i.toNat tj.size) = some (raw.take (i.toNat * tj.size)) := by
  show (if tj.size = tj.size then Aw H id off (i.toNat * tj.size) else none) = _
  simp only [Aw, hbb, hlv, if_true]
  rw [if_pos (by omega), hcs, zbK, zaM (by omega)]
 have hcy : Cu H tj.size (.sl id (off + (i.toNat + 1) * tj.size) (l.length - (i.toNat + 1)) tj.size) = some (raw.drop ((i.toNat + 1) * tj.size)) := by
  show (if tj.size = tj.size then Aw H id (off + (i.toNat + 1) * tj.size) ((l.length - (i.toNat + 1)) * tj.size) else none) = _
  simp only [Aw, hbb, hlv, if_true]
  rw [if_pos (by omega), hcs, zbJ, zba, hm2]
 refine D3 ?_ (Ow (bytes := 0) (i := i.toNat) (y1 := .sl id off i.toNat tj.size) (y2 := .sl id (off + (i.toNat + 1) * tj.size) (l.length - (i.toNat + 1)) tj.size) (hs.toShs hp) hty' .here hi' (.inr ⟨id, off, l.length, rfl, by simp⟩) (.inr ⟨id, off, l.length, rfl, rfl⟩) hw hf hc (by omega) h)
 have hl0 : G6 (.sl id off i.toNat tj.size) = some i.toNat := rfl
 have hl1 : G6 (.sl id (off + (i.toNat + 1) * tj.size) (l.length - (i.toNat + 1)) tj.size) = some (l.length - (i.toNat + 1)) := rfl
 have hly : (raw.drop ((i.toNat + 1) * tj.size)).all Ar = true := by
  rw [za7] at hlr ⊢
  exact fun z hz => hlr z (List.mem_of_mem_drop hz)
 simp only [Ic, hl0, hl1, zab, hcx, hcy, hk]
 rw [if_pos (by omega), if_pos hly]
 show (if _ then _ else _) = _
 rw [if_pos ⟨rfl, h0, by omega, by omega⟩, h4, zab, if_pos hlr, hk, zab, show (i + 1).toNat = i.toNat + 1 by omega, show l.length - (i + 1 - i).toNat = i.toNat + (l.length - (i.toNat + 1)) by omega]
theorem P8 {α : Type} {enc : α → List AV} {w bt ty ty' f : Nat} {cty : List Nat} {x : AV} {l : List α} {i : Int} (hs : Sep H L) (hx : E0.xk f = some (false, w, bt)) (hfs : E0.fs f = none) (hh : E0.hm f = true) (he : E0.ext f = none) (hty : ∃ i j, Ap ty = some i ∧ Ap i.elem = some j ∧ j.size = w ∧ j.cty = cty) (hp : Pk L (.own x ty (Al enc l)) L1)
  (h0 : 0 ≤ i) (hi : i < (l.length : Nat)) (hw : ∀ x, (enc x).length = w) (hf : ∀ x, (enc x).all Im = true) (hc : cty.length = w)
  (h : ∀ x' H', Ar x' = true → Sep H' (.own x' ty (Al enc (l.take i.toNat ++ l.drop (i.toNat + 1))) :: L1) → Gd G (KH x' H')) : Gd G ((PR (n + 1) β).call ty' (.fn f [] []) [x, si i, si (i + 1)] H fun x H => KH x H) := by
 refine Ik hh he ?_
 have e : Dz E0 (n + 1) β f ([x, si i, si (i + 1)] ++ []) H (fun x H => KH x H) = Afj w x (si i) (si (i + 1)) H fun x H => KH x H := by
  simp only [Dz, hfs, hx, zam]
  rfl
 rw [e]
 exact Ako hs hty hp h0 hi hw hf hc h
end
end
end Go.Proofs.YtdofipeaomgbbaaGreatDoor.Abs
set_option maxRecDepth 100000
set_option maxHeartbeats 1600000
namespace Go.Proofs.YtdofipeaomgbbaaGreatDoor.Abs
open _root_.Option renaming bind_some → zab, getD_some → zaA, map_eq_some_iff → zaW
open _root_.List renaming getElem?_eq_some_iff → zac, replicate → zad, nil_append → zae, getElem?_append_right → zaf, length_append → zag, getElem?_append_left → zai, append_assoc → zak, append_nil → zam, getElem?_eq_getElem → zan, cons_append → zao, length_singleton → zap, mem_append_right → zar, mem_append_left → zas, length_cons → zat, length_nil → zau, mem_cons_of_mem → zav, map_cons → zax, flatten_append → zay, take_length → zaz, getElem?_set_ne → za0, mem_cons → za2, drop_zero → za4, forall_mem_append → za5, map_append → za6, all_eq_true → za7, mem_cons_self → za9, length_take → zaB, length_drop → zaC, replicate_append_replicate → zaE, nodup_cons → zaF, flatten_cons → zaH, mem_range'_1 → zaJ, not_mem_nil → zaK, mem_append → zaL, nodup_append → zaO, getElem?_set_self → zaR, nodup_range' → zaS, take_append_drop → zaU, drop_drop → zba, range' → zbg, any_cons → zbh, length_set → zbi, all_cons → zbk, take_of_length_le → zbn, set_eq_take_append_cons_drop → zbw, map_nil → zbx, headD_cons → zb3, length_map → zb4, mem_map → zb5, Perm → zb6, tail_cons → zb8, drop_take → zbJ, take_take → zbK, replicate_succ → zbN, mem_singleton → zbP, drop_left' → zbQ
open _root_.Bool renaming and_eq_true → zah, false_eq_true → zaj, or_eq_true → zb0, true_and → zbE, or_eq_false_iff → zbG
open _root_.Nat renaming le_refl → zal, zero_add → zaw, le_trans → za1, zero_le → za3, mul_le_mul_right → za8, add_le_add_right → zaD, add_le_add_left → zaG, min_eq_left → zaM, sub_self → zaN, add_mul → zaP, add_zero → zbf, one_mul → zbt
open _root_.Int renaming toNat_natCast → zbo
section
open Go
def Dc (kd id : Int) (o : Bm) (pre : List Ae) : List Ae → Bm × A5 × Bool
 | [] => (o, G0, false)
 | f :: t => if f.fId = id then (if (kd = 4 ∧ f.fSt = 1) ∨ (kd = 7 ∧ f.fSt = 3) then ({ o with fFl := pre ++ t }, G0, true)
   else if kd = 5 ∧ ¬ f.fSt = 1 then ({ o with fFl := pre ++ { f with fSt := 3 } :: t }, A4 id, true) else Dc kd id o (pre ++ [f]) t) else Dc kd id o (pre ++ [f]) t
def Dj (o : Bm) (kd id : Int) : Bm × A5 × Bool := if Dt o then Dc kd id o [] o.fFl else (o, G0, false)
theorem Ak6 (o : Bm) (h : Gf o ≤ 1048576) : Og o := by
 have h1 := Aad o h
 exact ⟨⟨h1.1.1, fun y hy => (h1.1.2 y hy).1⟩, ⟨h1.2.1.1, fun y hy => (h1.2.1.2 y hy).1⟩⟩
theorem Ro (o : Bm) (b : Gf o ≤ 1048576) : o.fFl.length ≤ 1048576 := (Vn o b).1.1
theorem Gv (n : Nat) (hn : 1048576 < n) (x0 : Bm) (kd : Int) (d : Int) (b0 : Gf x0 ≤ 1048576) (h13 : (Dt x0) = true)  : ∀ (t pre : List Ae) (m : Nat) (i : Int) (i10 i5 i3 i1 : Nat) (x8 x7 : AV) (H : Ab), x0.fFl = pre ++ t → i = ((pre.length : Nat) : Int) → t.length < m → Ar x8 = true → Ar x7 = true → Sep H [.blk i10 [.sc (.int .i64 x0.fLast), x7, x8] true, .own x8 25 (Al Ak x0.fQ), .own x7 24 (Al Aq x0.fFl), .blk i5 [.sc (.int .i64 0), .sc (.bool false), .sc (.int .i64 0), .sc (.bool false), .sc (.int .i64 0), .sc (.string (⟨#[]⟩)), .nl, .sc (.string (⟨#[]⟩)), .sc (.int .i64 0), .sc (.bool false), .sc (.int .i64 0), .sc (.bool false), .sc (.string (⟨#[]⟩)), .nl, .sc (.int .i64 0), .sc (.bool false), .sc (.bool false), .sc (.string (⟨#[]⟩)), .sc (.bool false), .nl, .sc (.int .i64 0), .sc (.bool false), .nl, .nl, .nl] true, .blk i3 [.sc (.int .i64 0), .nl, .nl] true, .blk i1 (Bl x0) true] → Gd (· = some (.tup [.agg (Bl (Dc kd d x0 pre t).1), .agg (Bp (Dc kd d x0 pre t).2.1), .sc (.bool (Dc kd d x0 pre t).2.2)])) (Ms (PR (n + 12) AV) (n + 12) (fun x H => Be Ap E0.tp 45 H x) m (.sc (.int .i64 kd)) (.sc (.int .i64 d)) (.ptr i1 0) (.ptr i3 0) (.ptr i5 0) (.ptr i10 0) (.sc (.int .i64 i)) H)
 | [], pre, m + 1, i, i10, i5, i3, i1, x8, x7, H, he, hi, hm, lx8, lx7, s0 => by
  obtain rfl : pre = x0.fFl := by simpa using he.symm
  have hfl := Ro x0 b0
  rw [Ms]
  try simp only [Qx, Qw]
  refine Aj (o' := 1) rfl (Au (c := Al Aq x0.fFl) s0 Oi rfl (Mv (Mw (Bt (by simp [hi]) (Ah s0 (.here) rfl (Bq (cs := [.sc (.int .i64 0), .sc (.bool false), .sc (.int .i64 0), .sc (.bool false), .sc (.int .i64 0), .sc (.string (⟨#[]⟩)), .nl, .sc (.string (⟨#[]⟩)), .sc (.int .i64 0), .sc (.bool false), .sc (.int .i64 0), .sc (.bool false), .sc (.string (⟨#[]⟩)), .nl, .sc (.int .i64 0), .sc (.bool false), .sc (.bool false), .sc (.string (⟨#[]⟩)), .sc (.bool false), .nl, .sc (.int .i64 0), .sc (.bool false), .nl, .nl, .nl]) rfl (Bo (cs' := [.sc (.int .i64 x0.fLast), x7, x8]) s0 F5 (Ac (Aa rfl (Aa lx7 (Aa lx8 rfl)))) rfl (Bb rfl) rfl fun H s201 => Bo (cs' := [.sc (.int .i64 0), .sc (.bool false), .sc (.int .i64 0), .sc (.bool false), .sc (.int .i64 0), .sc (.string (⟨#[]⟩)), .nl, .sc (.string (⟨#[]⟩)), .sc (.int .i64 0), .sc (.bool false), .sc (.int .i64 0), .sc (.bool false), .sc (.string (⟨#[]⟩)), .nl, .sc (.int .i64 0), .sc (.bool false), .sc (.bool false), .sc (.string (⟨#[]⟩)), .sc (.bool false), .nl, .sc (.int .i64 0), .sc (.bool false), .nl, .nl, .nl]) s201 F5 (Ac rfl) rfl (Bb rfl) rfl fun H s202 => Ah s202 A7 rfl (Ah s202 (.here) rfl (Dd (Dq s202 rfl (.agg ⟨_, rfl, rfl⟩ (.sc (.own F5 (.own C3 .nil))) (.agg ⟨_, rfl, rfl⟩ (Hd (.nl (Hd (.nl (Mn (.nl (.sc (.sc (.nl (.nl (.nl .nil))))))))))) (.sc .nil))) ⟨(Eh ⟨_, rfl, rfl⟩ ⟨trivial, ⟨(At (Cj x0.fFl) (by decide)), ⟨(At (D7 x0.fQ) (by decide)), trivial⟩⟩⟩), ⟨(Eh ⟨_, rfl, rfl⟩ (Hf ⟨Dv, (Hf ⟨Dv, (Mk ⟨Dv, (Ku ⟨Dv, ⟨Dv, ⟨Dv, trivial⟩⟩⟩)⟩)⟩)⟩)), ⟨trivial, trivial⟩⟩⟩) ?_)))))))))
  have e : Dc kd d x0 x0.fFl [] = ((⟨x0.fLast, x0.fFl, x0.fQ⟩ : Bm), G0, false) := by
   try simp only [F7] at h13
   rfl
  ·rw [e]
   first | done | rfl
 | y :: t, pre, m + 1, i, i10, i5, i3, i1, x8, x7, H, he, hi, hm, lx8, lx7, s0 => by
  have hlt : pre.length < x0.fFl.length := by rw [he]; simp
  have hfl := Ro x0 b0
  rw [Ms]
  try simp only [Qx, Qw]
  refine Aj (o' := 1) rfl (Au (c := Al Aq x0.fFl) s0 Oi rfl (Mv (Mw (Co (by simp [hi]; omega) (Aj (o' := 1) rfl (Au (c := Al Aq x0.fFl) s0 Oi rfl (Sr hi Ba (by decide) he (Ah4 (Ba _) (C8 s0 fun i201 H s202 => Bo (cs' := Aq y) s202 (.here) (F9 (Ee _)) rfl (Bb rfl) rfl fun H s203 => Aj (o' := 0) rfl (Au (c := .sc (.int .i64 y.fId)) s203 (.here) rfl (Mx (Ag ((decide (y.fId = d))) (fun h204 => ?_) fun h204 => ?_))))))))))))
  refine Bt (nF h204) (Bh (Ag ((decide (kd = 4))) (fun h205 => ?_) fun h205 => ?_))
  refine Av h205 (Aj (o' := 5) rfl (Av h205 (Au (c := si y.fSt) s203 (.here) rfl (Av h205 (Bh (Fe h205 (Ag ((decide (y.fSt = 1))) (fun h206 => ?_) fun h206 => ?_)))))))
  refine El h206 (El h206 (El h206 (AiN (AiN (AiN (El h206 (Fe h206 (Co rfl (Aj (o' := 1) rfl (Au (c := x7) s203 A7 rfl ?_))))))))))
  have s207 := s203.toShs C3
  refine J9 (a := 0) (b := i) s207 ⟨_, _, rfl, rfl, rfl, rfl⟩ (.here) rfl rfl (by omega) (by first | omega | (simp; omega)) (by first | omega | (simp; omega)) Ba rfl fun y208 ly208 qy208 s209 => Aj (o' := 1) rfl (Au (c := x7) s209 B9 rfl (Hx (by omega) (by omega) (J9 (a := (i + 1)) (b := ((x0.fFl.length : Nat) : Int)) s209 ⟨_, _, rfl, rfl, rfl, rfl⟩ (.here) rfl rfl (by omega) (by first | omega | (simp; omega)) (by first | omega | (simp; omega)) Ba rfl fun y210 ly210 qy210 s211 => Ow (i := i.toNat) s211 ⟨_, _, rfl, rfl, rfl, rfl⟩ (.here) (by omega) qy208 (by have h := qy210; rw [show (i + 1).toNat = i.toNat + 1 by omega, zbo] at h; exact h) Ba Ee rfl (by omega) fun x212 H lx212 s213 => Aj (o' := 1) rfl (B4 s213 B9 lx212 rfl fun H s214 => Ah s214 (.here) rfl (Bq (cs := [.sc (.int .i64 0), .sc (.bool false), .sc (.int .i64 0), .sc (.bool false), .sc (.int .i64 0), .sc (.string (⟨#[]⟩)), .nl, .sc (.string (⟨#[]⟩)), .sc (.int .i64 0), .sc (.bool false), .sc (.int .i64 0), .sc (.bool false), .sc (.string (⟨#[]⟩)), .nl, .sc (.int .i64 0), .sc (.bool false), .sc (.bool false), .sc (.string (⟨#[]⟩)), .sc (.bool false), .nl, .sc (.int .i64 0), .sc (.bool false), .nl, .nl, .nl]) rfl (Bo (cs' := [.sc (.int .i64 x0.fLast), x212, x8]) s214 Oi (Ac (Aa rfl (Aa lx212 (Aa lx8 rfl)))) rfl (Bb rfl) rfl fun H s215 => Bo (cs' := [.sc (.int .i64 0), .sc (.bool false), .sc (.int .i64 0), .sc (.bool false), .sc (.int .i64 0), .sc (.string (⟨#[]⟩)), .nl, .sc (.string (⟨#[]⟩)), .sc (.int .i64 0), .sc (.bool false), .sc (.int .i64 0), .sc (.bool false), .sc (.string (⟨#[]⟩)), .nl, .sc (.int .i64 0), .sc (.bool false), .sc (.bool false), .sc (.string (⟨#[]⟩)), .sc (.bool false), .nl, .sc (.int .i64 0), .sc (.bool false), .nl, .nl, .nl]) s215 Oi (Ac rfl) rfl (Bb rfl) rfl fun H s216 => Ah s216 A7 rfl (Ah s216 (.here) rfl ?_)))))))
  refine Dd (Dq s216 rfl (.agg ⟨_, rfl, rfl⟩ (.sc (.own C3 (.own F5 .nil))) (.agg ⟨_, rfl, rfl⟩ (Hd (.nl (Hd (.nl (Mn (.nl (.sc (.sc (.nl (.nl (.nl .nil))))))))))) (.sc .nil))) ⟨(Eh ⟨_, rfl, rfl⟩ ⟨trivial, ⟨(At (Cj (x0.fFl.take i.toNat ++ x0.fFl.drop (i.toNat + 1))) (by decide)), ⟨(At (D7 x0.fQ) (by decide)), trivial⟩⟩⟩), ⟨(Eh ⟨_, rfl, rfl⟩ (Hf ⟨Dv, (Hf ⟨Dv, (Mk ⟨Dv, (Ku ⟨Dv, ⟨Dv, ⟨Dv, trivial⟩⟩⟩)⟩)⟩)⟩)), ⟨trivial, trivial⟩⟩⟩) ?_
  have e : Dc kd d x0 pre (y :: t) = ((⟨x0.fLast, (x0.fFl.take i.toNat ++ x0.fFl.drop (i.toNat + 1)), x0.fQ⟩ : Bm), G0, true) := by
   clear s0 s202 s203 s207 s209 s211 s213 s214 s215 s216
   try simp only [F7] at h13 h204 h205 h206
   try rw [show x0.fFl.take i.toNat ++ x0.fFl.drop (i.toNat + 1) = pre ++ t from by rw [he, hi]; simp]
   try rw [show x0.fFl.set (i).toNat ({ y with fSt := 3 } : Ae) = pre ++ ({ y with fSt := 3 } : Ae) :: t from by rw [he, hi]; simp]
   rw [Dc]
   (repeat' split) <;> first | rfl | (exfalso; omega)
  ·rw [e]
   first | done | rfl
  refine Av h206 (Av h206 (Bh (Av h206 (Ag ((decide (kd = 7))) (fun h217 => ?_) fun h217 => ?_))))
  refine Av h217 (Aj (o' := 5) rfl (Av h217 (Au (c := si y.fSt) s203 (.here) rfl (Av h217 (Bh (Av h206 (Fe h217 (F1 h206 (Ag ((decide (y.fSt = 3))) (fun h218 => ?_) fun h218 => ?_)))))))))
  refine Co h218 (Aj (o' := 1) rfl (Au (c := x7) s203 A7 rfl ?_))
  have s219 := s203.toShs C3
  refine J9 (a := 0) (b := i) s219 ⟨_, _, rfl, rfl, rfl, rfl⟩ (.here) rfl rfl (by omega) (by first | omega | (simp; omega)) (by first | omega | (simp; omega)) Ba rfl fun y220 ly220 qy220 s221 => Aj (o' := 1) rfl (Au (c := x7) s221 B9 rfl (Hx (by omega) (by omega) (J9 (a := (i + 1)) (b := ((x0.fFl.length : Nat) : Int)) s221 ⟨_, _, rfl, rfl, rfl, rfl⟩ (.here) rfl rfl (by omega) (by first | omega | (simp; omega)) (by first | omega | (simp; omega)) Ba rfl fun y222 ly222 qy222 s223 => Ow (i := i.toNat) s223 ⟨_, _, rfl, rfl, rfl, rfl⟩ (.here) (by omega) qy220 (by have h := qy222; rw [show (i + 1).toNat = i.toNat + 1 by omega, zbo] at h; exact h) Ba Ee rfl (by omega) fun x224 H lx224 s225 => Aj (o' := 1) rfl (B4 s225 B9 lx224 rfl fun H s226 => Ah s226 (.here) rfl (Bq (cs := [.sc (.int .i64 0), .sc (.bool false), .sc (.int .i64 0), .sc (.bool false), .sc (.int .i64 0), .sc (.string (⟨#[]⟩)), .nl, .sc (.string (⟨#[]⟩)), .sc (.int .i64 0), .sc (.bool false), .sc (.int .i64 0), .sc (.bool false), .sc (.string (⟨#[]⟩)), .nl, .sc (.int .i64 0), .sc (.bool false), .sc (.bool false), .sc (.string (⟨#[]⟩)), .sc (.bool false), .nl, .sc (.int .i64 0), .sc (.bool false), .nl, .nl, .nl]) rfl (Bo (cs' := [.sc (.int .i64 x0.fLast), x224, x8]) s226 Oi (Ac (Aa rfl (Aa lx224 (Aa lx8 rfl)))) rfl (Bb rfl) rfl fun H s227 => Bo (cs' := [.sc (.int .i64 0), .sc (.bool false), .sc (.int .i64 0), .sc (.bool false), .sc (.int .i64 0), .sc (.string (⟨#[]⟩)), .nl, .sc (.string (⟨#[]⟩)), .sc (.int .i64 0), .sc (.bool false), .sc (.int .i64 0), .sc (.bool false), .sc (.string (⟨#[]⟩)), .nl, .sc (.int .i64 0), .sc (.bool false), .sc (.bool false), .sc (.string (⟨#[]⟩)), .sc (.bool false), .nl, .sc (.int .i64 0), .sc (.bool false), .nl, .nl, .nl]) s227 Oi (Ac rfl) rfl (Bb rfl) rfl fun H s228 => Ah s228 A7 rfl (Ah s228 (.here) rfl ?_)))))))
  refine Dd (Dq s228 rfl (.agg ⟨_, rfl, rfl⟩ (.sc (.own C3 (.own F5 .nil))) (.agg ⟨_, rfl, rfl⟩ (Hd (.nl (Hd (.nl (Mn (.nl (.sc (.sc (.nl (.nl (.nl .nil))))))))))) (.sc .nil))) ⟨(Eh ⟨_, rfl, rfl⟩ ⟨trivial, ⟨(At (Cj (x0.fFl.take i.toNat ++ x0.fFl.drop (i.toNat + 1))) (by decide)), ⟨(At (D7 x0.fQ) (by decide)), trivial⟩⟩⟩), ⟨(Eh ⟨_, rfl, rfl⟩ (Hf ⟨Dv, (Hf ⟨Dv, (Mk ⟨Dv, (Ku ⟨Dv, ⟨Dv, ⟨Dv, trivial⟩⟩⟩)⟩)⟩)⟩)), ⟨trivial, trivial⟩⟩⟩) ?_
  have e : Dc kd d x0 pre (y :: t) = ((⟨x0.fLast, (x0.fFl.take i.toNat ++ x0.fFl.drop (i.toNat + 1)), x0.fQ⟩ : Bm), G0, true) := by
   clear s0 s202 s203 s219 s221 s223 s225 s226 s227 s228
   try simp only [F7] at h13 h204 h205 h206 h217 h218
   try rw [show x0.fFl.take i.toNat ++ x0.fFl.drop (i.toNat + 1) = pre ++ t from by rw [he, hi]; simp]
   try rw [show x0.fFl.set (i).toNat ({ y with fSt := 3 } : Ae) = pre ++ ({ y with fSt := 3 } : Ae) :: t from by rw [he, hi]; simp]
   rw [Dc]
   (repeat' split) <;> first | rfl | (exfalso; omega)
  ·rw [e]
   first | done | rfl
  refine Bt h218 (Bh (Ag ((decide (kd = 5))) (fun h229 => ?_) fun h229 => ?_))
  refine Av h229 (Aj (o' := 5) rfl (Av h229 (Au (c := si y.fSt) s203 (.here) rfl (Av h229 (Mx (Fe h229 (Co (nT h206) (Aj (o' := 1) rfl (Au (c := x7) s203 A7 rfl ?_)))))))))
  have he230 : (x0.fFl)[(i).toNat]? = some y := by rw [he, hi]; simp
  refine Il (y := y) (y' := ({ y with fSt := 3 } : Ae)) (k := 5) (v := (.int .i64 y.fSt)) s203 ⟨_, _, rfl, rfl, rfl, rfl⟩ C3 (by omega) he230 Ba (by omega) rfl rfl rfl fun H s231 => Ah s231 B9 rfl ?_
  have c232 := Pp (n + 8) (by omega) d
  refine Gl s231 rfl (Hw .nil) (c232) ⟨_, rfl, rfl⟩ (Dr _) ?_
  rintro _ _ H ⟨x233, x234, x235, x236, x237, x238, lx233, lx234, lx235, lx236, lx237, lx238, rfl, rfl⟩ s239
  simp only [zae, zao] at s239
  refine Bo (cs' := [si x0.fLast, x7, x8]) s239 It (Ac (Aa rfl (Aa lx7 (Aa lx8 rfl)))) rfl (Bb rfl) rfl fun H s240 => Bo (cs' := [si ((A4 d).fType), .sc (.bool (A4 d).fDup), si ((A4 d).fQos), .sc (.bool (A4 d).fRetain), si ((A4 d).fId), ss ((A4 d).fTopic), x233, ss ((A4 d).fClient), si ((A4 d).fLevel), .sc (.bool (A4 d).fClean), si ((A4 d).fKeep), .sc (.bool (A4 d).fHasWill), ss ((A4 d).fWTopic), x234, si ((A4 d).fWQos), .sc (.bool (A4 d).fWRetain), .sc (.bool (A4 d).fHasUser), ss ((A4 d).fUser), .sc (.bool (A4 d).fHasPass), x235, si ((A4 d).fCode), .sc (.bool (A4 d).fPresent), x236, x237, x238]) s240 It (Ac (Aa rfl (Aa rfl (Aa rfl (Aa rfl (Aa rfl (Aa rfl (Aa lx233 (Aa rfl (Aa rfl (Aa rfl (Aa rfl (Aa rfl (Aa rfl (Aa lx234 (Aa rfl (Aa rfl (Aa rfl (Aa rfl (Aa rfl (Aa lx235 (Aa rfl (Aa rfl (Aa lx236 (Aa lx237 (Aa lx238 rfl)))))))))))))))))))))))))) rfl (Bb rfl) rfl fun H s241 => Ah s241 A7 rfl (Ah s241 (.here) rfl ?_)
  refine Dd (Dq s241 rfl (.agg ⟨_, rfl, rfl⟩ (.sc (.own Ua (.own Is .nil))) (.agg ⟨_, rfl, rfl⟩ (Hd (.own Yh (Hd (.own zP6 (Mn (.own Oi (.sc (.sc (.own F5 (.own C3 (.own B9 .nil))))))))))) (.sc .nil))) ⟨(Eh ⟨_, rfl, rfl⟩ ⟨trivial, ⟨(At (Cj (x0.fFl.set (i).toNat ({ y with fSt := 3 } : Ae))) (by decide)), ⟨(At (D7 x0.fQ) (by decide)), trivial⟩⟩⟩), ⟨(Eh ⟨_, rfl, rfl⟩ (Hf ⟨(At (F4 ((A4 d).fBody)) (by decide)), (Hf ⟨(At (F4 ((A4 d).fWBody)) (by decide)), (Mk ⟨(At (F4 ((A4 d).fPass)) (by decide)), (Ku ⟨(At (Hn ((A4 d).fWants)) (by decide)), ⟨(At (Qh ((A4 d).fNames)) (by decide)), ⟨(At (Qg ((A4 d).fCodes)) (by decide)), trivial⟩⟩⟩)⟩)⟩)⟩)), ⟨trivial, trivial⟩⟩⟩) ?_
  have e : Dc kd d x0 pre (y :: t) = ((⟨x0.fLast, (x0.fFl.set (i).toNat ({ y with fSt := 3 } : Ae)), x0.fQ⟩ : Bm), (A4 d), true) := by
   clear s0 s202 s203 s231 s239 s240 s241
   try simp only [F7] at h13 h204 h205 h206 h217 h218 h229
   try rw [show x0.fFl.take i.toNat ++ x0.fFl.drop (i.toNat + 1) = pre ++ t from by rw [he, hi]; simp]
   try rw [show x0.fFl.set (i).toNat ({ y with fSt := 3 } : Ae) = pre ++ ({ y with fSt := 3 } : Ae) :: t from by rw [he, hi]; simp]
   rw [Dc]
   (repeat' split) <;> first | rfl | (exfalso; omega)
  ·rw [e]
   first | done | rfl
  refine El h229 (El h229 (El h229 (F1 h229 (Bt rfl (Hx (by omega) (by omega) ?_)))))
  have e242 : Dc kd d x0 pre (y :: t) = Dc kd d x0 (pre ++ [y]) t := by
   clear s0 s202 s203
   try simp only [bne_iff_ne, beq_iff_eq, beq_eq_false_iff_ne, F7] at h13 h204 h205 h206 h217 h218 h229
   rw [Dc]; (repeat' split) <;> first | rfl | (exfalso; omega)
  rw [e242]
  exact Gv n hn x0 kd d b0 h13  t (pre ++ [y]) m _ i10 i5 i3 i1 x8 x7 _ (by rw [he]; simp) (by rw [hi]; simp) (by simpa using hm) lx8 lx7 (by simpa only [za6, zax, zbx] using (s203.sel (.cons A7 (.cons A7 (.cons A7 (.cons A7 (.cons A7 (.cons A7 .nil))))))))
  refine El h217 (El h217 (El h217 (Av h206 (F1 h217 (F1 h206 (Bt rfl (Bh (Ag ((decide (kd = 5))) (fun h243 => ?_) fun h243 => ?_))))))))
  refine Av h243 (Aj (o' := 5) rfl (Av h243 (Au (c := si y.fSt) s203 (.here) rfl (Av h243 (Mx (Fe h243 (Co (nT h206) (Aj (o' := 1) rfl (Au (c := x7) s203 A7 rfl ?_)))))))))
  have he244 : (x0.fFl)[(i).toNat]? = some y := by rw [he, hi]; simp
  refine Il (y := y) (y' := ({ y with fSt := 3 } : Ae)) (k := 5) (v := (.int .i64 y.fSt)) s203 ⟨_, _, rfl, rfl, rfl, rfl⟩ C3 (by omega) he244 Ba (by omega) rfl rfl rfl fun H s245 => Ah s245 B9 rfl ?_
  have c246 := Pp (n + 8) (by omega) d
  refine Gl s245 rfl (Hw .nil) (c246) ⟨_, rfl, rfl⟩ (Dr _) ?_
  rintro _ _ H ⟨x247, x248, x249, x250, x251, x252, lx247, lx248, lx249, lx250, lx251, lx252, rfl, rfl⟩ s253
  simp only [zae, zao] at s253
  refine Bo (cs' := [si x0.fLast, x7, x8]) s253 It (Ac (Aa rfl (Aa lx7 (Aa lx8 rfl)))) rfl (Bb rfl) rfl fun H s254 => Bo (cs' := [si ((A4 d).fType), .sc (.bool (A4 d).fDup), si ((A4 d).fQos), .sc (.bool (A4 d).fRetain), si ((A4 d).fId), ss ((A4 d).fTopic), x247, ss ((A4 d).fClient), si ((A4 d).fLevel), .sc (.bool (A4 d).fClean), si ((A4 d).fKeep), .sc (.bool (A4 d).fHasWill), ss ((A4 d).fWTopic), x248, si ((A4 d).fWQos), .sc (.bool (A4 d).fWRetain), .sc (.bool (A4 d).fHasUser), ss ((A4 d).fUser), .sc (.bool (A4 d).fHasPass), x249, si ((A4 d).fCode), .sc (.bool (A4 d).fPresent), x250, x251, x252]) s254 It (Ac (Aa rfl (Aa rfl (Aa rfl (Aa rfl (Aa rfl (Aa rfl (Aa lx247 (Aa rfl (Aa rfl (Aa rfl (Aa rfl (Aa rfl (Aa rfl (Aa lx248 (Aa rfl (Aa rfl (Aa rfl (Aa rfl (Aa rfl (Aa lx249 (Aa rfl (Aa rfl (Aa lx250 (Aa lx251 (Aa lx252 rfl)))))))))))))))))))))))))) rfl (Bb rfl) rfl fun H s255 => Ah s255 A7 rfl (Ah s255 (.here) rfl ?_)
  refine Dd (Dq s255 rfl (.agg ⟨_, rfl, rfl⟩ (.sc (.own Ua (.own Is .nil))) (.agg ⟨_, rfl, rfl⟩ (Hd (.own Yh (Hd (.own zP6 (Mn (.own Oi (.sc (.sc (.own F5 (.own C3 (.own B9 .nil))))))))))) (.sc .nil))) ⟨(Eh ⟨_, rfl, rfl⟩ ⟨trivial, ⟨(At (Cj (x0.fFl.set (i).toNat ({ y with fSt := 3 } : Ae))) (by decide)), ⟨(At (D7 x0.fQ) (by decide)), trivial⟩⟩⟩), ⟨(Eh ⟨_, rfl, rfl⟩ (Hf ⟨(At (F4 ((A4 d).fBody)) (by decide)), (Hf ⟨(At (F4 ((A4 d).fWBody)) (by decide)), (Mk ⟨(At (F4 ((A4 d).fPass)) (by decide)), (Ku ⟨(At (Hn ((A4 d).fWants)) (by decide)), ⟨(At (Qh ((A4 d).fNames)) (by decide)), ⟨(At (Qg ((A4 d).fCodes)) (by decide)), trivial⟩⟩⟩)⟩)⟩)⟩)), ⟨trivial, trivial⟩⟩⟩) ?_
  have e : Dc kd d x0 pre (y :: t) = ((⟨x0.fLast, (x0.fFl.set (i).toNat ({ y with fSt := 3 } : Ae)), x0.fQ⟩ : Bm), (A4 d), true) := by
   clear s0 s202 s203 s245 s253 s254 s255
   try simp only [F7] at h13 h204 h205 h206 h217 h243
   try rw [show x0.fFl.take i.toNat ++ x0.fFl.drop (i.toNat + 1) = pre ++ t from by rw [he, hi]; simp]
   try rw [show x0.fFl.set (i).toNat ({ y with fSt := 3 } : Ae) = pre ++ ({ y with fSt := 3 } : Ae) :: t from by rw [he, hi]; simp]
   rw [Dc]
   (repeat' split) <;> first | rfl | (exfalso; omega)
  ·rw [e]
   first | done | rfl
  refine El h243 (El h243 (El h243 (F1 h243 (Bt rfl (Hx (by omega) (by omega) ?_)))))
  have e256 : Dc kd d x0 pre (y :: t) = Dc kd d x0 (pre ++ [y]) t := by
   clear s0 s202 s203
   try simp only [bne_iff_ne, beq_iff_eq, beq_eq_false_iff_ne, F7] at h13 h204 h205 h206 h217 h243
   rw [Dc]; (repeat' split) <;> first | rfl | (exfalso; omega)
  rw [e256]
  exact Gv n hn x0 kd d b0 h13  t (pre ++ [y]) m _ i10 i5 i3 i1 x8 x7 _ (by rw [he]; simp) (by rw [hi]; simp) (by simpa using hm) lx8 lx7 (by simpa only [za6, zax, zbx] using (s203.sel (.cons A7 (.cons A7 (.cons A7 (.cons A7 (.cons A7 (.cons A7 .nil))))))))
  refine El h205 (El h205 (El h205 (F1 h205 (Av rfl (Av rfl (Bh (Av rfl (Ag ((decide (kd = 7))) (fun h257 => ?_) fun h257 => ?_))))))))
  refine Av h257 (Aj (o' := 5) rfl (Av h257 (Au (c := si y.fSt) s203 (.here) rfl (Av h257 (Bh (Av rfl (Fe h257 (F1 rfl (Ag ((decide (y.fSt = 3))) (fun h258 => ?_) fun h258 => ?_)))))))))
  refine Co h258 (Aj (o' := 1) rfl (Au (c := x7) s203 A7 rfl ?_))
  have s259 := s203.toShs C3
  refine J9 (a := 0) (b := i) s259 ⟨_, _, rfl, rfl, rfl, rfl⟩ (.here) rfl rfl (by omega) (by first | omega | (simp; omega)) (by first | omega | (simp; omega)) Ba rfl fun y260 ly260 qy260 s261 => Aj (o' := 1) rfl (Au (c := x7) s261 B9 rfl (Hx (by omega) (by omega) (J9 (a := (i + 1)) (b := ((x0.fFl.length : Nat) : Int)) s261 ⟨_, _, rfl, rfl, rfl, rfl⟩ (.here) rfl rfl (by omega) (by first | omega | (simp; omega)) (by first | omega | (simp; omega)) Ba rfl fun y262 ly262 qy262 s263 => Ow (i := i.toNat) s263 ⟨_, _, rfl, rfl, rfl, rfl⟩ (.here) (by omega) qy260 (by have h := qy262; rw [show (i + 1).toNat = i.toNat + 1 by omega, zbo] at h; exact h) Ba Ee rfl (by omega) fun x264 H lx264 s265 => Aj (o' := 1) rfl (B4 s265 B9 lx264 rfl fun H s266 => Ah s266 (.here) rfl (Bq (cs := [.sc (.int .i64 0), .sc (.bool false), .sc (.int .i64 0), .sc (.bool false), .sc (.int .i64 0), .sc (.string (⟨#[]⟩)), .nl, .sc (.string (⟨#[]⟩)), .sc (.int .i64 0), .sc (.bool false), .sc (.int .i64 0), .sc (.bool false), .sc (.string (⟨#[]⟩)), .nl, .sc (.int .i64 0), .sc (.bool false), .sc (.bool false), .sc (.string (⟨#[]⟩)), .sc (.bool false), .nl, .sc (.int .i64 0), .sc (.bool false), .nl, .nl, .nl]) rfl (Bo (cs' := [.sc (.int .i64 x0.fLast), x264, x8]) s266 Oi (Ac (Aa rfl (Aa lx264 (Aa lx8 rfl)))) rfl (Bb rfl) rfl fun H s267 => Bo (cs' := [.sc (.int .i64 0), .sc (.bool false), .sc (.int .i64 0), .sc (.bool false), .sc (.int .i64 0), .sc (.string (⟨#[]⟩)), .nl, .sc (.string (⟨#[]⟩)), .sc (.int .i64 0), .sc (.bool false), .sc (.int .i64 0), .sc (.bool false), .sc (.string (⟨#[]⟩)), .nl, .sc (.int .i64 0), .sc (.bool false), .sc (.bool false), .sc (.string (⟨#[]⟩)), .sc (.bool false), .nl, .sc (.int .i64 0), .sc (.bool false), .nl, .nl, .nl]) s267 Oi (Ac rfl) rfl (Bb rfl) rfl fun H s268 => Ah s268 A7 rfl (Ah s268 (.here) rfl ?_)))))))
  refine Dd (Dq s268 rfl (.agg ⟨_, rfl, rfl⟩ (.sc (.own C3 (.own F5 .nil))) (.agg ⟨_, rfl, rfl⟩ (Hd (.nl (Hd (.nl (Mn (.nl (.sc (.sc (.nl (.nl (.nl .nil))))))))))) (.sc .nil))) ⟨(Eh ⟨_, rfl, rfl⟩ ⟨trivial, ⟨(At (Cj (x0.fFl.take i.toNat ++ x0.fFl.drop (i.toNat + 1))) (by decide)), ⟨(At (D7 x0.fQ) (by decide)), trivial⟩⟩⟩), ⟨(Eh ⟨_, rfl, rfl⟩ (Hf ⟨Dv, (Hf ⟨Dv, (Mk ⟨Dv, (Ku ⟨Dv, ⟨Dv, ⟨Dv, trivial⟩⟩⟩)⟩)⟩)⟩)), ⟨trivial, trivial⟩⟩⟩) ?_
  have e : Dc kd d x0 pre (y :: t) = ((⟨x0.fLast, (x0.fFl.take i.toNat ++ x0.fFl.drop (i.toNat + 1)), x0.fQ⟩ : Bm), G0, true) := by
   clear s0 s202 s203 s259 s261 s263 s265 s266 s267 s268
   try simp only [F7] at h13 h204 h205 h257 h258
   try rw [show x0.fFl.take i.toNat ++ x0.fFl.drop (i.toNat + 1) = pre ++ t from by rw [he, hi]; simp]
   try rw [show x0.fFl.set (i).toNat ({ y with fSt := 3 } : Ae) = pre ++ ({ y with fSt := 3 } : Ae) :: t from by rw [he, hi]; simp]
   rw [Dc]
   (repeat' split) <;> first | rfl | (exfalso; omega)
  ·rw [e]
   first | done | rfl
  refine Bt h258 (Bh (Ag ((decide (kd = 5))) (fun h269 => ?_) fun h269 => ?_))
  refine Av h269 (Aj (o' := 5) rfl (Av h269 (Au (c := si y.fSt) s203 (.here) rfl (Av h269 (Mx (Fe h269 (Ag ((decide (y.fSt = 1))) (fun h270 => ?_) fun h270 => ?_)))))))
  refine Bt (nF h270) (Hx (by omega) (by omega) ?_)
  have e271 : Dc kd d x0 pre (y :: t) = Dc kd d x0 (pre ++ [y]) t := by
   clear s0 s202 s203
   try simp only [bne_iff_ne, beq_iff_eq, beq_eq_false_iff_ne, F7] at h13 h204 h205 h257 h258 h269 h270
   rw [Dc]; (repeat' split) <;> first | rfl | (exfalso; omega)
  rw [e271]
  exact Gv n hn x0 kd d b0 h13  t (pre ++ [y]) m _ i10 i5 i3 i1 x8 x7 _ (by rw [he]; simp) (by rw [hi]; simp) (by simpa using hm) lx8 lx7 (by simpa only [za6, zax, zbx] using (s203.sel (.cons A7 (.cons A7 (.cons A7 (.cons A7 (.cons A7 (.cons A7 .nil))))))))
  refine Co (nT h270) (Aj (o' := 1) rfl (Au (c := x7) s203 A7 rfl ?_))
  have he272 : (x0.fFl)[(i).toNat]? = some y := by rw [he, hi]; simp
  refine Il (y := y) (y' := ({ y with fSt := 3 } : Ae)) (k := 5) (v := (.int .i64 y.fSt)) s203 ⟨_, _, rfl, rfl, rfl, rfl⟩ C3 (by omega) he272 Ba (by omega) rfl rfl rfl fun H s273 => Ah s273 B9 rfl ?_
  have c274 := Pp (n + 8) (by omega) d
  refine Gl s273 rfl (Hw .nil) (c274) ⟨_, rfl, rfl⟩ (Dr _) ?_
  rintro _ _ H ⟨x275, x276, x277, x278, x279, x280, lx275, lx276, lx277, lx278, lx279, lx280, rfl, rfl⟩ s281
  simp only [zae, zao] at s281
  refine Bo (cs' := [si x0.fLast, x7, x8]) s281 It (Ac (Aa rfl (Aa lx7 (Aa lx8 rfl)))) rfl (Bb rfl) rfl fun H s282 => Bo (cs' := [si ((A4 d).fType), .sc (.bool (A4 d).fDup), si ((A4 d).fQos), .sc (.bool (A4 d).fRetain), si ((A4 d).fId), ss ((A4 d).fTopic), x275, ss ((A4 d).fClient), si ((A4 d).fLevel), .sc (.bool (A4 d).fClean), si ((A4 d).fKeep), .sc (.bool (A4 d).fHasWill), ss ((A4 d).fWTopic), x276, si ((A4 d).fWQos), .sc (.bool (A4 d).fWRetain), .sc (.bool (A4 d).fHasUser), ss ((A4 d).fUser), .sc (.bool (A4 d).fHasPass), x277, si ((A4 d).fCode), .sc (.bool (A4 d).fPresent), x278, x279, x280]) s282 It (Ac (Aa rfl (Aa rfl (Aa rfl (Aa rfl (Aa rfl (Aa rfl (Aa lx275 (Aa rfl (Aa rfl (Aa rfl (Aa rfl (Aa rfl (Aa rfl (Aa lx276 (Aa rfl (Aa rfl (Aa rfl (Aa rfl (Aa rfl (Aa lx277 (Aa rfl (Aa rfl (Aa lx278 (Aa lx279 (Aa lx280 rfl)))))))))))))))))))))))))) rfl (Bb rfl) rfl fun H s283 => Ah s283 A7 rfl (Ah s283 (.here) rfl ?_)
  refine Dd (Dq s283 rfl (.agg ⟨_, rfl, rfl⟩ (.sc (.own Ua (.own Is .nil))) (.agg ⟨_, rfl, rfl⟩ (Hd (.own Yh (Hd (.own zP6 (Mn (.own Oi (.sc (.sc (.own F5 (.own C3 (.own B9 .nil))))))))))) (.sc .nil))) ⟨(Eh ⟨_, rfl, rfl⟩ ⟨trivial, ⟨(At (Cj (x0.fFl.set (i).toNat ({ y with fSt := 3 } : Ae))) (by decide)), ⟨(At (D7 x0.fQ) (by decide)), trivial⟩⟩⟩), ⟨(Eh ⟨_, rfl, rfl⟩ (Hf ⟨(At (F4 ((A4 d).fBody)) (by decide)), (Hf ⟨(At (F4 ((A4 d).fWBody)) (by decide)), (Mk ⟨(At (F4 ((A4 d).fPass)) (by decide)), (Ku ⟨(At (Hn ((A4 d).fWants)) (by decide)), ⟨(At (Qh ((A4 d).fNames)) (by decide)), ⟨(At (Qg ((A4 d).fCodes)) (by decide)), trivial⟩⟩⟩)⟩)⟩)⟩)), ⟨trivial, trivial⟩⟩⟩) ?_
  have e : Dc kd d x0 pre (y :: t) = ((⟨x0.fLast, (x0.fFl.set (i).toNat ({ y with fSt := 3 } : Ae)), x0.fQ⟩ : Bm), (A4 d), true) := by
   clear s0 s202 s203 s273 s281 s282 s283
   try simp only [F7] at h13 h204 h205 h257 h258 h269 h270
   try rw [show x0.fFl.take i.toNat ++ x0.fFl.drop (i.toNat + 1) = pre ++ t from by rw [he, hi]; simp]
   try rw [show x0.fFl.set (i).toNat ({ y with fSt := 3 } : Ae) = pre ++ ({ y with fSt := 3 } : Ae) :: t from by rw [he, hi]; simp]
   rw [Dc]
   (repeat' split) <;> first | rfl | (exfalso; omega)
  ·rw [e]
   first | done | rfl
  refine El h269 (El h269 (El h269 (F1 h269 (Bt rfl (Hx (by omega) (by omega) ?_)))))
  have e284 : Dc kd d x0 pre (y :: t) = Dc kd d x0 (pre ++ [y]) t := by
   clear s0 s202 s203
   try simp only [bne_iff_ne, beq_iff_eq, beq_eq_false_iff_ne, F7] at h13 h204 h205 h257 h258 h269
   rw [Dc]; (repeat' split) <;> first | rfl | (exfalso; omega)
  rw [e284]
  exact Gv n hn x0 kd d b0 h13  t (pre ++ [y]) m _ i10 i5 i3 i1 x8 x7 _ (by rw [he]; simp) (by rw [hi]; simp) (by simpa using hm) lx8 lx7 (by simpa only [za6, zax, zbx] using (s203.sel (.cons A7 (.cons A7 (.cons A7 (.cons A7 (.cons A7 (.cons A7 .nil))))))))
  refine El h257 (El h257 (El h257 (Av rfl (F1 h257 (F1 rfl (Bt rfl (Bh (Ag ((decide (kd = 5))) (fun h285 => ?_) fun h285 => ?_))))))))
  refine Av h285 (Aj (o' := 5) rfl (Av h285 (Au (c := si y.fSt) s203 (.here) rfl (Av h285 (Mx (Fe h285 (Ag ((decide (y.fSt = 1))) (fun h286 => ?_) fun h286 => ?_)))))))
  refine Bt (nF h286) (Hx (by omega) (by omega) ?_)
  have e287 : Dc kd d x0 pre (y :: t) = Dc kd d x0 (pre ++ [y]) t := by
   clear s0 s202 s203
   try simp only [bne_iff_ne, beq_iff_eq, beq_eq_false_iff_ne, F7] at h13 h204 h205 h257 h285 h286
   rw [Dc]; (repeat' split) <;> first | rfl | (exfalso; omega)
  rw [e287]
  exact Gv n hn x0 kd d b0 h13  t (pre ++ [y]) m _ i10 i5 i3 i1 x8 x7 _ (by rw [he]; simp) (by rw [hi]; simp) (by simpa using hm) lx8 lx7 (by simpa only [za6, zax, zbx] using (s203.sel (.cons A7 (.cons A7 (.cons A7 (.cons A7 (.cons A7 (.cons A7 .nil))))))))
  refine Co (nT h286) (Aj (o' := 1) rfl (Au (c := x7) s203 A7 rfl ?_))
  have he288 : (x0.fFl)[(i).toNat]? = some y := by rw [he, hi]; simp
  refine Il (y := y) (y' := ({ y with fSt := 3 } : Ae)) (k := 5) (v := (.int .i64 y.fSt)) s203 ⟨_, _, rfl, rfl, rfl, rfl⟩ C3 (by omega) he288 Ba (by omega) rfl rfl rfl fun H s289 => Ah s289 B9 rfl ?_
  have c290 := Pp (n + 8) (by omega) d
  refine Gl s289 rfl (Hw .nil) (c290) ⟨_, rfl, rfl⟩ (Dr _) ?_
  rintro _ _ H ⟨x291, x292, x293, x294, x295, x296, lx291, lx292, lx293, lx294, lx295, lx296, rfl, rfl⟩ s297
  simp only [zae, zao] at s297
  refine Bo (cs' := [si x0.fLast, x7, x8]) s297 It (Ac (Aa rfl (Aa lx7 (Aa lx8 rfl)))) rfl (Bb rfl) rfl fun H s298 => Bo (cs' := [si ((A4 d).fType), .sc (.bool (A4 d).fDup), si ((A4 d).fQos), .sc (.bool (A4 d).fRetain), si ((A4 d).fId), ss ((A4 d).fTopic), x291, ss ((A4 d).fClient), si ((A4 d).fLevel), .sc (.bool (A4 d).fClean), si ((A4 d).fKeep), .sc (.bool (A4 d).fHasWill), ss ((A4 d).fWTopic), x292, si ((A4 d).fWQos), .sc (.bool (A4 d).fWRetain), .sc (.bool (A4 d).fHasUser), ss ((A4 d).fUser), .sc (.bool (A4 d).fHasPass), x293, si ((A4 d).fCode), .sc (.bool (A4 d).fPresent), x294, x295, x296]) s298 It (Ac (Aa rfl (Aa rfl (Aa rfl (Aa rfl (Aa rfl (Aa rfl (Aa lx291 (Aa rfl (Aa rfl (Aa rfl (Aa rfl (Aa rfl (Aa rfl (Aa lx292 (Aa rfl (Aa rfl (Aa rfl (Aa rfl (Aa rfl (Aa lx293 (Aa rfl (Aa rfl (Aa lx294 (Aa lx295 (Aa lx296 rfl)))))))))))))))))))))))))) rfl (Bb rfl) rfl fun H s299 => Ah s299 A7 rfl (Ah s299 (.here) rfl ?_)
  refine Dd (Dq s299 rfl (.agg ⟨_, rfl, rfl⟩ (.sc (.own Ua (.own Is .nil))) (.agg ⟨_, rfl, rfl⟩ (Hd (.own Yh (Hd (.own zP6 (Mn (.own Oi (.sc (.sc (.own F5 (.own C3 (.own B9 .nil))))))))))) (.sc .nil))) ⟨(Eh ⟨_, rfl, rfl⟩ ⟨trivial, ⟨(At (Cj (x0.fFl.set (i).toNat ({ y with fSt := 3 } : Ae))) (by decide)), ⟨(At (D7 x0.fQ) (by decide)), trivial⟩⟩⟩), ⟨(Eh ⟨_, rfl, rfl⟩ (Hf ⟨(At (F4 ((A4 d).fBody)) (by decide)), (Hf ⟨(At (F4 ((A4 d).fWBody)) (by decide)), (Mk ⟨(At (F4 ((A4 d).fPass)) (by decide)), (Ku ⟨(At (Hn ((A4 d).fWants)) (by decide)), ⟨(At (Qh ((A4 d).fNames)) (by decide)), ⟨(At (Qg ((A4 d).fCodes)) (by decide)), trivial⟩⟩⟩)⟩)⟩)⟩)), ⟨trivial, trivial⟩⟩⟩) ?_
  have e : Dc kd d x0 pre (y :: t) = ((⟨x0.fLast, (x0.fFl.set (i).toNat ({ y with fSt := 3 } : Ae)), x0.fQ⟩ : Bm), (A4 d), true) := by
   clear s0 s202 s203 s289 s297 s298 s299
   try simp only [F7] at h13 h204 h205 h257 h285 h286
   try rw [show x0.fFl.take i.toNat ++ x0.fFl.drop (i.toNat + 1) = pre ++ t from by rw [he, hi]; simp]
   try rw [show x0.fFl.set (i).toNat ({ y with fSt := 3 } : Ae) = pre ++ ({ y with fSt := 3 } : Ae) :: t from by rw [he, hi]; simp]
   rw [Dc]
   (repeat' split) <;> first | rfl | (exfalso; omega)
  ·rw [e]
   first | done | rfl
  refine El h285 (El h285 (El h285 (F1 h285 (Bt rfl (Hx (by omega) (by omega) ?_)))))
  have e300 : Dc kd d x0 pre (y :: t) = Dc kd d x0 (pre ++ [y]) t := by
   clear s0 s202 s203
   try simp only [bne_iff_ne, beq_iff_eq, beq_eq_false_iff_ne, F7] at h13 h204 h205 h257 h285
   rw [Dc]; (repeat' split) <;> first | rfl | (exfalso; omega)
  rw [e300]
  exact Gv n hn x0 kd d b0 h13  t (pre ++ [y]) m _ i10 i5 i3 i1 x8 x7 _ (by rw [he]; simp) (by rw [hi]; simp) (by simpa using hm) lx8 lx7 (by simpa only [za6, zax, zbx] using (s203.sel (.cons A7 (.cons A7 (.cons A7 (.cons A7 (.cons A7 (.cons A7 .nil))))))))
  refine Co (nT h204) (Hx (by omega) (by omega) ?_)
  have e301 : Dc kd d x0 pre (y :: t) = Dc kd d x0 (pre ++ [y]) t := by
   clear s0 s202 s203
   try simp only [bne_iff_ne, beq_iff_eq, beq_eq_false_iff_ne, F7] at h13 h204
   rw [Dc]; (repeat' split) <;> first | rfl | (exfalso; omega)
  rw [e301]
  exact Gv n hn x0 kd d b0 h13  t (pre ++ [y]) m _ i10 i5 i3 i1 x8 x7 _ (by rw [he]; simp) (by rw [hi]; simp) (by simpa using hm) lx8 lx7 (by simpa only [za6, zax, zbx] using (s203.sel (.cons A7 (.cons A7 (.cons A7 (.cons A7 (.cons A7 (.cons A7 .nil))))))))
theorem Afu (n : Nat) (hn : 1048576 < n) (x0 : Bm) (kd : Int) (d : Int) (b0 : Gf x0 ≤ 1048576) : Ct E0 (n + 13) 45 16 [.agg (Bl x0), .sc (.int .i64 kd), .sc (.int .i64 d)] = some (.tup [.agg (Bl (Dj x0 kd d).1), .agg (Bp (Dj x0 kd d).2.1), .sc (.bool (Dj x0 kd d).2.2)]) := by
 rw [A2, AhZ, f16]
 refine Gn (G := (· = some (.tup [.agg (Bl (Dj x0 kd d).1), .agg (Bp (Dj x0 kd d).2.1), .sc (.bool (Dj x0 kd d).2.2)]))) ?_
 have hfl := Ro x0 b0
 try simp only [Qx, Qw]
 have s0 : Sep [] [] := Gm
 refine Mf s0 (F9 (Hg _)) fun i1 H s2 => C8 s2 fun i3 H s4 => C8 s4 fun i5 H s6 => Ah s6 B9 rfl (Gl s6 rfl (.aggF (Hg _) .nil) (Sz (n + 8) (by omega) x0 (Ak6 x0 b0)) ⟨_, rfl, rfl⟩ (H6 _) ?_)
 rintro _ _ H ⟨x7, x8, lx7, lx8, rfl, rfl⟩ s9
 simp only [zae, zao] at s9
 refine C8 s9 fun i10 H s11 => Bo (cs' := [si x0.fLast, x7, x8]) s11 (.here) (Ac (Aa rfl (Aa lx7 (Aa lx8 rfl)))) rfl (Bb rfl) rfl fun H s12 => Ah s12 Oi rfl (Cc (v := (.bool (Dt x0))) s12 rfl (.aggF (Hg _) .nil) (Po (n + 2) (by omega) _ x0 b0) (Gt (Ag ((Dt x0)) (fun h13 => ?_) fun h13 => ?_)))
 refine Bt (nF h13) ?_
 have hv : Dj x0 kd d = Dc kd d x0 [] x0.fFl := by unfold Dj; rw [if_pos h13]
 rw [hv]
 exact Gv n hn x0 kd d b0 h13  x0.fFl [] _ 0 i10 i5 i3 i1 x8 x7 _ rfl rfl (by omega) lx8 lx7 s12
 refine Co (nT h13) (Ah s12 (.here) rfl (Bq (cs := G4) rfl (Bo (cs' := [si x0.fLast, x7, x8]) s12 F5 (Ac (Aa rfl (Aa lx7 (Aa lx8 rfl)))) rfl (Bb rfl) rfl fun H s14 => Bo (cs' := G4) s14 F5 (Ac rfl) rfl (Bb rfl) rfl fun H s15 => Ah s15 A7 rfl (Ah s15 (.here) rfl (Dd (Dq s15 rfl (.agg ⟨_, rfl, rfl⟩ (.sc (.own F5 (.own C3 .nil))) (.agg ⟨_, rfl, rfl⟩ (Hd (.nl (Hd (.nl (Mn (.nl (.sc (.sc (.nl (.nl (.nl .nil))))))))))) (.sc .nil))) ⟨(Eh ⟨_, rfl, rfl⟩ ⟨trivial, ⟨(At (Cj x0.fFl) (by decide)), ⟨(At (D7 x0.fQ) (by decide)), trivial⟩⟩⟩), ⟨(Eh ⟨_, rfl, rfl⟩ (Hf ⟨Dv, (Hf ⟨Dv, (Mk ⟨Dv, (Ku ⟨Dv, ⟨Dv, ⟨Dv, trivial⟩⟩⟩)⟩)⟩)⟩)), ⟨trivial, trivial⟩⟩⟩) ?_)))))
 have e : Dj x0 kd d = ((⟨x0.fLast, x0.fFl, x0.fQ⟩ : Bm), G0, false) := by
  try simp only [F7] at h13
  unfold Dj; simp only [h13, if_true, if_false, zaj]
 ·rw [e]
  first | done | rfl
theorem AaI (p : Ae → Bool) : ∀ (l : List Ae) (i : Nat), Da p l i < ((i + l.length : Nat) : Int)
 | [], i => by simp only [Da]; omega
 | x :: l, i => by
  rw [Da]
  split
  simp only [zat]; omega
  have := AaI p l (i + 1)
  simp only [zat]
  omega
theorem Uo (p : Ae → Bool) : ∀ (l : List Ae) (i : Nat), (Da p l i = -1 ∧ l.any p = false) ∨ ∃ pre x r, l = pre ++ x :: r ∧ p x = true ∧ pre.any p = false ∧ Da p l i = ((i + pre.length : Nat) : Int)
 | [], i => .inl ⟨rfl, rfl⟩
 | x :: l, i => by
  rw [Da, zbh]
  cases hx : p x
  rcases Uo p l (i + 1) with ⟨h1, h2⟩ | ⟨pre, y, r, rfl, h2, h3, h4⟩
  exact .inl ⟨by simpa using h1, by simpa using h2⟩
  refine .inr ⟨x :: pre, y, r, rfl, h2, by rw [zbh, hx, h3]; rfl, ?_⟩
  rw [if_neg (by decide), h4, zat]
  congr 1
  omega
  exact .inr ⟨[], x, l, rfl, hx, rfl, by simp⟩
theorem AaC : ∀ (r P : List Ae) (x : Ae), x ∈ P → Ml P r = true → (r.any fun y => y.fId == x.fId) = false
 | [], _, _, _, _ => rfl
 | y :: r, P, x, hx, h => by
  rw [Ml, zah] at h
  rw [zbh, AaC r (P ++ [y]) x (zas _ hx) h.2, Bool.or_false]
  cases hy : (y.fId == x.fId)
  rfl
  exfalso
  have h1 := h.1
  simp only [zah, Bool.not_eq_true'] at h1
  have h2 : H9 P y = false := h1.2
  unfold H9 at h2
  rw [List.any_eq_false] at h2
  exact h2 x hx (by rw [beq_iff_eq] at hy ⊢; exact hy.symm)
theorem Uk : ∀ (pre P r : List Ae) (x : Ae), Ml P (pre ++ x :: r) = true → (r.any fun y => y.fId == x.fId) = false
 | [], P, r, x, h => by
  rw [zae, Ml, zah] at h
  exact AaC r (P ++ [x]) x (zar _ (zbP.2 rfl)) h.2
 | y :: pre, P, r, x, h => by
  rw [zao, Ml, zah] at h
  exact Uk pre (P ++ [y]) r x h.2
theorem Lr (kd id : Int) (o : Bm) : ∀ (t pre : List Ae), (t.any fun y => y.fId == id) = false → Dc kd id o pre t = (o, G0, false)
 | [], _, _ => rfl
 | f :: t, pre, h => by
  rw [zbh, zbG] at h
  rw [Dc, if_neg (by simpa using h.1)]
  exact Lr kd id o t (pre ++ [f]) h.2
theorem N2 (kd id : Int) (o : Bm) : ∀ (p t pre : List Ae), (p.any fun y => y.fId == id) = false → Dc kd id o pre (p ++ t) = Dc kd id o (pre ++ p) t
 | [], t, pre, _ => by rw [zae, zam]
 | f :: p, t, pre, h => by
  rw [zbh, zbG] at h
  rw [zao, Dc, if_neg (by simpa using h.1), N2 kd id o p t (pre ++ [f]) h.2, zak]
  rfl
def Iv (o : Bm) (kd id : Int) : Bm × A5 × Bool :=
 if Dt o then (if Da (fun y : Ae => y.fId == id) o.fFl 0 < 0 then (o, G0, false) else
  match o.fFl[(Da (fun y : Ae => y.fId == id) o.fFl 0).toNat]? with
  | some f => if (kd = 4 ∧ f.fSt = 1) ∨ (kd = 7 ∧ f.fSt = 3) then ({ o with fFl := o.fFl.take (Da (fun y : Ae => y.fId == id) o.fFl 0).toNat ++ o.fFl.drop ((Da (fun y : Ae => y.fId == id) o.fFl 0).toNat + 1) }, G0, true)
   else if kd = 5 ∧ ¬ f.fSt = 1 then ({ o with fFl := o.fFl.set (Da (fun y : Ae => y.fId == id) o.fFl 0).toNat { f with fSt := 3 } }, A4 id, true) else (o, G0, false)
  | none => (o, G0, false)) else (o, G0, false)
theorem Fh (o : Bm) (kd id : Int) : Iv o kd id = Dj o kd id := by
 unfold Iv Dj
 by_cases ho : Dt o = true
 rw [if_pos ho, if_pos ho]
 have hg : Ml [] o.fFl = true := by
  unfold Dt at ho
  rw [zah] at ho
  exact ho.1
 rcases Uo (fun y : Ae => y.fId == id) o.fFl 0 with ⟨h1, h2⟩ | ⟨pre, x, r, h1, h2, h3, h4⟩
 rw [if_pos (by omega), Lr kd id o _ _ h2]
 rw [if_neg (by omega), h4]
 have h5 : ((0 + pre.length : Nat) : Int).toNat = pre.length := by omega
 have hid : x.fId = id := by simpa using h2
 have h6 : o.fFl[pre.length]? = some x := by rw [h1]; simp
 have h7 : o.fFl.take pre.length = pre := by rw [h1]; simp
 have h8 : o.fFl.drop (pre.length + 1) = r := by rw [h1]; simp
 have h9 : o.fFl.set pre.length { x with fSt := 3 } = pre ++ { x with fSt := 3 } :: r := by rw [h1]; simp
 rw [h5, h6, h7, h8]
 simp only [h9]
 have hu := Uk pre [] r x (h1 ▸ hg)
 rw [hid] at hu
 rw [h1, N2 kd id o pre (x :: r) [] h3, zae, Dc, if_pos hid, Lr kd id o r (pre ++ [x]) hu]
 rw [if_neg ho, if_neg ho]
theorem AeO (n : Nat) (hn : 1048576 < n) (x0 : Bm) (kd : Int) (d : Int) (b0 : Gf x0 ≤ 1048576) : Ct E0 (n + 13) 45 15 [.agg (Bl x0), .sc (.int .i64 kd), .sc (.int .i64 d)] = some (.tup [.agg (Bl (Dj x0 kd d).1), .agg (Bp (Dj x0 kd d).2.1), .sc (.bool (Dj x0 kd d).2.2)]) := by
 rw [A2, AhY, f15]
 refine Gn (G := (· = some (.tup [.agg (Bl (Dj x0 kd d).1), .agg (Bp (Dj x0 kd d).2.1), .sc (.bool (Dj x0 kd d).2.2)]))) ?_
 have hfl := Ro x0 b0
 have hix := AaI (fun y : Ae => y.fId == d) x0.fFl 0
 try simp only [Qx, Qw]
 have s0 : Sep [] [] := Gm
 refine Mf s0 (F9 (Hg _)) fun i1 H s2 => C8 s2 fun i3 H s4 => C8 s4 fun i5 H s6 => Ah s6 B9 rfl (Gl s6 rfl (.aggF (Hg _) .nil) (Wv (n + 8) (by omega) x0 (Ak6 x0 b0)) ⟨_, rfl, rfl⟩ (H6 _) ?_)
 rintro _ _ H ⟨x7, x8, lx7, lx8, rfl, rfl⟩ s9
 simp only [zae, zao] at s9
 refine C8 s9 fun i10 H s11 => Bo (cs' := [si x0.fLast, x7, x8]) s11 (.here) (Ac (Aa rfl (Aa lx7 (Aa lx8 rfl)))) rfl (Bb rfl) rfl fun H s12 => Aj (o' := 1) rfl (Au (c := Al Aq x0.fFl) s12 Oi rfl (Cc (v := (.int .i64 (Da (fun y : Ae => y.fId == d) x0.fFl 0))) s12 rfl (.cons .ro (.cons .sc .nil)) (Ul (n + 9) (by omega) _ x0.fFl d hfl) (Ah s12 Oi rfl (Cc (v := (.bool (Dt x0))) s12 rfl (.aggF (Hg _) .nil) (Lb (n + 2) (by omega) _ x0 b0) (Gt (Ag ((Dt x0)) (fun h13 => ?_) fun h13 => ?_))))))
 refine Av (nF h13) (Av (nF h13) (Mw (F1 (nF h13) (Ag ((decide ((Da (fun y : Ae => y.fId == d) x0.fFl 0) < 0))) (fun h14 => ?_) fun h14 => ?_))))
 refine Co h14 (Ah s12 (.here) rfl (Bq (cs := G4) rfl (Bo (cs' := [si x0.fLast, x7, x8]) s12 F5 (Ac (Aa rfl (Aa lx7 (Aa lx8 rfl)))) rfl (Bb rfl) rfl fun H s15 => Bo (cs' := G4) s15 F5 (Ac rfl) rfl (Bb rfl) rfl fun H s16 => Ah s16 A7 rfl (Ah s16 (.here) rfl (Dd (Dq s16 rfl (.agg ⟨_, rfl, rfl⟩ (.sc (.own F5 (.own C3 .nil))) (.agg ⟨_, rfl, rfl⟩ (Hd (.nl (Hd (.nl (Mn (.nl (.sc (.sc (.nl (.nl (.nl .nil))))))))))) (.sc .nil))) ⟨(Eh ⟨_, rfl, rfl⟩ ⟨trivial, ⟨(At (Cj x0.fFl) (by decide)), ⟨(At (D7 x0.fQ) (by decide)), trivial⟩⟩⟩), ⟨(Eh ⟨_, rfl, rfl⟩ (Hf ⟨Dv, (Hf ⟨Dv, (Mk ⟨Dv, (Ku ⟨Dv, ⟨Dv, ⟨Dv, trivial⟩⟩⟩)⟩)⟩)⟩)), ⟨trivial, trivial⟩⟩⟩) ?_)))))
 have e : Dj x0 kd d = ((⟨x0.fLast, x0.fFl, x0.fQ⟩ : Bm), G0, false) := by
  clear s0 s2 s4 s6 s9 s11 s12 s15 s16
  try simp only [F7] at h13 h14
  rw [← Fh]; unfold Iv
  (repeat' split) <;> first | rfl | (exfalso; omega) | (simp_all; done) | (simp_all; omega)
 ·rw [e]
  first | done | rfl
 have hnn : 0 ≤ (Da (fun y : Ae => y.fId == d) x0.fFl 0) := Int.not_lt.1 (of_decide_eq_false h14)
 refine Bt h14 (Aj (o' := 1) rfl (Au (c := Al Aq x0.fFl) s12 Oi rfl (Ag2 Ba (by decide) (by omega) (by first | omega | (simp at *; omega)) fun y17 ry17 hy17 => AaH (AeE (c := .sc (.int .i64 y17.fSt)) rfl (Bh (Ag ((decide (kd = 4))) (fun h18 => ?_) fun h18 => ?_))))))
 refine Av h18 (Av h18 (Bh (Fe h18 (Ix (Ag ((decide (y17.fSt = 1))) (fun h19 => ?_) fun h19 => ?_)))))
 refine Co h19 (Co h19 (Aj (o' := 1) rfl (Au (c := x7) s12 (.here) rfl (Hx (by omega) (by omega) (P8 s12 rfl rfl rfl rfl ⟨_, _, rfl, rfl, rfl, rfl⟩ B9 (by omega) (by omega) Ba Ee rfl fun x20 H lx20 s21 => Aj (o' := 1) rfl (B4 s21 A7 lx20 rfl fun H s22 => Ah s22 (.here) rfl (Bq (cs := G4) rfl (Bo (cs' := [si x0.fLast, x20, x8]) s22 F5 (Ac (Aa rfl (Aa lx20 (Aa lx8 rfl)))) rfl (Bb rfl) rfl fun H s23 => Bo (cs' := G4) s23 F5 (Ac rfl) rfl (Bb rfl) rfl fun H s24 => Ah s24 A7 rfl (Ah s24 (.here) rfl (Dd (Dq s24 rfl (.agg ⟨_, rfl, rfl⟩ (.sc (.own C3 (.own C3 .nil))) (.agg ⟨_, rfl, rfl⟩ (Hd (.nl (Hd (.nl (Mn (.nl (.sc (.sc (.nl (.nl (.nl .nil))))))))))) (.sc .nil))) ⟨(Eh ⟨_, rfl, rfl⟩ ⟨trivial, ⟨(At (Cj (x0.fFl.take (Da (fun y : Ae => y.fId == d) x0.fFl 0).toNat ++ x0.fFl.drop ((Da (fun y : Ae => y.fId == d) x0.fFl 0).toNat + 1))) (by decide)), ⟨(At (D7 x0.fQ) (by decide)), trivial⟩⟩⟩), ⟨(Eh ⟨_, rfl, rfl⟩ (Hf ⟨Dv, (Hf ⟨Dv, (Mk ⟨Dv, (Ku ⟨Dv, ⟨Dv, ⟨Dv, trivial⟩⟩⟩)⟩)⟩)⟩)), ⟨trivial, trivial⟩⟩⟩) ?_))))))))))
 have e : Dj x0 kd d = ((⟨x0.fLast, (x0.fFl.take (Da (fun y : Ae => y.fId == d) x0.fFl 0).toNat ++ x0.fFl.drop ((Da (fun y : Ae => y.fId == d) x0.fFl 0).toNat + 1)), x0.fQ⟩ : Bm), G0, true) := by
  clear s0 s2 s4 s6 s9 s11 s12 s21 s22 s23 s24
  try simp only [F7] at h13 h14 h18 h19
  rw [← Fh]; unfold Iv
  (repeat' split) <;> first | rfl | (exfalso; omega) | (simp_all; done) | (simp_all; omega)
 ·rw [e]
  first | done | rfl
 refine Bt h19 (Bh (Ag ((decide (kd = 7))) (fun h25 => ?_) fun h25 => ?_))
 refine Av h25 (Av h25 (Bh (Fe h25 (Ag ((decide (y17.fSt = 3))) (fun h26 => ?_) fun h26 => ?_))))
 refine Co h26 (Aj (o' := 1) rfl (Au (c := x7) s12 (.here) rfl (Hx (by omega) (by omega) (P8 s12 rfl rfl rfl rfl ⟨_, _, rfl, rfl, rfl, rfl⟩ B9 (by omega) (by omega) Ba Ee rfl fun x27 H lx27 s28 => Aj (o' := 1) rfl (B4 s28 A7 lx27 rfl fun H s29 => Ah s29 (.here) rfl (Bq (cs := G4) rfl (Bo (cs' := [si x0.fLast, x27, x8]) s29 F5 (Ac (Aa rfl (Aa lx27 (Aa lx8 rfl)))) rfl (Bb rfl) rfl fun H s30 => Bo (cs' := G4) s30 F5 (Ac rfl) rfl (Bb rfl) rfl fun H s31 => Ah s31 A7 rfl (Ah s31 (.here) rfl (Dd (Dq s31 rfl (.agg ⟨_, rfl, rfl⟩ (.sc (.own C3 (.own C3 .nil))) (.agg ⟨_, rfl, rfl⟩ (Hd (.nl (Hd (.nl (Mn (.nl (.sc (.sc (.nl (.nl (.nl .nil))))))))))) (.sc .nil))) ⟨(Eh ⟨_, rfl, rfl⟩ ⟨trivial, ⟨(At (Cj (x0.fFl.take (Da (fun y : Ae => y.fId == d) x0.fFl 0).toNat ++ x0.fFl.drop ((Da (fun y : Ae => y.fId == d) x0.fFl 0).toNat + 1))) (by decide)), ⟨(At (D7 x0.fQ) (by decide)), trivial⟩⟩⟩), ⟨(Eh ⟨_, rfl, rfl⟩ (Hf ⟨Dv, (Hf ⟨Dv, (Mk ⟨Dv, (Ku ⟨Dv, ⟨Dv, ⟨Dv, trivial⟩⟩⟩)⟩)⟩)⟩)), ⟨trivial, trivial⟩⟩⟩) ?_)))))))))
 have e : Dj x0 kd d = ((⟨x0.fLast, (x0.fFl.take (Da (fun y : Ae => y.fId == d) x0.fFl 0).toNat ++ x0.fFl.drop ((Da (fun y : Ae => y.fId == d) x0.fFl 0).toNat + 1)), x0.fQ⟩ : Bm), G0, true) := by
  clear s0 s2 s4 s6 s9 s11 s12 s28 s29 s30 s31
  try simp only [F7] at h13 h14 h18 h19 h25 h26
  rw [← Fh]; unfold Iv
  (repeat' split) <;> first | rfl | (exfalso; omega) | (simp_all; done) | (simp_all; omega)
 ·rw [e]
  first | done | rfl
 refine Bt h26 (Bh (Ag ((decide (kd = 5))) (fun h32 => ?_) fun h32 => ?_))
 refine Av h32 (Av h32 (Mx (Fe h32 (Co (nT h19) (Aj (o' := 1) rfl (Au (c := x7) s12 (.here) rfl ?_))))))
 obtain ⟨y34, he33⟩ : ∃ y, (x0.fFl)[((Da (fun y : Ae => y.fId == d) x0.fFl 0)).toNat]? = some y := ⟨_, zan (by first | omega | (simp at *; omega))⟩
 refine Il (y := y34) (y' := ({ y34 with fSt := 3 } : Ae)) (k := 5) (v := (.int .i64 y34.fSt)) s12 ⟨_, _, rfl, rfl, rfl, rfl⟩ B9 (by omega) he33 Ba (by omega) rfl rfl rfl fun H s35 => Ah s35 A7 rfl ?_
 have c36 := Oz (n + 8) (by omega) d
 refine Gl s35 rfl (Hw .nil) (c36) ⟨_, rfl, rfl⟩ (Dr _) ?_
 rintro _ _ H ⟨x37, x38, x39, x40, x41, x42, lx37, lx38, lx39, lx40, lx41, lx42, rfl, rfl⟩ s43
 simp only [zae, zao] at s43
 refine Bo (cs' := [si x0.fLast, x7, x8]) s43 Is (Ac (Aa rfl (Aa lx7 (Aa lx8 rfl)))) rfl (Bb rfl) rfl fun H s44 => Bo (cs' := [si ((A4 d).fType), .sc (.bool (A4 d).fDup), si ((A4 d).fQos), .sc (.bool (A4 d).fRetain), si ((A4 d).fId), ss ((A4 d).fTopic), x37, ss ((A4 d).fClient), si ((A4 d).fLevel), .sc (.bool (A4 d).fClean), si ((A4 d).fKeep), .sc (.bool (A4 d).fHasWill), ss ((A4 d).fWTopic), x38, si ((A4 d).fWQos), .sc (.bool (A4 d).fWRetain), .sc (.bool (A4 d).fHasUser), ss ((A4 d).fUser), .sc (.bool (A4 d).fHasPass), x39, si ((A4 d).fCode), .sc (.bool (A4 d).fPresent), x40, x41, x42]) s44 Is (Ac (Aa rfl (Aa rfl (Aa rfl (Aa rfl (Aa rfl (Aa rfl (Aa lx37 (Aa rfl (Aa rfl (Aa rfl (Aa rfl (Aa rfl (Aa rfl (Aa lx38 (Aa rfl (Aa rfl (Aa rfl (Aa rfl (Aa rfl (Aa lx39 (Aa rfl (Aa rfl (Aa lx40 (Aa lx41 (Aa lx42 rfl)))))))))))))))))))))))))) rfl (Bb rfl) rfl fun H s45 => Ah s45 A7 rfl (Ah s45 (.here) rfl ?_)
 refine Dd (Dq s45 rfl (.agg ⟨_, rfl, rfl⟩ (.sc (.own Ua (.own D9 .nil))) (.agg ⟨_, rfl, rfl⟩ (Hd (.own Yh (Hd (.own zP6 (Mn (.own Oi (.sc (.sc (.own F5 (.own C3 (.own B9 .nil))))))))))) (.sc .nil))) ⟨(Eh ⟨_, rfl, rfl⟩ ⟨trivial, ⟨(At (Cj (x0.fFl.set ((Da (fun y : Ae => y.fId == d) x0.fFl 0)).toNat ({ y34 with fSt := 3 } : Ae))) (by decide)), ⟨(At (D7 x0.fQ) (by decide)), trivial⟩⟩⟩), ⟨(Eh ⟨_, rfl, rfl⟩ (Hf ⟨(At (F4 ((A4 d).fBody)) (by decide)), (Hf ⟨(At (F4 ((A4 d).fWBody)) (by decide)), (Mk ⟨(At (F4 ((A4 d).fPass)) (by decide)), (Ku ⟨(At (Hn ((A4 d).fWants)) (by decide)), ⟨(At (Qh ((A4 d).fNames)) (by decide)), ⟨(At (Qg ((A4 d).fCodes)) (by decide)), trivial⟩⟩⟩)⟩)⟩)⟩)), ⟨trivial, trivial⟩⟩⟩) ?_
 have e : Dj x0 kd d = ((⟨x0.fLast, (x0.fFl.set ((Da (fun y : Ae => y.fId == d) x0.fFl 0)).toNat ({ y34 with fSt := 3 } : Ae)), x0.fQ⟩ : Bm), (A4 d), true) := by
  clear s0 s2 s4 s6 s9 s11 s12 s35 s43 s44 s45
  try simp only [F7] at h13 h14 h18 h19 h25 h26 h32
  rw [← Fh]; unfold Iv
  (repeat' split) <;> first | rfl | (exfalso; omega) | (simp_all; done) | (simp_all; omega)
 ·rw [e]
  first | done | rfl
 refine El h32 (El h32 (F1 h32 (Bt rfl (Ah s12 (.here) rfl (Bq (cs := G4) rfl (Bo (cs' := [si x0.fLast, x7, x8]) s12 F5 (Ac (Aa rfl (Aa lx7 (Aa lx8 rfl)))) rfl (Bb rfl) rfl fun H s46 => Bo (cs' := G4) s46 F5 (Ac rfl) rfl (Bb rfl) rfl fun H s47 => Ah s47 A7 rfl (Ah s47 (.here) rfl (Dd (Dq s47 rfl (.agg ⟨_, rfl, rfl⟩ (.sc (.own F5 (.own C3 .nil))) (.agg ⟨_, rfl, rfl⟩ (Hd (.nl (Hd (.nl (Mn (.nl (.sc (.sc (.nl (.nl (.nl .nil))))))))))) (.sc .nil))) ⟨(Eh ⟨_, rfl, rfl⟩ ⟨trivial, ⟨(At (Cj x0.fFl) (by decide)), ⟨(At (D7 x0.fQ) (by decide)), trivial⟩⟩⟩), ⟨(Eh ⟨_, rfl, rfl⟩ (Hf ⟨Dv, (Hf ⟨Dv, (Mk ⟨Dv, (Ku ⟨Dv, ⟨Dv, ⟨Dv, trivial⟩⟩⟩)⟩)⟩)⟩)), ⟨trivial, trivial⟩⟩⟩) ?_))))))))
 have e : Dj x0 kd d = ((⟨x0.fLast, x0.fFl, x0.fQ⟩ : Bm), G0, false) := by
  clear s0 s2 s4 s6 s9 s11 s12 s46 s47
  try simp only [F7] at h13 h14 h18 h19 h25 h26 h32
  rw [← Fh]; unfold Iv
  (repeat' split) <;> first | rfl | (exfalso; omega) | (simp_all; done) | (simp_all; omega)
 ·rw [e]
  first | done | rfl
 refine El h25 (El h25 (F1 h25 (Bt rfl (Bh (Ag ((decide (kd = 5))) (fun h48 => ?_) fun h48 => ?_)))))
 refine Av h48 (Av h48 (Mx (Fe h48 (Co (nT h19) (Aj (o' := 1) rfl (Au (c := x7) s12 (.here) rfl ?_))))))
 obtain ⟨y50, he49⟩ : ∃ y, (x0.fFl)[((Da (fun y : Ae => y.fId == d) x0.fFl 0)).toNat]? = some y := ⟨_, zan (by first | omega | (simp at *; omega))⟩
 refine Il (y := y50) (y' := ({ y50 with fSt := 3 } : Ae)) (k := 5) (v := (.int .i64 y50.fSt)) s12 ⟨_, _, rfl, rfl, rfl, rfl⟩ B9 (by omega) he49 Ba (by omega) rfl rfl rfl fun H s51 => Ah s51 A7 rfl ?_
 have c52 := Oz (n + 8) (by omega) d
 refine Gl s51 rfl (Hw .nil) (c52) ⟨_, rfl, rfl⟩ (Dr _) ?_
 rintro _ _ H ⟨x53, x54, x55, x56, x57, x58, lx53, lx54, lx55, lx56, lx57, lx58, rfl, rfl⟩ s59
 simp only [zae, zao] at s59
 refine Bo (cs' := [si x0.fLast, x7, x8]) s59 Is (Ac (Aa rfl (Aa lx7 (Aa lx8 rfl)))) rfl (Bb rfl) rfl fun H s60 => Bo (cs' := [si ((A4 d).fType), .sc (.bool (A4 d).fDup), si ((A4 d).fQos), .sc (.bool (A4 d).fRetain), si ((A4 d).fId), ss ((A4 d).fTopic), x53, ss ((A4 d).fClient), si ((A4 d).fLevel), .sc (.bool (A4 d).fClean), si ((A4 d).fKeep), .sc (.bool (A4 d).fHasWill), ss ((A4 d).fWTopic), x54, si ((A4 d).fWQos), .sc (.bool (A4 d).fWRetain), .sc (.bool (A4 d).fHasUser), ss ((A4 d).fUser), .sc (.bool (A4 d).fHasPass), x55, si ((A4 d).fCode), .sc (.bool (A4 d).fPresent), x56, x57, x58]) s60 Is (Ac (Aa rfl (Aa rfl (Aa rfl (Aa rfl (Aa rfl (Aa rfl (Aa lx53 (Aa rfl (Aa rfl (Aa rfl (Aa rfl (Aa rfl (Aa rfl (Aa lx54 (Aa rfl (Aa rfl (Aa rfl (Aa rfl (Aa rfl (Aa lx55 (Aa rfl (Aa rfl (Aa lx56 (Aa lx57 (Aa lx58 rfl)))))))))))))))))))))))))) rfl (Bb rfl) rfl fun H s61 => Ah s61 A7 rfl (Ah s61 (.here) rfl ?_)
 refine Dd (Dq s61 rfl (.agg ⟨_, rfl, rfl⟩ (.sc (.own Ua (.own D9 .nil))) (.agg ⟨_, rfl, rfl⟩ (Hd (.own Yh (Hd (.own zP6 (Mn (.own Oi (.sc (.sc (.own F5 (.own C3 (.own B9 .nil))))))))))) (.sc .nil))) ⟨(Eh ⟨_, rfl, rfl⟩ ⟨trivial, ⟨(At (Cj (x0.fFl.set ((Da (fun y : Ae => y.fId == d) x0.fFl 0)).toNat ({ y50 with fSt := 3 } : Ae))) (by decide)), ⟨(At (D7 x0.fQ) (by decide)), trivial⟩⟩⟩), ⟨(Eh ⟨_, rfl, rfl⟩ (Hf ⟨(At (F4 ((A4 d).fBody)) (by decide)), (Hf ⟨(At (F4 ((A4 d).fWBody)) (by decide)), (Mk ⟨(At (F4 ((A4 d).fPass)) (by decide)), (Ku ⟨(At (Hn ((A4 d).fWants)) (by decide)), ⟨(At (Qh ((A4 d).fNames)) (by decide)), ⟨(At (Qg ((A4 d).fCodes)) (by decide)), trivial⟩⟩⟩)⟩)⟩)⟩)), ⟨trivial, trivial⟩⟩⟩) ?_
 have e : Dj x0 kd d = ((⟨x0.fLast, (x0.fFl.set ((Da (fun y : Ae => y.fId == d) x0.fFl 0)).toNat ({ y50 with fSt := 3 } : Ae)), x0.fQ⟩ : Bm), (A4 d), true) := by
  clear s0 s2 s4 s6 s9 s11 s12 s51 s59 s60 s61
  try simp only [F7] at h13 h14 h18 h19 h25 h48
  rw [← Fh]; unfold Iv
  (repeat' split) <;> first | rfl | (exfalso; omega) | (simp_all; done) | (simp_all; omega)
 ·rw [e]
  first | done | rfl
 refine El h48 (El h48 (F1 h48 (Bt rfl (Ah s12 (.here) rfl (Bq (cs := G4) rfl (Bo (cs' := [si x0.fLast, x7, x8]) s12 F5 (Ac (Aa rfl (Aa lx7 (Aa lx8 rfl)))) rfl (Bb rfl) rfl fun H s62 => Bo (cs' := G4) s62 F5 (Ac rfl) rfl (Bb rfl) rfl fun H s63 => Ah s63 A7 rfl (Ah s63 (.here) rfl (Dd (Dq s63 rfl (.agg ⟨_, rfl, rfl⟩ (.sc (.own F5 (.own C3 .nil))) (.agg ⟨_, rfl, rfl⟩ (Hd (.nl (Hd (.nl (Mn (.nl (.sc (.sc (.nl (.nl (.nl .nil))))))))))) (.sc .nil))) ⟨(Eh ⟨_, rfl, rfl⟩ ⟨trivial, ⟨(At (Cj x0.fFl) (by decide)), ⟨(At (D7 x0.fQ) (by decide)), trivial⟩⟩⟩), ⟨(Eh ⟨_, rfl, rfl⟩ (Hf ⟨Dv, (Hf ⟨Dv, (Mk ⟨Dv, (Ku ⟨Dv, ⟨Dv, ⟨Dv, trivial⟩⟩⟩)⟩)⟩)⟩)), ⟨trivial, trivial⟩⟩⟩) ?_))))))))
 have e : Dj x0 kd d = ((⟨x0.fLast, x0.fFl, x0.fQ⟩ : Bm), G0, false) := by
  clear s0 s2 s4 s6 s9 s11 s12 s62 s63
  try simp only [F7] at h13 h14 h18 h19 h25 h48
  rw [← Fh]; unfold Iv
  (repeat' split) <;> first | rfl | (exfalso; omega) | (simp_all; done) | (simp_all; omega)
 ·rw [e]
  first | done | rfl
 refine El h18 (El h18 (F1 h18 (Ix (Bt rfl (Bh (Ag ((decide (kd = 7))) (fun h64 => ?_) fun h64 => ?_))))))
 refine Av h64 (Av h64 (Bh (Fe h64 (Ag ((decide (y17.fSt = 3))) (fun h65 => ?_) fun h65 => ?_))))
 refine Co h65 (Aj (o' := 1) rfl (Au (c := x7) s12 (.here) rfl (Hx (by omega) (by omega) (P8 s12 rfl rfl rfl rfl ⟨_, _, rfl, rfl, rfl, rfl⟩ B9 (by omega) (by omega) Ba Ee rfl fun x66 H lx66 s67 => Aj (o' := 1) rfl (B4 s67 A7 lx66 rfl fun H s68 => Ah s68 (.here) rfl (Bq (cs := G4) rfl (Bo (cs' := [si x0.fLast, x66, x8]) s68 F5 (Ac (Aa rfl (Aa lx66 (Aa lx8 rfl)))) rfl (Bb rfl) rfl fun H s69 => Bo (cs' := G4) s69 F5 (Ac rfl) rfl (Bb rfl) rfl fun H s70 => Ah s70 A7 rfl (Ah s70 (.here) rfl (Dd (Dq s70 rfl (.agg ⟨_, rfl, rfl⟩ (.sc (.own C3 (.own C3 .nil))) (.agg ⟨_, rfl, rfl⟩ (Hd (.nl (Hd (.nl (Mn (.nl (.sc (.sc (.nl (.nl (.nl .nil))))))))))) (.sc .nil))) ⟨(Eh ⟨_, rfl, rfl⟩ ⟨trivial, ⟨(At (Cj (x0.fFl.take (Da (fun y : Ae => y.fId == d) x0.fFl 0).toNat ++ x0.fFl.drop ((Da (fun y : Ae => y.fId == d) x0.fFl 0).toNat + 1))) (by decide)), ⟨(At (D7 x0.fQ) (by decide)), trivial⟩⟩⟩), ⟨(Eh ⟨_, rfl, rfl⟩ (Hf ⟨Dv, (Hf ⟨Dv, (Mk ⟨Dv, (Ku ⟨Dv, ⟨Dv, ⟨Dv, trivial⟩⟩⟩)⟩)⟩)⟩)), ⟨trivial, trivial⟩⟩⟩) ?_)))))))))
 have e : Dj x0 kd d = ((⟨x0.fLast, (x0.fFl.take (Da (fun y : Ae => y.fId == d) x0.fFl 0).toNat ++ x0.fFl.drop ((Da (fun y : Ae => y.fId == d) x0.fFl 0).toNat + 1)), x0.fQ⟩ : Bm), G0, true) := by
  clear s0 s2 s4 s6 s9 s11 s12 s67 s68 s69 s70
  try simp only [F7] at h13 h14 h18 h64 h65
  rw [← Fh]; unfold Iv
  (repeat' split) <;> first | rfl | (exfalso; omega) | (simp_all; done) | (simp_all; omega)
 ·rw [e]
  first | done | rfl
 refine Bt h65 (Bh (Ag ((decide (kd = 5))) (fun h71 => ?_) fun h71 => ?_))
 refine Av h71 (Av h71 (Mx (Fe h71 (Ag ((decide (y17.fSt = 1))) (fun h72 => ?_) fun h72 => ?_))))
 refine Bt (nF h72) (Ah s12 (.here) rfl (Bq (cs := G4) rfl (Bo (cs' := [si x0.fLast, x7, x8]) s12 F5 (Ac (Aa rfl (Aa lx7 (Aa lx8 rfl)))) rfl (Bb rfl) rfl fun H s73 => Bo (cs' := G4) s73 F5 (Ac rfl) rfl (Bb rfl) rfl fun H s74 => Ah s74 A7 rfl (Ah s74 (.here) rfl (Dd (Dq s74 rfl (.agg ⟨_, rfl, rfl⟩ (.sc (.own F5 (.own C3 .nil))) (.agg ⟨_, rfl, rfl⟩ (Hd (.nl (Hd (.nl (Mn (.nl (.sc (.sc (.nl (.nl (.nl .nil))))))))))) (.sc .nil))) ⟨(Eh ⟨_, rfl, rfl⟩ ⟨trivial, ⟨(At (Cj x0.fFl) (by decide)), ⟨(At (D7 x0.fQ) (by decide)), trivial⟩⟩⟩), ⟨(Eh ⟨_, rfl, rfl⟩ (Hf ⟨Dv, (Hf ⟨Dv, (Mk ⟨Dv, (Ku ⟨Dv, ⟨Dv, ⟨Dv, trivial⟩⟩⟩)⟩)⟩)⟩)), ⟨trivial, trivial⟩⟩⟩) ?_)))))
 have e : Dj x0 kd d = ((⟨x0.fLast, x0.fFl, x0.fQ⟩ : Bm), G0, false) := by
  clear s0 s2 s4 s6 s9 s11 s12 s73 s74
  try simp only [F7] at h13 h14 h18 h64 h65 h71 h72
  rw [← Fh]; unfold Iv
  (repeat' split) <;> first | rfl | (exfalso; omega) | (simp_all; done) | (simp_all; omega)
 ·rw [e]
  first | done | rfl
 refine Co (nT h72) (Aj (o' := 1) rfl (Au (c := x7) s12 (.here) rfl ?_))
 obtain ⟨y76, he75⟩ : ∃ y, (x0.fFl)[((Da (fun y : Ae => y.fId == d) x0.fFl 0)).toNat]? = some y := ⟨_, zan (by first | omega | (simp at *; omega))⟩
 refine Il (y := y76) (y' := ({ y76 with fSt := 3 } : Ae)) (k := 5) (v := (.int .i64 y76.fSt)) s12 ⟨_, _, rfl, rfl, rfl, rfl⟩ B9 (by omega) he75 Ba (by omega) rfl rfl rfl fun H s77 => Ah s77 A7 rfl ?_
 have c78 := Oz (n + 8) (by omega) d
 refine Gl s77 rfl (Hw .nil) (c78) ⟨_, rfl, rfl⟩ (Dr _) ?_
 rintro _ _ H ⟨x79, x80, x81, x82, x83, x84, lx79, lx80, lx81, lx82, lx83, lx84, rfl, rfl⟩ s85
 simp only [zae, zao] at s85
 refine Bo (cs' := [si x0.fLast, x7, x8]) s85 Is (Ac (Aa rfl (Aa lx7 (Aa lx8 rfl)))) rfl (Bb rfl) rfl fun H s86 => Bo (cs' := [si ((A4 d).fType), .sc (.bool (A4 d).fDup), si ((A4 d).fQos), .sc (.bool (A4 d).fRetain), si ((A4 d).fId), ss ((A4 d).fTopic), x79, ss ((A4 d).fClient), si ((A4 d).fLevel), .sc (.bool (A4 d).fClean), si ((A4 d).fKeep), .sc (.bool (A4 d).fHasWill), ss ((A4 d).fWTopic), x80, si ((A4 d).fWQos), .sc (.bool (A4 d).fWRetain), .sc (.bool (A4 d).fHasUser), ss ((A4 d).fUser), .sc (.bool (A4 d).fHasPass), x81, si ((A4 d).fCode), .sc (.bool (A4 d).fPresent), x82, x83, x84]) s86 Is (Ac (Aa rfl (Aa rfl (Aa rfl (Aa rfl (Aa rfl (Aa rfl (Aa lx79 (Aa rfl (Aa rfl (Aa rfl (Aa rfl (Aa rfl (Aa rfl (Aa lx80 (Aa rfl (Aa rfl (Aa rfl (Aa rfl (Aa rfl (Aa lx81 (Aa rfl (Aa rfl (Aa lx82 (Aa lx83 (Aa lx84 rfl)))))))))))))))))))))))))) rfl (Bb rfl) rfl fun H s87 => Ah s87 A7 rfl (Ah s87 (.here) rfl ?_)
 refine Dd (Dq s87 rfl (.agg ⟨_, rfl, rfl⟩ (.sc (.own Ua (.own D9 .nil))) (.agg ⟨_, rfl, rfl⟩ (Hd (.own Yh (Hd (.own zP6 (Mn (.own Oi (.sc (.sc (.own F5 (.own C3 (.own B9 .nil))))))))))) (.sc .nil))) ⟨(Eh ⟨_, rfl, rfl⟩ ⟨trivial, ⟨(At (Cj (x0.fFl.set ((Da (fun y : Ae => y.fId == d) x0.fFl 0)).toNat ({ y76 with fSt := 3 } : Ae))) (by decide)), ⟨(At (D7 x0.fQ) (by decide)), trivial⟩⟩⟩), ⟨(Eh ⟨_, rfl, rfl⟩ (Hf ⟨(At (F4 ((A4 d).fBody)) (by decide)), (Hf ⟨(At (F4 ((A4 d).fWBody)) (by decide)), (Mk ⟨(At (F4 ((A4 d).fPass)) (by decide)), (Ku ⟨(At (Hn ((A4 d).fWants)) (by decide)), ⟨(At (Qh ((A4 d).fNames)) (by decide)), ⟨(At (Qg ((A4 d).fCodes)) (by decide)), trivial⟩⟩⟩)⟩)⟩)⟩)), ⟨trivial, trivial⟩⟩⟩) ?_
 have e : Dj x0 kd d = ((⟨x0.fLast, (x0.fFl.set ((Da (fun y : Ae => y.fId == d) x0.fFl 0)).toNat ({ y76 with fSt := 3 } : Ae)), x0.fQ⟩ : Bm), (A4 d), true) := by
  clear s0 s2 s4 s6 s9 s11 s12 s77 s85 s86 s87
  try simp only [F7] at h13 h14 h18 h64 h65 h71 h72
  rw [← Fh]; unfold Iv
  (repeat' split) <;> first | rfl | (exfalso; omega) | (simp_all; done) | (simp_all; omega)
 ·rw [e]
  first | done | rfl
 refine El h71 (El h71 (F1 h71 (Bt rfl (Ah s12 (.here) rfl (Bq (cs := G4) rfl (Bo (cs' := [si x0.fLast, x7, x8]) s12 F5 (Ac (Aa rfl (Aa lx7 (Aa lx8 rfl)))) rfl (Bb rfl) rfl fun H s88 => Bo (cs' := G4) s88 F5 (Ac rfl) rfl (Bb rfl) rfl fun H s89 => Ah s89 A7 rfl (Ah s89 (.here) rfl (Dd (Dq s89 rfl (.agg ⟨_, rfl, rfl⟩ (.sc (.own F5 (.own C3 .nil))) (.agg ⟨_, rfl, rfl⟩ (Hd (.nl (Hd (.nl (Mn (.nl (.sc (.sc (.nl (.nl (.nl .nil))))))))))) (.sc .nil))) ⟨(Eh ⟨_, rfl, rfl⟩ ⟨trivial, ⟨(At (Cj x0.fFl) (by decide)), ⟨(At (D7 x0.fQ) (by decide)), trivial⟩⟩⟩), ⟨(Eh ⟨_, rfl, rfl⟩ (Hf ⟨Dv, (Hf ⟨Dv, (Mk ⟨Dv, (Ku ⟨Dv, ⟨Dv, ⟨Dv, trivial⟩⟩⟩)⟩)⟩)⟩)), ⟨trivial, trivial⟩⟩⟩) ?_))))))))
 have e : Dj x0 kd d = ((⟨x0.fLast, x0.fFl, x0.fQ⟩ : Bm), G0, false) := by
  clear s0 s2 s4 s6 s9 s11 s12 s88 s89
  try simp only [F7] at h13 h14 h18 h64 h65 h71
  rw [← Fh]; unfold Iv
  (repeat' split) <;> first | rfl | (exfalso; omega) | (simp_all; done) | (simp_all; omega)
 ·rw [e]
  first | done | rfl
 refine El h64 (El h64 (F1 h64 (Bt rfl (Bh (Ag ((decide (kd = 5))) (fun h90 => ?_) fun h90 => ?_)))))
 refine Av h90 (Av h90 (Mx (Fe h90 (Ag ((decide (y17.fSt = 1))) (fun h91 => ?_) fun h91 => ?_))))
 refine Bt (nF h91) (Ah s12 (.here) rfl (Bq (cs := G4) rfl (Bo (cs' := [si x0.fLast, x7, x8]) s12 F5 (Ac (Aa rfl (Aa lx7 (Aa lx8 rfl)))) rfl (Bb rfl) rfl fun H s92 => Bo (cs' := G4) s92 F5 (Ac rfl) rfl (Bb rfl) rfl fun H s93 => Ah s93 A7 rfl (Ah s93 (.here) rfl (Dd (Dq s93 rfl (.agg ⟨_, rfl, rfl⟩ (.sc (.own F5 (.own C3 .nil))) (.agg ⟨_, rfl, rfl⟩ (Hd (.nl (Hd (.nl (Mn (.nl (.sc (.sc (.nl (.nl (.nl .nil))))))))))) (.sc .nil))) ⟨(Eh ⟨_, rfl, rfl⟩ ⟨trivial, ⟨(At (Cj x0.fFl) (by decide)), ⟨(At (D7 x0.fQ) (by decide)), trivial⟩⟩⟩), ⟨(Eh ⟨_, rfl, rfl⟩ (Hf ⟨Dv, (Hf ⟨Dv, (Mk ⟨Dv, (Ku ⟨Dv, ⟨Dv, ⟨Dv, trivial⟩⟩⟩)⟩)⟩)⟩)), ⟨trivial, trivial⟩⟩⟩) ?_)))))
 have e : Dj x0 kd d = ((⟨x0.fLast, x0.fFl, x0.fQ⟩ : Bm), G0, false) := by
  clear s0 s2 s4 s6 s9 s11 s12 s92 s93
  try simp only [F7] at h13 h14 h18 h64 h90 h91
  rw [← Fh]; unfold Iv
  (repeat' split) <;> first | rfl | (exfalso; omega) | (simp_all; done) | (simp_all; omega)
 ·rw [e]
  first | done | rfl
 refine Co (nT h91) (Aj (o' := 1) rfl (Au (c := x7) s12 (.here) rfl ?_))
 obtain ⟨y95, he94⟩ : ∃ y, (x0.fFl)[((Da (fun y : Ae => y.fId == d) x0.fFl 0)).toNat]? = some y := ⟨_, zan (by first | omega | (simp at *; omega))⟩
 refine Il (y := y95) (y' := ({ y95 with fSt := 3 } : Ae)) (k := 5) (v := (.int .i64 y95.fSt)) s12 ⟨_, _, rfl, rfl, rfl, rfl⟩ B9 (by omega) he94 Ba (by omega) rfl rfl rfl fun H s96 => Ah s96 A7 rfl ?_
 have c97 := Oz (n + 8) (by omega) d
 refine Gl s96 rfl (Hw .nil) (c97) ⟨_, rfl, rfl⟩ (Dr _) ?_
 rintro _ _ H ⟨x98, x99, x100, x101, x102, x103, lx98, lx99, lx100, lx101, lx102, lx103, rfl, rfl⟩ s104
 simp only [zae, zao] at s104
 refine Bo (cs' := [si x0.fLast, x7, x8]) s104 Is (Ac (Aa rfl (Aa lx7 (Aa lx8 rfl)))) rfl (Bb rfl) rfl fun H s105 => Bo (cs' := [si ((A4 d).fType), .sc (.bool (A4 d).fDup), si ((A4 d).fQos), .sc (.bool (A4 d).fRetain), si ((A4 d).fId), ss ((A4 d).fTopic), x98, ss ((A4 d).fClient), si ((A4 d).fLevel), .sc (.bool (A4 d).fClean), si ((A4 d).fKeep), .sc (.bool (A4 d).fHasWill), ss ((A4 d).fWTopic), x99, si ((A4 d).fWQos), .sc (.bool (A4 d).fWRetain), .sc (.bool (A4 d).fHasUser), ss ((A4 d).fUser), .sc (.bool (A4 d).fHasPass), x100, si ((A4 d).fCode), .sc (.bool (A4 d).fPresent), x101, x102, x103]) s105 Is (Ac (Aa rfl (Aa rfl (Aa rfl (Aa rfl (Aa rfl (Aa rfl (Aa lx98 (Aa rfl (Aa rfl (Aa rfl (Aa rfl (Aa rfl (Aa rfl (Aa lx99 (Aa rfl (Aa rfl (Aa rfl (Aa rfl (Aa rfl (Aa lx100 (Aa rfl (Aa rfl (Aa lx101 (Aa lx102 (Aa lx103 rfl)))))))))))))))))))))))))) rfl (Bb rfl) rfl fun H s106 => Ah s106 A7 rfl (Ah s106 (.here) rfl ?_)
 refine Dd (Dq s106 rfl (.agg ⟨_, rfl, rfl⟩ (.sc (.own Ua (.own D9 .nil))) (.agg ⟨_, rfl, rfl⟩ (Hd (.own Yh (Hd (.own zP6 (Mn (.own Oi (.sc (.sc (.own F5 (.own C3 (.own B9 .nil))))))))))) (.sc .nil))) ⟨(Eh ⟨_, rfl, rfl⟩ ⟨trivial, ⟨(At (Cj (x0.fFl.set ((Da (fun y : Ae => y.fId == d) x0.fFl 0)).toNat ({ y95 with fSt := 3 } : Ae))) (by decide)), ⟨(At (D7 x0.fQ) (by decide)), trivial⟩⟩⟩), ⟨(Eh ⟨_, rfl, rfl⟩ (Hf ⟨(At (F4 ((A4 d).fBody)) (by decide)), (Hf ⟨(At (F4 ((A4 d).fWBody)) (by decide)), (Mk ⟨(At (F4 ((A4 d).fPass)) (by decide)), (Ku ⟨(At (Hn ((A4 d).fWants)) (by decide)), ⟨(At (Qh ((A4 d).fNames)) (by decide)), ⟨(At (Qg ((A4 d).fCodes)) (by decide)), trivial⟩⟩⟩)⟩)⟩)⟩)), ⟨trivial, trivial⟩⟩⟩) ?_
 have e : Dj x0 kd d = ((⟨x0.fLast, (x0.fFl.set ((Da (fun y : Ae => y.fId == d) x0.fFl 0)).toNat ({ y95 with fSt := 3 } : Ae)), x0.fQ⟩ : Bm), (A4 d), true) := by
  clear s0 s2 s4 s6 s9 s11 s12 s96 s104 s105 s106
  try simp only [F7] at h13 h14 h18 h64 h90 h91
  rw [← Fh]; unfold Iv
  (repeat' split) <;> first | rfl | (exfalso; omega) | (simp_all; done) | (simp_all; omega)
 ·rw [e]
  first | done | rfl
 refine El h90 (El h90 (F1 h90 (Bt rfl (Ah s12 (.here) rfl (Bq (cs := G4) rfl (Bo (cs' := [si x0.fLast, x7, x8]) s12 F5 (Ac (Aa rfl (Aa lx7 (Aa lx8 rfl)))) rfl (Bb rfl) rfl fun H s107 => Bo (cs' := G4) s107 F5 (Ac rfl) rfl (Bb rfl) rfl fun H s108 => Ah s108 A7 rfl (Ah s108 (.here) rfl (Dd (Dq s108 rfl (.agg ⟨_, rfl, rfl⟩ (.sc (.own F5 (.own C3 .nil))) (.agg ⟨_, rfl, rfl⟩ (Hd (.nl (Hd (.nl (Mn (.nl (.sc (.sc (.nl (.nl (.nl .nil))))))))))) (.sc .nil))) ⟨(Eh ⟨_, rfl, rfl⟩ ⟨trivial, ⟨(At (Cj x0.fFl) (by decide)), ⟨(At (D7 x0.fQ) (by decide)), trivial⟩⟩⟩), ⟨(Eh ⟨_, rfl, rfl⟩ (Hf ⟨Dv, (Hf ⟨Dv, (Mk ⟨Dv, (Ku ⟨Dv, ⟨Dv, ⟨Dv, trivial⟩⟩⟩)⟩)⟩)⟩)), ⟨trivial, trivial⟩⟩⟩) ?_))))))))
 have e : Dj x0 kd d = ((⟨x0.fLast, x0.fFl, x0.fQ⟩ : Bm), G0, false) := by
  clear s0 s2 s4 s6 s9 s11 s12 s107 s108
  try simp only [F7] at h13 h14 h18 h64 h90
  rw [← Fh]; unfold Iv
  (repeat' split) <;> first | rfl | (exfalso; omega) | (simp_all; done) | (simp_all; omega)
 ·rw [e]
  first | done | rfl
 refine El (nT h13) (El (nT h13) (Fe (nT h13) (Co rfl (Ah s12 (.here) rfl (Bq (cs := G4) rfl (Bo (cs' := [si x0.fLast, x7, x8]) s12 F5 (Ac (Aa rfl (Aa lx7 (Aa lx8 rfl)))) rfl (Bb rfl) rfl fun H s109 => Bo (cs' := G4) s109 F5 (Ac rfl) rfl (Bb rfl) rfl fun H s110 => Ah s110 A7 rfl (Ah s110 (.here) rfl (Dd (Dq s110 rfl (.agg ⟨_, rfl, rfl⟩ (.sc (.own F5 (.own C3 .nil))) (.agg ⟨_, rfl, rfl⟩ (Hd (.nl (Hd (.nl (Mn (.nl (.sc (.sc (.nl (.nl (.nl .nil))))))))))) (.sc .nil))) ⟨(Eh ⟨_, rfl, rfl⟩ ⟨trivial, ⟨(At (Cj x0.fFl) (by decide)), ⟨(At (D7 x0.fQ) (by decide)), trivial⟩⟩⟩), ⟨(Eh ⟨_, rfl, rfl⟩ (Hf ⟨Dv, (Hf ⟨Dv, (Mk ⟨Dv, (Ku ⟨Dv, ⟨Dv, ⟨Dv, trivial⟩⟩⟩)⟩)⟩)⟩)), ⟨trivial, trivial⟩⟩⟩) ?_))))))))
 have e : Dj x0 kd d = ((⟨x0.fLast, x0.fFl, x0.fQ⟩ : Bm), G0, false) := by
  clear s0 s2 s4 s6 s9 s11 s12 s109 s110
  try simp only [F7] at h13
  rw [← Fh]; unfold Iv
  (repeat' split) <;> first | rfl | (exfalso; omega) | (simp_all; done) | (simp_all; omega)
 ·rw [e]
  first | done | rfl
def Kf (o : Bm) (kd id : Int) : A5 := (Dj o kd id).2.1
theorem AfC (o : Bm) (kd id : Int) : Pw (Kf o kd id) = 0 := by
 unfold Kf
 rw [← Fh]
 unfold Iv
 have h0 : Pw G0 = 0 := rfl
 (repeat' split) <;> first | exact h0 | exact Ajo 6 id
end
section
open Go
def M8 (q : List Ch) (m : Ch) : List Ch := if (Eo q && C9 m) = true ∧ q.length < 6 then q ++ [m] else q
def Jk (q : List Ch) (m : Ch) : Int := if (Eo q && C9 m) = true then (if q.length < 6 then 0 else if m.fQos == 0 then 1 else 2) else 2
theorem Abf {ty : Nat} {H : Ab} {ts : List Nat} {raw cells : List AV} {ids : List Nat} (hts : E0.tp ty = some ts) (h : Cp (B7 Ap E0.tp H 7) ts raw = some (cells, ids)) (hn : ids.Nodup) : Be Ap E0.tp ty H (.tup raw) = some (.tup cells) := by
 rw [Be, Gc, hts, zab, h, zab, zab, if_pos hn]
theorem Ac3 {α : Type} {H : Ab} {w tyS : Nat} {cty : List Nat} {enc : α → List AV} (hw : ∀ x, (enc x).length = w) (hty : ∃ i j, Ap tyS = some i ∧ Ap i.elem = some j ∧ j.size = w ∧ j.cty = cty) (hc : cty.length = w) (hok : ∀ x, E5 (He Ap E0.tp 6) cty (enc x)) (l : List α) :
  OwnS 6 (H ++ (Br Ap E0.tp H.length tyS (Al enc l)).2) w cty (Br Ap E0.tp H.length tyS (Al enc l)).1 l.length (l.map enc).flatten := by
 obtain ⟨i, j, h1, h2, rfl, rfl⟩ := hty
 have hi : Br Ap E0.tp H.length tyS (Al enc l) = (.sl H.length 0 l.length j.size, ⟨(Bu Ap E0.tp (H.length + 1) (zad l.length j.cty).flatten (l.map enc).flatten).1, true, true⟩ :: (Bu Ap E0.tp (H.length + 1) (zad l.length j.cty).flatten (l.map enc).flatten).2) := by
  show Br Ap E0.tp H.length tyS (.ro l.length (l.map enc).flatten) = _
  simp only [Br, h1, zab, h2, zaA]
 rw [hi]
 simp only
 generalize hQ : Bu Ap E0.tp (H.length + 1) (zad l.length j.cty).flatten (l.map enc).flatten = Q
 have lQ : Lies (H ++ ⟨Q.1, true, true⟩ :: Q.2) (H.length + 1) Q.2 := by
  have := Jc (H ++ [⟨Q.1, true, true⟩]) Q.2
  rw [zag, zap, zak] at this
  exact this
 have ho : OwnC 6 (H ++ ⟨Q.1, true, true⟩ :: Q.2) (zad l.length j.cty).flatten Q.1 (l.map enc).flatten (zbg (H.length + 1) Q.2.length) := by
  have := I5 (H := H ++ ⟨Q.1, true, true⟩ :: Q.2) (fun ty t N h h' _ => Ge 6 ty t N h h') (zad l.length j.cty).flatten (l.map enc).flatten (H.length + 1) (Lg l fun x _ => hok x) (by rw [hQ]; exact lQ) (Fc _ _ _)
  rw [hQ] at this
  exact this
 refine .inr ⟨H.length, Q.1, _, rfl, Kx _ _ _, by rw [← hQ, Jv, Fg hw], ho, ?_⟩
 rw [zaF]
 refine ⟨fun hm => ?_, zaS⟩
 rw [zaJ] at hm
 omega
theorem Afh {H : Ab} {tyT : Nat} {k : Nat} {x : AV} {cells : List AV} {c : Int} (hts : E0.tp tyT = some [25, 3]) (h : OwnS 6 H 4 Ej x k cells) : Be Ap E0.tp tyT H (.tup [x, .sc (.int .i64 c)]) = some (.tup [.ro k cells, .sc (.int .i64 c)]) := by
 obtain ⟨ids, ho, hno⟩ := Rx (d := 6) (tyS := 25) K1 h
 refine Abf hts (ids := ids) ?_ hno
 simp only [Cp, ho, Ja, zab, zam]
theorem Aae (n : Nat) (hn : 1048576 < n) (x0 : List Ch) (x1 : Ch) (k0 : x0.length ≤ 9223372036854775807 ∧ ∀ z ∈ x0, De z) (k1 : De x1) (b0 : F6 Bv x0 ≤ 1048576) (b1 : Bv x1 ≤ 1048576) : Ct E0 (n + 8) 90 68 [Al Ak x0, .agg (Ak x1)] = some (.tup [Al Ak (M8 x0 x1), .sc (.int .i64 (Jk x0 x1))]) := by
 obtain ⟨hlen, htop⟩ := U5 x0 b0
 have hsm := (Aji Ya V4 x0 b0).2
 have hs : ∀ x ∈ x0, x.fBody.size ≤ 1048576 := fun x hx => (hsm x hx).1
 have hm : x1.fBody.size ≤ 1048576 := (V4 x1 b1).1
 have ht : x1.fTopic.size ≤ 1048576 := by unfold Bv at b1; omega
 rw [A2, Ai1, f68]
 simp only [Dh, Fn, B3, Pr.gT, Pr.gF, Pr.hT, Pr.hF, Pr.kT, Pr.kF, Bn, Ci, Ay, B0, Bf, B8, Bw, Bx, C6]
 refine Kg (Fu _) fun i e hi => ?_
 rw [Gk (vs := [Al Ak x0]) rfl (Bk (Ei _ _ _) Dw) (O3 (n + 4) (by omega) x0 hlen hs)]
 have hO := Ac3 (H := [] ++ [⟨Ak x1, true, true⟩]) Eb K1 rfl (Io 4) x0
 replace hi := Jd hi (Br Ap E0.tp ([] ++ [⟨Ak x1, true, true⟩] : Ab).length 25 (Al Ak x0)).2
 generalize (Br Ap E0.tp ([] ++ [⟨Ak x1, true, true⟩] : Ab).length 25 (Al Ak x0)).1 = y at hO ⊢
 generalize ([] ++ [⟨Ak x1, true, true⟩] ++ (Br Ap E0.tp ([] ++ [⟨Ak x1, true, true⟩] : Ab).length 25 (Al Ak x0)).2 : Ab) = G at hO hi ⊢
 refine Dk rfl (Bk (Ei _ _ _) Dw) (Tu n hn _ x0 hlen htop) (H0 ?_)
 cases hq : Eo x0
 refine Df rfl (Df rfl (Df rfl (Qu rfl (Fq rfl ?_))))
 have e1 : M8 x0 x1 = x0 := by simp [M8, hq]
 have e2 : Jk x0 x1 = 2 := by simp [Jk, hq]
 rw [e1, e2]
 exact Afh rfl hO
 refine C5 rfl (S6 hi (Eb _) (C5 rfl (Dk rfl (Bk (Gr _ (Fu _)) Dw) (Tr (n + 1) (by omega) _ x1 ht) (C5 rfl (H0 (Rm rfl ?_))))))
 cases hmk : C9 x1
 refine Fq rfl ?_
 have e1 : M8 x0 x1 = x0 := by simp [M8, hq, hmk]
 have e2 : Jk x0 x1 = 2 := by simp [Jk, hq, hmk]
 rw [e1, e2]
 exact Afh rfl hO
 refine F2 rfl (Do (A1 (v := sb ((x0.length : Int) == 6)) (fun k => rfl) ?_))
 have hl6 : x0.length ≤ 6 := by
  unfold Eo at hq
  simp at hq
  omega
 by_cases h6 : x0.length = 6
 refine Fq (by simp [h6]) (Ai (Bj (c := .sc (.int .i64 x1.fQos)) hi (Bb rfl) rfl (A1 (v := .sc (.bool (x1.fQos == 0))) (fun k => rfl) ?_)))
 have e1 : M8 x0 x1 = x0 := by simp [M8, h6]
 rw [e1]
 cases hz : (x1.fQos == 0)
 refine F2 rfl ?_
 have e2 : Jk x0 x1 = 2 := by simp [Jk, h6, hq, hmk, hz]
 rw [e2]
 exact Afh rfl hO
 refine Fq rfl ?_
 have e2 : Jk x0 x1 = 1 := by simp [Jk, h6, hq, hmk, hz]
 rw [e2]
 exact Afh rfl hO
 refine F2 (by simp; omega) (S6 hi (Eb _) ?_)
 have e1 : M8 x0 x1 = x0 ++ [x1] := by simp [M8, hq, hmk]; omega
 have e2 : Jk x0 x1 = 0 := by simp [Jk, hq, hmk]; omega
 rw [e1, e2]
 have hst := fun K h => P2 (β := AV) (n := n + 7) (X0 := []) (bytes := 56) (z := Fa) (K := K) (r := some (.tup [Al Ak (x0 ++ [x1]), i0])) hO rfl (Bk (Gr _ (Fu x1)) Dw) (Ru (n + 6) x1 hm) Pt (Io 4 x1) (Fu x1) (Eb x1) rfl (by omega) h
 simp only [zam] at hst
 refine hst _ fun x' H' hx' => ?_
 have := Afh (tyT := 90) (c := 0) rfl hx'
 rw [show Al Ak (x0 ++ [x1]) = .ro (x0.length + 1) ((x0.map Ak).flatten ++ Ak x1) by
  show AV.ro _ _ = _
  simp]
 exact this
end
section
open Go
theorem Zw {y : AV} (hl : Ar y = true) : Cz y = some [y] := by
 cases y <;> first | (simp [Ar] at hl; done) | (simp only [Cz, hl, if_true]) | rfl
theorem AcS {v : Value} {x z : AV} (hv : Ar (.sc v) = true) (hx : Ar x = true) (hz : Ar z = true) : Cz (.agg [.sc v, x, z]) = some [.sc v, x, z] := by
 show (if (Ar (.sc v) && (Ar x && (Ar z && true))) = true then _ else none) = _
 rw [hv, hx, hz]
 rfl
theorem AaV {H : Ab} {i6 : Nat} {o : Bm} {q' : List Ch} {x z : AV} {ids1 ids2 : List Nat} {c : Int} (h6 : H[i6]? = some ⟨[.sc (.int .i64 o.fLast), x, z], true, true⟩) (h2 : H[2]? = some ⟨Cv, true, true⟩) (lx : Ar x = true) (lz : Ar z = true)
  (ox : B7 Ap E0.tp H 6 24 x = some (Al Aq o.fFl, ids1)) (oz : B7 Ap E0.tp H 6 25 z = some (Al Ak q', ids2)) (hn : (ids1 ++ ids2).Nodup) (n1 : 2 ∉ ids1) (n2 : 2 ∉ ids2) :
  (Cs true 3 (.ptr i6 0) H fun t => Ev 3 (.ptr 2 0) t H fun H => Cs true 3 (.ptr 2 0) H fun r0 => Be Ap E0.tp 49 H (Cy [r0, si c])) = some (.tup [.agg (Bl { o with fQ := q' }), si c]) := by
 have l2 : 2 < H.length := (zac.1 h2).1
 refine Iw (ds := [si o.fLast, x, z]) h6 (Bb rfl) rfl ?_
 rw [Hq 3 2 0 _ ⟨Cv, true, true⟩ [.sc (.int .i64 o.fLast), x, z] H _ h2 (AcS rfl lx lz) rfl (Bb rfl) rfl]
 refine Iw (ds := [.sc (.int .i64 o.fLast), x, z]) (cs := [.sc (.int .i64 o.fLast), x, z]) (by rw [zaR l2]; rfl) (Bb rfl) rfl ?_
 generalize hb : (⟨Cf Cv 0 [si o.fLast, x, z], true, true⟩ : Hr) = b
 have e1 := Dg (H' := H.set 2 b) 6 _ _ _ ox fun i hi => by rw [za0 (fun (e : 2 = i) => n1 (e ▸ hi))]
 have e2 := Dg (H' := H.set 2 b) 6 _ _ _ oz fun i hi => by rw [za0 (fun (e : 2 = i) => n2 (e ▸ hi))]
 obtain ⟨i, hi, hcy⟩ := Afy
 have e3 : B7 Ap E0.tp (H.set 2 b) 7 27 (.agg [si o.fLast, x, z]) = some (.agg (Bl { o with fQ := q' }), ids1 ++ ids2) := by
  rw [Ff, hi, zab, hcy]
  simp only [R9, Cp, Ja, e1, e2, zab, zae, zam]
  rfl
 have e4 : Cp (B7 Ap E0.tp (H.set 2 b) 7) [27, 3] [.agg [si o.fLast, x, z], si c] = some ([.agg (Bl { o with fQ := q' }), si c], ids1 ++ ids2) := by
  simp only [Cp, e3, Ja, zab, zam]
 exact Abf rfl e4 hn
theorem AeW (N : Nat) (o : Bm) : Bu Ap E0.tp N R9 (Bl o) = ([.sc (.int .i64 o.fLast), (Br Ap E0.tp N 24 (Al Aq o.fFl)).1, (Br Ap E0.tp (N + (Br Ap E0.tp N 24 (Al Aq o.fFl)).2.length) 25 (Al Ak o.fQ)).1], (Br Ap E0.tp N 24 (Al Aq o.fFl)).2 ++ (Br Ap E0.tp (N + (Br Ap E0.tp N 24 (Al Aq o.fFl)).2.length) 25 (Al Ak o.fQ)).2) := by
 show Bu Ap E0.tp N [3, 24, 25] [.sc (.int .i64 o.fLast), Al Aq o.fFl, Al Ak o.fQ] = _
 simp only [Bu, zb3, zb8, Hy, zau, zbf, zae, zam]
theorem Acs (N : Nat) (q : List Ch) (c : Int) : Br Ap E0.tp N 90 (.tup [Al Ak q, .sc (.int .i64 c)]) = (.tup [(Br Ap E0.tp N 25 (Al Ak q)).1, .sc (.int .i64 c)], (Br Ap E0.tp N 25 (Al Ak q)).2) := by
 rw [Qa, show E0.tp 90 = some [25, 3] from rfl, zaA]
 simp only [Bu, zb3, zb8, Hy, zam]
theorem Ld {α : Type} (N ty : Nat) (enc : α → List AV) (l : List α) : Ar (Br Ap E0.tp N ty (Al enc l)).1 = true := rfl
theorem AgT {n gC : Nat} {o : Bm} {m : Ch} {K : AV → AV → AV → AV → Ab → Option AV} {r : Option AV} (hC : Gg gC = false) (tC : Ct E0 n 27 gC [.agg (Bl o)] = some (.agg (Bl o)))
  (h : ∀ (X Q : AV × List Hr), Br Ap E0.tp 3 24 (Al Aq o.fFl) = X → Br Ap E0.tp (3 + X.2.length) 25 (Al Ak o.fQ) = Q → K (.ptr 0 0) (.ptr 1 0) (.ptr 2 0) (.ptr (3 + (X.2.length + Q.2.length)) 0) ([⟨Bl o, true, true⟩, ⟨Ak m, true, true⟩, ⟨Cv, true, true⟩] ++ (X.2 ++ Q.2) ++ [⟨[si o.fLast, X.1, Q.1], true, true⟩]) = r) :
  (Pf (.agg (Bl o)) [] fun t2 H => Pf (.agg (Ak m)) H fun t3 H => Kj [i0, .nl, .nl] H fun t4 H => Cs true 3 t2 H fun t9 => (PR n AV).call 27 (.fn gC [] []) [t9] H fun t10 H => Kj [i0, .nl, .nl] H fun t6 H => Ev 3 t6 t10 H fun H => K t2 t3 t4 t6 H) = r := by
 rw [N3 _ _ _ (Hg o), N3 _ _ _ (Fu m)]
 simp only [Kj, zau, zae, zat, zaw, zag, zao]
 refine Iw (ds := Bl o) (cs := Bl o) rfl (Bb rfl) rfl ?_
 rw [Gk hC (Bk (Gr _ (Hg _)) Dw) tC]
 obtain ⟨i, hi, hc⟩ := Afy
 rw [Ia, hi, zaA, hc, AeW]
 have hlX := Ld 3 24 Aq o.fFl
 generalize hX : Br Ap E0.tp 3 24 (Al Aq o.fFl) = X at hlX
 have hlQ := Ld (3 + X.2.length) 25 Ak o.fQ
 generalize hQ : Br Ap E0.tp (3 + X.2.length) 25 (Al Ak o.fQ) = Q at hlQ
 have hX' : Br Ap E0.tp ([⟨Bl o, true, true⟩, ⟨Ak m, true, true⟩, ⟨[i0, .nl, .nl], true, true⟩] : Ab).length 24 (Al Aq o.fFl) = X := hX
 have hQ' : Br Ap E0.tp (([⟨Bl o, true, true⟩, ⟨Ak m, true, true⟩, ⟨[i0, .nl, .nl], true, true⟩] : Ab).length + X.2.length) 25 (Al Ak o.fQ) = Q := hQ
 have hh := h X Q hX hQ
 simp only [hX', hQ']
 generalize hb0 : (⟨Bl o, true, true⟩ : Hr) = b0 at hh ⊢
 generalize hb1 : (⟨Ak m, true, true⟩ : Hr) = b1 at hh ⊢
 have hN : ([b0, b1, ⟨Cv, true, true⟩] ++ (X.2 ++ Q.2) : Ab).length = 3 + (X.2.length + Q.2.length) := by simp; omega
 have hg : ([b0, b1, ⟨Cv, true, true⟩] ++ (X.2 ++ Q.2) ++ [⟨Cv, true, true⟩] : Ab)[3 + (X.2.length + Q.2.length)]? = some ⟨Cv, true, true⟩ := by
  rw [← hN]
  exact Kx _ _ []
 have hs : ([b0, b1, ⟨Cv, true, true⟩] ++ (X.2 ++ Q.2) ++ [⟨Cv, true, true⟩] : Ab).set (3 + (X.2.length + Q.2.length)) ⟨Cf Cv 0 [si o.fLast, X.1, Q.1], true, true⟩ = [b0, b1, ⟨Cv, true, true⟩] ++ (X.2 ++ Q.2) ++ [⟨[si o.fLast, X.1, Q.1], true, true⟩] := by
  rw [← hN]
  exact Aac _ _ _ []
 have hst := Hq (β := AV) 3 (3 + (X.2.length + Q.2.length)) 0 (.agg [si o.fLast, X.1, Q.1]) ⟨Cv, true, true⟩ [si o.fLast, X.1, Q.1] ([b0, b1, ⟨Cv, true, true⟩] ++ (X.2 ++ Q.2) ++ [⟨Cv, true, true⟩]) (fun H => K (.ptr 0 0) (.ptr 1 0) (.ptr 2 0) (.ptr (3 + (X.2.length + Q.2.length)) 0) H) hg (AcS rfl hlX hlQ) rfl (Bb rfl) rfl
 rw [hs] at hst
 have e : Ev 3 (.ptr ([b0, b1, ⟨Cv, true, true⟩] ++ (X.2 ++ Q.2) : Ab).length 0) (.agg [si o.fLast, X.1, Q.1]) ([b0, b1, ⟨Cv, true, true⟩] ++ (X.2 ++ Q.2) ++ [⟨Cv, true, true⟩]) (fun H => K (.ptr 0 0) (.ptr 1 0) (.ptr 2 0) (.ptr ([b0, b1, ⟨Cv, true, true⟩] ++ (X.2 ++ Q.2) : Ab).length 0) H) = r := by
  rw [hN]
  exact hst.trans hh
 exact e
theorem Xt {n gC gO gP : Nat} {o : Bm} {m : Ch} {q' : List Ch} {c : Int} {ok : Bool} (hC : Gg gC = false) (hO : Gg gO = false) (hP : Gg gP = false) (tC : Ct E0 n 27 gC [.agg (Bl o)] = some (.agg (Bl o)))
  (tO : Ct E0 n 4 gO [.agg (Bl o)] = some (sb ok)) (tP : Ct E0 n 90 gP [Al Ak o.fQ, .agg (Ak m)] = some (.tup [Al Ak q', si c])) :
  (Pf (.agg (Bl o)) [] fun t2 H => Pf (.agg (Ak m)) H fun t3 H => Kj [i0, .nl, .nl] H fun t4 H => Cs true 3 t2 H fun t9 => (PR n AV).call 27 (.fn gC [] []) [t9] H fun t10 H => Kj [i0, .nl, .nl] H fun t6 H => Ev 3 t6 t10 H fun H => Cs true 3 t2 H fun t11 => (PR n AV).call 4 (.fn gO [] []) [t11] H fun t12 H => pUn .not t12 fun t13 => Hm t13
   (Cs true 3 t6 H fun t14 => Ev 3 t4 t14 H fun H => Cs true 3 t4 H fun r0 => Be Ap E0.tp 49 H (Cy [r0, si 2]))
   (Er 2 t2 fun t16 => Cs false 1 t16 H fun t17 => Cs true 4 t3 H fun t18 => (PR n AV).call 90 (.fn gP [] []) [t17, t18] H fun t19 H => Pg t19 0 fun t20 => Pg t19 1 fun t21 => Er 2 t6 fun t23 => Ev 1 t23 t20 H fun H => Cs true 3 t6 H fun t24 => Ev 3 t4 t24 H fun H => Cs true 3 t4 H fun r0 => Be Ap E0.tp 49 H (Cy [r0, t21]))) =
  some (.tup [.agg (Bl (if ok then { o with fQ := q' } else o)), si (if ok then c else 2)]) := by
 refine AgT hC tC fun X Q hX hQ => ?_
 have hlX : Ar X.1 = true := by rw [← hX]; exact Ld _ _ _ _
 have hlQ : Ar Q.1 = true := by rw [← hQ]; exact Ld _ _ _ _
 generalize hb0 : (⟨Bl o, true, true⟩ : Hr) = b0
 generalize hb1 : (⟨Ak m, true, true⟩ : Hr) = b1
 have hN : ([b0, b1, ⟨Cv, true, true⟩] ++ (X.2 ++ Q.2) : Ab).length = 3 + (X.2.length + Q.2.length) := by simp; omega
 have own1 : ∀ R : Ab, B7 Ap E0.tp ([b0, b1, ⟨Cv, true, true⟩] ++ (X.2 ++ Q.2) ++ R) 6 24 X.1 = some (Al Aq o.fFl, zbg 3 X.2.length) := by
  intro R
  rw [← hX]
  refine Ge 6 _ _ 3 (Ip (d := 5) Ba U9 (Qi 3) o.fFl) ?_
  rw [hX]
  have := Nb [b0, b1, ⟨Cv, true, true⟩] X.2 (Q.2 ++ R)
  rw [zak] at this
  rw [zak, zak]
  exact this
 have own2' : ∀ R : Ab, B7 Ap E0.tp ([b0, b1, ⟨Cv, true, true⟩] ++ (X.2 ++ Q.2) ++ R) 6 25 Q.1 = some (Al Ak o.fQ, zbg (3 + X.2.length) Q.2.length) := by
  intro R
  rw [← hQ]
  refine Ge 6 _ _ (3 + X.2.length) (Ip (d := 5) Eb K1 (Io 3) o.fQ) ?_
  rw [hQ]
  have := Nb ([b0, b1, ⟨Cv, true, true⟩] ++ X.2) Q.2 R
  rw [zag, zak [b0, b1, ⟨Cv, true, true⟩] X.2 Q.2] at this
  exact this
 have g0 : ∀ R : Ab, ([b0, b1, ⟨Cv, true, true⟩] ++ (X.2 ++ Q.2) ++ R : Ab)[0]? = some ⟨Bl o, true, true⟩ := fun R => by rw [hb0]; rfl
 have g1 : ∀ R : Ab, ([b0, b1, ⟨Cv, true, true⟩] ++ (X.2 ++ Q.2) ++ R : Ab)[1]? = some ⟨Ak m, true, true⟩ := fun R => by rw [hb1]; rfl
 have g2 : ∀ R : Ab, ([b0, b1, ⟨Cv, true, true⟩] ++ (X.2 ++ Q.2) ++ R : Ab)[2]? = some ⟨Cv, true, true⟩ := fun R => rfl
 generalize hA : ([b0, b1, ⟨Cv, true, true⟩] ++ (X.2 ++ Q.2) : Ab) = A at hN own1 own2' g0 g1 g2 ⊢
 refine S6 (g0 _) (AiV _) (Dk hO (Bk (Gr _ (Hg _)) Dw) tO (H0 ?_))
 cases ok
 refine Fq rfl (AaV (q' := o.fQ) (by rw [← hN]; exact Kx A _ []) (g2 _) hlX hlQ (own1 _) (own2' _) ?_ ?_ ?_)
 have := List.range'_append (s := 3) (m := X.2.length) (n := Q.2.length) (step := 1)
 rw [zbt] at this
 rw [this]
 exact zaS
 rw [zaJ]; omega
 rw [zaJ]; omega
 refine F2 rfl (Ai (Bj (c := Al Ak o.fQ) (g0 _) (Bb rfl) rfl (S6 (g1 _) (Eb _) ?_)))
 rw [Gk hP (Bk (Ei _ _ _) (Bk (Gr _ (Fu _)) Dw)) tP, Acs]
 have hlP := Ld (A ++ [⟨[si o.fLast, X.1, Q.1], true, true⟩] : Ab).length 25 Ak q'
 generalize hP : Br Ap E0.tp (A ++ [⟨[si o.fLast, X.1, Q.1], true, true⟩] : Ab).length 25 (Al Ak q') = P at hlP
 refine Kh (x := P.1) rfl (Kh (x := si c) rfl (Ai ?_))
 have hg : (A ++ [⟨[si o.fLast, X.1, Q.1], true, true⟩] ++ P.2 : Ab)[3 + (X.2.length + Q.2.length)]? = some ⟨[si o.fLast, X.1, Q.1], true, true⟩ := by
  rw [← hN, zak]
  exact Kx A _ P.2
 rw [Hq 1 (3 + (X.2.length + Q.2.length)) (0 + 2) P.1 _ [P.1] _ _ hg (Zw hlP) rfl (Bb rfl) rfl]
 have hs : (A ++ [⟨[si o.fLast, X.1, Q.1], true, true⟩] ++ P.2 : Ab).set (3 + (X.2.length + Q.2.length)) ⟨Cf [si o.fLast, X.1, Q.1] (0 + 2) [P.1], true, true⟩ = A ++ (⟨[si o.fLast, X.1, P.1], true, true⟩ :: P.2) := by
  rw [← hN, zak]
  exact Aac A _ _ P.2
 rw [hs]
 have oP : B7 Ap E0.tp (A ++ (⟨[si o.fLast, X.1, P.1], true, true⟩ :: P.2)) 6 25 P.1 = some (Al Ak q', zbg (A.length + 1) P.2.length) := by
  have hP2 : Br Ap E0.tp (A.length + 1) 25 (Al Ak q') = P := by
   rw [← hP, zag, zap]
  rw [← hP2]
  refine Ge 6 _ _ (A.length + 1) (Ip (d := 5) Eb K1 (Io 3) q') ?_
  rw [hP2]
  have := Jc (A ++ [⟨[si o.fLast, X.1, P.1], true, true⟩]) P.2
  rw [zag, zap, zak] at this
  exact this
 refine AaV (q' := q') (by rw [← hN]; exact Kx A _ P.2) (g2 _) hlX hlP (own1 _) oP ?_ ?_ ?_
 rw [zaO]
 refine ⟨zaS, zaS, fun a ha b hb => ?_⟩
 rw [zaJ] at ha hb
 omega
 rw [zaJ]; omega
 rw [zaJ]; omega
def En (o : Bm) (m : Ch) : Bm := if Dt o then { o with fQ := M8 o.fQ m } else o
def Qt (o : Bm) (m : Ch) : Int := if Dt o then Jk o.fQ m else 2
theorem Ali (o : Bm) (h : Gf o ≤ 1048576) : Og o := by
 have h1 := Aad o h
 exact ⟨⟨h1.1.1, fun y hy => (h1.1.2 y hy).1⟩, ⟨h1.2.1.1, fun y hy => (h1.2.1.2 y hy).1⟩⟩
theorem N0 (n : Nat) (hn : 1048576 < n) (x0 : Bm) (x1 : Ch) (k0 : O8 x0) (k1 : De x1) (b0 : Gf x0 ≤ 1048576) (b1 : Bv x1 ≤ 1048576) : Ct E0 (n + 11) 49 19 [.agg (Bl x0), .agg (Ak x1)] = some (.tup [.agg (Bl (En x0 x1)), .sc (.int .i64 (Qt x0 x1))]) := by
 rw [A2, Aia, f19]
 simp only [Dh, C1, Bn, Bs, B8, Fn, Ay, Lo]
 exact Xt rfl rfl rfl (Sz (n + 6) (by omega) x0 (Ali x0 b0)) (Po n hn _ x0 b0) (Aae (n + 2) (by omega) x0.fQ x1 k0.2.2 k1 (by unfold Gf at b0; omega) b1)
end
section
open Go
section
variable {β : Type} {n : Nat} {H : Ab} {L L' L1 L2 : List Ck} {G : Option β → Prop} {K : AV → Option β} {KH : KO β}
theorem Aje {cty : List Nat} {m i : Nat} (hi : i < m) : (zad m cty).flatten = (zad i cty).flatten ++ (cty ++ (zad (m - i - 1) cty).flatten) := by
 rw [show (zad m cty) = zad i cty ++ (cty :: zad (m - i - 1) cty) from by
  rw [← zbN, zaE]
  congr 1
  omega]
 simp
theorem Abd {α : Type} {enc : α → List AV} {l : List α} {i : Nat} {y : α} (hy : l[i]? = some y) : (l.map enc).flatten = ((l.take i).map enc).flatten ++ (enc y ++ ((l.drop (i + 1)).map enc).flatten) := by
 have h := (zac.1 hy)
 obtain ⟨h1, h2⟩ := h
 have e : l = l.take i ++ y :: l.drop (i + 1) := by
  rw [← h2, List.getElem_cons_drop, zaU]
 have e2 : l.map enc = (l.take i).map enc ++ (enc y :: (l.drop (i + 1)).map enc) := by
  rw [← zax, ← za6, ← e]
 rw [e2]
 simp
theorem AkR {l : List AV} {a b : Nat} (h : a + b ≤ l.length) : l = l.take a ++ ((l.drop a).take b ++ l.drop (a + b)) := by
 rw [← zba, zaU, zaU]
theorem AcE {c ds : List AV} {off p m : Nat} (h : p + ds.length ≤ m) (hm : off + m ≤ c.length) : ((Cf c (off + p) ds).drop off).take m = ((c.drop off).take m).take p ++ (ds ++ (((c.drop off).take m).drop p).drop ds.length) := by
 have h1 : Cf c (off + p) ds = c.take off ++ ((c.drop off).take p ++ (ds ++ c.drop (off + p + ds.length))) := by
  unfold Cf
  rw [List.take_add]
  simp only [zak]
 rw [h1, zbQ (by rw [zaB]; omega), List.take_append, List.take_append]
 have l1 : ((c.drop off).take p).length = p := by rw [zaB, zaC]; omega
 rw [zbn (by rw [l1]; omega : ((c.drop off).take p).length ≤ m), l1, zbn (l := ds) (i := m - p) (by omega), zbK, zaM (by omega), zba, zbJ, zba]
 rw [show m - p - ds.length = m - (p + ds.length) by omega, show off + p + ds.length = off + (p + ds.length) by omega]
theorem AeG {α : Type} {enc : α → List AV} {w ty k v : Nat} {cty : List Nat} {x yv : AV} {l : List α} {y y' : α} {i : Int} {ds cm : List AV} {KS : Ab → Option β} (hs : Sep H L) (hty : ∃ i j, Ap ty = some i ∧ Ap i.elem = some j ∧ j.size = w ∧ j.cty = cty) (hc : cty.length = w) (hp : Pk L (.own x ty (Al enc l)) L1)
  (hr : OwnR L1 ds ((cty.drop k).take v) cm L2) (hok : E5 (He Ap E0.tp 5) ((cty.drop k).take v) cm) (hi : 0 ≤ i) (hy : l[i.toNat]? = some y) (hw : ∀ x, (enc x).length = w) (hk : k + v ≤ w) (hyv : Cz yv = some ds) (hdl : ds.length = v) (hcl : cm.length = v) (he : enc y' = Cf (enc y) k cm)
  (h : ∀ H', Sep H' (.own x ty (Al enc (l.set i.toNat y')) :: L2) → Gd G (KS H')) : Gd G (Es w x (si i) fun t => Er k t fun t => Ev v t yv H fun H => KS H) := by
 obtain ⟨ti, tj, e1, e2, rfl, rfl⟩ := hty
 obtain ⟨I, ⟨J, R, rfl, ⟨hlf, hok1, e⟩, h2⟩, h3⟩ := hs.pick hp
 have hlt : i.toNat < l.length := (zac.1 hy).1
 rcases Kt e1 e2 e with ⟨rfl, h0, _, _⟩ | ⟨id, off, raw, J', b, rfl, rfl, hb, hlv, ha, h4, h5⟩
 omega
 obtain ⟨hl4, b', hb', _, hle, hcs⟩ := Ha h4
 rw [hb] at hb'
 cases hb'
 have hm : (i.toNat + 1) * tj.size ≤ l.length * tj.size := za8 _ hlt
 rw [zaP, zbt] at hm
 have hlc : ((l.map enc).flatten).length = l.length * tj.size := Fg hw l
 have hid : id < H.length := (zac.1 hb).1
 refine Ox hi (by omega) (Aj (o' := off + (i.toNat * tj.size + k)) (by omega) ?_)
 have hst := Hq v id (off + (i.toNat * tj.size + k)) yv b ds H (fun H => KS H) hb hyv hdl (by omega) hlv
 refine D3 hst (h _ ?_)
 generalize hT1 : (zad i.toNat tj.cty).flatten ++ tj.cty.take k = T1
 generalize hT3 : tj.cty.drop (k + v) ++ (zad (l.length - i.toNat - 1) tj.cty).flatten = T3
 have hT : (zad l.length tj.cty).flatten = T1 ++ ((tj.cty.drop k).take v ++ T3) := by
  rw [Aje hlt, ← hT1, ← hT3]
  have : tj.cty = tj.cty.take k ++ ((tj.cty.drop k).take v ++ tj.cty.drop (k + v)) := by rw [← zba, zaU, zaU]
  conv => lhs; rw [show tj.cty ++ (zad (l.length - i.toNat - 1) tj.cty).flatten = (tj.cty.take k ++ ((tj.cty.drop k).take v ++ tj.cty.drop (k + v))) ++ (zad (l.length - i.toNat - 1) tj.cty).flatten by rw [← this]]
  simp only [zak]
 have hT1l : T1.length = i.toNat * tj.size + k := by rw [← hT1]; simp [hc]; omega
 have hT2l : ((tj.cty.drop k).take v).length = v := by simp [hc]; omega
 generalize hA : ((l.take i.toNat).map enc).flatten ++ (enc y).take k = A
 generalize hD : (enc y).drop (k + v) ++ ((l.drop (i.toNat + 1)).map enc).flatten = D
 have hC : (l.map enc).flatten = A ++ (((enc y).drop k).take v ++ D) := by
  rw [Abd hy, ← hA, ← hD]
  have : enc y = (enc y).take k ++ (((enc y).drop k).take v ++ (enc y).drop (k + v)) := AkR (by rw [hw]; exact hk)
  conv => lhs; rw [show enc y ++ ((l.drop (i.toNat + 1)).map enc).flatten = ((enc y).take k ++ (((enc y).drop k).take v ++ (enc y).drop (k + v))) ++ ((l.drop (i.toNat + 1)).map enc).flatten by rw [← this]]
  simp only [zak]
 have hAl : A.length = i.toNat * tj.size + k := by
  rw [← hA, zag, Fg hw, zaB, zaB, hw]
  rw [zaM (by omega), zaM (by omega)]
 have hBl : (((enc y).drop k).take v).length = v := by rw [zaB, zaC, hw]; omega
 have hC2 : ((l.set i.toNat y').map enc).flatten = A ++ (cm ++ D) := by
  have hy' : (l.set i.toNat y')[i.toNat]? = some y' := by rw [zaR hlt]
  rw [Abd hy', ← hA, ← hD, he, List.take_set_of_le (zal _), List.drop_set_of_lt (Nat.lt_succ_self _)]
  unfold Cf
  rw [hcl]
  simp only [zak]
 rw [hT, hC] at h5
 have hrl : raw.length = l.length * tj.size := hl4
 obtain ⟨IA, IX, q1, q2, rfl⟩ := Jf h5 (by rw [hT1l]; omega)
 obtain ⟨IB, ID, q3, q4, rfl⟩ := Jf q2 (by rw [hT2l, zaC, hT1l]; omega)
 rw [hT1l] at q1 q3 q4
 rw [hT2l] at q3 q4
 rw [show (A ++ (((enc y).drop k).take v ++ D)).take (i.toNat * tj.size + k) = A by rw [← hAl]; simp] at q1
 rw [show ((A ++ (((enc y).drop k).take v ++ D)).drop (i.toNat * tj.size + k)).drop v = D by
  rw [← hAl, zbQ rfl]
  exact zbQ hBl] at q4
 have hn1 := zaF.1 (show (id :: (IA ++ (IB ++ ID) ++ R)).Nodup from h3)
 generalize hH : H.set id { b with cells := Cf b.cells (off + (i.toNat * tj.size + k)) ds } = H'
 have hfr : ∀ z, z ≠ id → H'[z]? = H[z]? := fun z hz => by rw [← hH, za0 (fun e => hz e.symm)]
 have hRf : SepI H' L1 R := h2.frame fun z hz => hfr z (fun e => hn1.1 (e ▸ zar _ hz))
 obtain ⟨JM, R', g1, g2, g3⟩ := hr.sound hRf 5 hok
 have q1' := Em (f' := B7 Ap E0.tp H' 5) (fun t x a h hi => Dg 5 t x a h fun z hz => hfr z (fun e => hn1.1 (e ▸ zas _ (zas _ (hi z hz))))) q1
 have q4' := Em (f' := B7 Ap E0.tp H' 5) (fun t x a h hi => Dg 5 t x a h fun z hz => hfr z (fun e => hn1.1 (e ▸ zas _ (zar _ (zar _ (hi z hz)))))) q4
 have h7 := Ib q1' (Ib g1 q4')
 have hnd : (id :: (IA ++ (JM ++ ID)) ++ R').Nodup := by
  have h4' := (zb6.append_left (id :: (IA ++ (IB ++ ID))) g3).nodup h3
  have hpm : (id :: (IA ++ (IB ++ ID)) ++ (JM ++ R')).Perm (IB ++ (id :: (IA ++ (JM ++ ID)) ++ R')) := by
   rw [List.perm_iff_count]
   intro a
   simp only [List.count_append, zao, List.count_cons]
   omega
  exact (zaO.1 (hpm.nodup h4')).2.1
 refine ⟨(id :: (IA ++ (JM ++ ID))) ++ R', ⟨id :: (IA ++ (JM ++ ID)), R', rfl, ⟨rfl, ?_, ?_⟩, g2⟩, hnd⟩
 obtain ⟨i', j', u1, u2, u3, u4⟩ := hok1
 rw [e1] at u1
 cases u1
 rw [e2] at u2
 cases u2
 refine ⟨ti, tj, e1, e2, ?_, ?_⟩
 show ((l.set i.toNat y').map enc).flatten.length = (l.set i.toNat y').length * tj.size
 rw [Fg hw]
 rw [zbi, hT]
 rw [hT, hC] at u4
 obtain ⟨v1, v2⟩ := Gy u4
 obtain ⟨_, v3⟩ := Gy v2
 rw [hT1l, ← hAl, List.take_left' rfl] at v1
 rw [hT1l, hT2l, ← hAl, zbQ rfl, zbQ hBl] at v3
 show E5 _ _ (((l.set i.toNat y').map enc).flatten)
 rw [hC2]
 exact Hk v1 (Hk hok v3)
 have hg : H'[id]? = some { b with cells := Cf b.cells (off + (i.toNat * tj.size + k)) ds } := by rw [← hH]; exact zaR hid
 rw [show Al enc (l.set i.toNat y') = .ro (l.set i.toNat y').length (((l.set i.toNat y').map enc).flatten) from rfl, zbi, Gb, hC2]
 have hap : Gi H' id = true := by simp only [Gi, hg]; exact ha
 have hrd : Aw H' id off (l.length * tj.size) = some (raw.take (i.toNat * tj.size + k) ++ (ds ++ (raw.drop (i.toNat * tj.size + k)).drop v)) := by
  unfold Aw
  rw [hg]
  simp only [hlv, if_true]
  have hsl : (Cf b.cells (off + (i.toNat * tj.size + k)) ds).length = b.cells.length := by
   unfold Cf
   simp only [zag, zaB, zaC]
   omega
  rw [if_pos (by rw [hsl]; exact hle), AcE (by omega) hle, hcs, hdl]
 simp only [e1, e2, zab, if_true, hap, hrd, hT, h7]
end
end
end Go.Proofs.YtdofipeaomgbbaaGreatDoor.Abs
set_option maxHeartbeats 32000000
namespace Go.Proofs.YtdofipeaomgbbaaGreatDoor.Abs
open _root_.Option renaming bind_some → zab, getD_some → zaA, map_eq_some_iff → zaW
open _root_.List renaming getElem?_eq_some_iff → zac, replicate → zad, nil_append → zae, getElem?_append_right → zaf, length_append → zag, getElem?_append_left → zai, append_assoc → zak, append_nil → zam, getElem?_eq_getElem → zan, cons_append → zao, length_singleton → zap, mem_append_right → zar, mem_append_left → zas, length_cons → zat, length_nil → zau, mem_cons_of_mem → zav, map_cons → zax, flatten_append → zay, take_length → zaz, getElem?_set_ne → za0, mem_cons → za2, drop_zero → za4, forall_mem_append → za5, map_append → za6, all_eq_true → za7, mem_cons_self → za9, length_take → zaB, length_drop → zaC, replicate_append_replicate → zaE, nodup_cons → zaF, flatten_cons → zaH, mem_range'_1 → zaJ, not_mem_nil → zaK, mem_append → zaL, nodup_append → zaO, getElem?_set_self → zaR, nodup_range' → zaS, take_append_drop → zaU, drop_drop → zba, range' → zbg, any_cons → zbh, length_set → zbi, all_cons → zbk, take_of_length_le → zbn, set_eq_take_append_cons_drop → zbw, map_nil → zbx, headD_cons → zb3, length_map → zb4, mem_map → zb5, Perm → zb6, tail_cons → zb8, drop_take → zbJ, take_take → zbK, replicate_succ → zbN, mem_singleton → zbP, drop_left' → zbQ
open _root_.Bool renaming and_eq_true → zah, false_eq_true → zaj, or_eq_true → zb0, true_and → zbE, or_eq_false_iff → zbG
open _root_.Nat renaming le_refl → zal, zero_add → zaw, le_trans → za1, zero_le → za3, mul_le_mul_right → za8, add_le_add_right → zaD, add_le_add_left → zaG, min_eq_left → zaM, sub_self → zaN, add_mul → zaP, add_zero → zbf, one_mul → zbt
open _root_.Int renaming toNat_natCast → zbo
section
open Go
theorem Fm {α : Type} (w : α → Nat) : ∀ (a b : List α), F6 w (a ++ b) = F6 w a + F6 w b
 | [], b => by
  show _ = 0 + _
  rw [zaw]
  rfl
 | x :: a, b => by
  show 1 + w x + F6 w (a ++ b) = 1 + w x + F6 w a + F6 w b
  rw [Fm w a b]
  omega
theorem Jt {α : Type} (w : α → Nat) : ∀ (l : List α) (i : Nat) (y y' : α), l[i]? = some y → F6 w (l.set i y') + w y = F6 w l + w y'
 | [], i, y, y', h => by simp at h
 | x :: l, 0, y, y', h => by
  have : x = y := by simpa using h
  subst this
  show 1 + w y' + F6 w l + w x = 1 + w x + F6 w l + w y'
  omega
 | x :: l, i + 1, y, y', h => by
  have := Jt w l i y y' (by simpa using h)
  show 1 + w x + F6 w (l.set i y') + w y = 1 + w x + F6 w l + w y'
  omega
theorem Kk {α : Type} {p : α → Prop} {l : List α} {i : Nat} {y' : α} (h : ∀ z ∈ l, p z) (hy : p y') : ∀ z ∈ l.set i y', p z := fun z hz => by
 rcases List.mem_or_eq_of_mem_set hz with h1 | rfl
 exact h z h1
 exact hy
theorem M0 {α : Type} {p : α → Prop} {l : List α} {i : Nat} {y : α} (h : ∀ z ∈ l, p z) (hy : l[i]? = some y) : p y := h y (List.mem_of_getElem? hy)
def OutB (b : Nat) (o : Bm) : Prop := (G2 o.fLast ∧ (∀ z ∈ o.fFl, B6 z) ∧ ∀ z ∈ o.fQ, De z) ∧ F6 Az o.fFl + F6 Bv o.fQ ≤ b
theorem OutB.ok {b : Nat} {o : Bm} (h : OutB b o) (hb : b ≤ 1048576) : O8 o := by
 have h1 := Jl Az o.fFl
 have h2 := Jl Bv o.fQ
 have h3 := h.2
 exact ⟨h.1.1, ⟨by omega, h.1.2.1⟩, ⟨by omega, h.1.2.2⟩⟩
theorem OutB.wt {b : Nat} {o : Bm} (h : OutB b o) : Gf o ≤ b := by
 have h3 := h.2
 unfold Gf
 omega
theorem OutB.of {b : Nat} {o : Bm} (h : O8 o) (hw : Gf o ≤ b) : OutB b o := by
 unfold Gf at hw
 exact ⟨⟨h.1, h.2.1.2, h.2.2.2⟩, by omega⟩
theorem Xo : ∀ (k : Nat) (u : List Int) (x : Int), G2 x → G2 (Hb u k x).1
 | 0, u, x, h => by
  unfold Hb
  first | exact h | (constructor <;> decide) | (constructor <;> simp)
 | k + 1, u, x, h => by
  rw [Hb]
  have h2 : G2 (nx x) := by
   unfold nx G2
   omega
  split
  exact Xo k u (nx x) h2
  exact h2
theorem Jh {b : Nat} {o : Bm} (h : OutB b o) : OutB b (Af o) := by
 obtain ⟨⟨h1, h2, h3⟩, h4⟩ := h
 have ht : ∀ (q : List Ch), F6 Bv q.tail ≤ F6 Bv q := by
  intro q
  cases q with
  | nil => exact zal _
  | cons m l => show F6 Bv l ≤ 1 + Bv m + F6 Bv l; omega
 have hq := ht o.fQ
 have h3' : ∀ z ∈ o.fQ.tail, De z := fun z hz => h3 z (List.mem_of_mem_tail hz)
 unfold Af
 split
 rename_i hr
 split
 exact ⟨⟨h1, h2, h3'⟩, by show F6 Az o.fFl + F6 Bv o.fQ.tail ≤ b; omega⟩
 ·cases hc : o.fQ with
  | nil => simp [Ce, hc] at hr
  | cons m l =>
   rw [hc] at h3 h4
   have hm := h3 m (za9 ..)
   have hi : G2 (Cd o) := by
    unfold Cd A9
    split
    exact Xo _ _ _ h1
    constructor <;> decide
   have hf : B6 (⟨Cd o, m, m.fQos⟩ : Ae) := ⟨hi, hm, hm.2.2.1⟩
   refine ⟨⟨hi, ?_, fun z hz => h3 z (zav _ hz)⟩, ?_⟩
   exact J4 h2 hf
   show F6 Az (o.fFl ++ [(⟨Cd o, m, m.fQos⟩ : Ae)]) + F6 Bv l ≤ b
   rw [H4]
   have e : Az (⟨Cd o, m, m.fQos⟩ : Ae) = Bv m + 0 := rfl
   have e2 : F6 Bv (m :: l) = 1 + Bv m + F6 Bv l := rfl
   omega
 exact ⟨⟨h1, h2, h3⟩, h4⟩
theorem Aaq {b : Nat} {kd d : Int} {o : Bm} (h : OutB b o) : ∀ (t pre : List Ae), o.fFl = pre ++ t → OutB b (Dc kd d o pre t).1
 | [], pre, he => h
 | f :: t, pre, he => by
  have ih := Aaq (kd := kd) (d := d) h t (pre ++ [f]) (by rw [he]; simp)
  obtain ⟨⟨h1, h2, h3⟩, h4⟩ := h
  rw [he] at h2 h4
  have e1 : F6 Az (pre ++ f :: t) = F6 Az pre + (1 + Az f + F6 Az t) := Fm _ _ _
  rw [Dc]
  split
  split
  refine ⟨⟨h1, fun z hz => h2 z ?_, h3⟩, ?_⟩
  rcases zaL.1 hz with hz | hz
  exact zas _ hz
  exact zar _ (zav _ hz)
  show F6 Az (pre ++ t) + F6 Bv o.fQ ≤ b
  rw [Fm]
  omega
  split
  have hf := h2 f (by simp)
  refine ⟨⟨h1, fun z hz => ?_, h3⟩, ?_⟩
  rcases zaL.1 hz with hz | hz
  exact h2 z (zas _ hz)
  rcases za2.1 hz with rfl | hz
  exact ⟨hf.1, hf.2.1, (by decide : (-9223372036854775808 : Int) ≤ 3 ∧ (3 : Int) ≤ 9223372036854775807)⟩
  exact h2 z (zar _ (zav _ hz))
  show F6 Az (pre ++ { f with fSt := 3 } :: t) + F6 Bv o.fQ ≤ b
  have e2 : F6 Az (pre ++ { f with fSt := 3 } :: t) = F6 Az pre + (1 + Az f + F6 Az t) := Fm _ _ _
  omega
  exact ih
  exact ih
theorem Wi {b : Nat} {kd d : Int} {o : Bm} (h : OutB b o) : OutB b (Dj o kd d).1 := by
 unfold Dj
 split
 exact Aaq h _ [] rfl
 exact h
theorem Z9 {b : Nat} {o : Bm} {m : Ch} (h : OutB b o) (hm : De m) : OutB (b + 1 + Bv m) (En o m) := by
 obtain ⟨⟨h1, h2, h3⟩, h4⟩ := h
 unfold En
 split
 unfold M8
 split
 refine ⟨⟨h1, h2, J4 h3 hm⟩, ?_⟩
 show F6 Az o.fFl + F6 Bv (o.fQ ++ [m]) ≤ _
 rw [H4]
 omega
 exact ⟨⟨h1, h2, h3⟩, by show F6 Az o.fFl + F6 Bv o.fQ ≤ _; omega⟩
 exact ⟨⟨h1, h2, h3⟩, by omega⟩
theorem Hl {b : Nat} {o : Bm} (h : OutB b o) : o.fFl.length ≤ b ∧ o.fQ.length ≤ b := by
 have h1 := Jl Az o.fFl
 have h2 := Jl Bv o.fQ
 have h3 := h.2
 omega
theorem AaU {b : Nat} {o : Bm} (h : OutB b o) : o.fFl.length ≤ b := (Hl h).1
theorem E9 {b : Nat} {l : Int} {f : List Ae} {q : List Ch} (h1 : G2 l) (h2 : ∀ z ∈ f, B6 z) (h3 : ∀ z ∈ q, De z) (h4 : F6 Az f + F6 Bv q ≤ b) : OutB b ⟨l, f, q⟩ := ⟨⟨h1, h2, h3⟩, h4⟩
theorem OutB.mono {a b : Nat} {o : Bm} (h : OutB a o) (hab : a ≤ b) : OutB b o := ⟨h.1, za1 h.2 hab⟩
theorem AeZ (n : Nat) (hn : 1048576 < n) (code : ByteArray) (hcode : code.size ≤ 1048576) (c i : Nat) (h : Int)   {β : Type} {r : Option β} {KH : KO β} {H : Ab} {L : List Ck} (s0 : Sep H (Cr c code i h :: L)) (hk : ∀ (r0 : Bm) (r0x1 : AV) (r0x2 : AV) (i' : Nat) (h' : Int) (H' : Ab), (Ar r0x1 = true) → (Ar r0x2 = true) → (OutB 110 r0) → Sep H' (.own r0x1 24 (Al Aq r0.fFl) :: .own r0x2 25 (Al Ak r0.fQ) :: Cr c code i' h' :: L) → Gd (· = r) (KH (.agg [.sc (.int .i64 r0.fLast), r0x1, r0x2]) H')) : Gd (· = r) (Dz E0 (n + 16) β 86 [.ptr c 0] H fun x H => KH x H) := by
 rw [AiB, f86]
 try simp only [C1, Bx, B8, Bs, Bw]
 refine C8 s0 fun i1 H s2 => Bq (cs := [i0, i0, si 3, si 65534, si 65535]) rfl (Cg s2 fun i3 H s4 => Ea hcode (by omega) (by omega) rfl s4 B9 (.here) fun z5a iq6 hq6 H mz5 sq6 => ?_)
 have s7 := (sq6.pick A7).tail
 obtain ⟨z5, rfl, hz5⟩ := Bd (l := [0, 0, 3, 65534, 65535]) (lo := 0) (hi := 65535) mz5 (by decide)
 refine Bq (cs := [si z5, .nl, .nl]) rfl (C8 s7 fun i8 H s9 => Bo (cs' := [si z5, .nl, .nl]) s9 (.here) (Ac rfl) rfl (Bb rfl) rfl fun H s10 => Ik rfl rfl (Ur _ (by omega) code hcode c iq6 hq6 6 (by omega) (s10.pick A7) fun r11 r11x iq12 hq12 H lr11x hr11 sq12 => ?_))
 obtain ⟨or11, wr11⟩ := hr11
 have gr11 := Jl Bv r11
 refine Aj (o' := 2) rfl (B4 sq12 B9 lr11x rfl fun H s13 => Hs (m := 6) hcode (by omega) s13 B9 fun z14 iq15 hq15 H hz14 sq15 => ?_)
 replace hz14 : 0 ≤ z14 ∧ z14 < 6 := by omega
 have lp16 : ∀ (j m : Nat) (z : Int) (m2 : Bm) (m2x1 : AV) (m2x2 : AV) (i : Nat) (h : Int) (H : Ab), j < m → z = ((j : Nat) : Int) → Ar m2x1 = true → Ar m2x2 = true → (OutB 80 m2 ∧ j ≤ 5) → Sep H (.own m2x1 24 (Al Aq m2.fFl) :: .own m2x2 25 (Al Ak m2.fQ) :: Cr c code i h :: .blk i8 [si m2.fLast, m2x1, m2x2] true :: .blk i1 [i0, .nl, .nl] true :: L) → Gd (· = r) (Ax (PR ((n + 15)) β) ((n + 15)) (fun x H => KH x H) m (.ptr c 0) (.ptr i1 0) (.ptr i8 0) (si z) H) := by
  clear s0 s2 s4 sq6 s7 s9 s10 sq12 s13 sq15
  intro j
  induction j with
  | zero =>
   intro m0 z m2 m2x1 m2x2 i h H hm hz lm2x1 lm2x2 hinv s0
   obtain ⟨m, rfl⟩ : ∃ m, m0 = m + 1 := ⟨m0 - 1, by omega⟩
   have hnl : (Af m2).fFl.length ≤ 80 := AaU (Jh hinv.1)
   rw [Ax]
   try simp only [C1, Bx, B8, Bn, Bs, Bf, Ay, B3, Pr.gT, Pr.gF, Pr.hT, Pr.hF, Pr.kT, Pr.kF, Ci, B0, B5, Bw, Lo]
   refine Mg (Bt (decide_eq_false (by omega)) (Hs (m := 4) hcode (by omega) s0 B9 fun z17 iq18 hq18 H hz17 sq18 => ?_))
   replace hz17 : 0 ≤ z17 ∧ z17 < 4 := by omega
   have lp19 : ∀ (j m : Nat) (z : Int) (m2 : Bm) (m2x1 : AV) (m2x2 : AV) (i : Nat) (h : Int) (H : Ab), j < m → z = ((j : Nat) : Int) → Ar m2x1 = true → Ar m2x2 = true → (OutB (110 - 10 * j) m2 ∧ j ≤ 3) → Sep H (.own m2x1 24 (Al Aq m2.fFl) :: .own m2x2 25 (Al Ak m2.fQ) :: Cr c code i h :: .blk i8 [si m2.fLast, m2x1, m2x2] true :: .blk i1 [i0, .nl, .nl] true :: L) → Gd (· = r) (Mu (PR ((n + 15)) β) ((n + 15)) (fun x H => KH x H) m (.ptr c 0) (.ptr i1 0) (.ptr i8 0) (si z) H) := by
    clear s0 sq18
    intro j
    induction j with
    | zero =>
     intro m0 z m2 m2x1 m2x2 i h H hm hz lm2x1 lm2x2 hinv s0
     obtain ⟨m, rfl⟩ : ∃ m, m0 = m + 1 := ⟨m0 - 1, by omega⟩
     rw [Mu]
     try simp only [Bn, Bs, Bf, Ay, Lo]
     refine Mg (Bt (decide_eq_false (by omega)) (Ah s0 C3 rfl (Bo (cs' := [si m2.fLast, m2x1, m2x2]) s0 F5 (Ac (Aa rfl (Aa lm2x1 (Aa lm2x2 rfl)))) rfl (Bb rfl) rfl fun H s20 => Ah s20 (.here) rfl ?_)))
     have e21 : OutB 110 (m2 : Bm) := by
      exact hinv.1.mono (by omega)
     exact hk (m2 : Bm) m2x1 m2x2 i h _ lm2x1 lm2x2 e21 (s20.sel (.cons A7 (.cons A7 (.cons A7 V9))))
    | succ j ih =>
     intro m0 z m2 m2x1 m2x2 i h H hm hz lm2x1 lm2x2 hinv s0
     obtain ⟨m, rfl⟩ : ∃ m, m0 = m + 1 := ⟨m0 - 1, by omega⟩
     rw [Mu]
     try simp only [Bn, Bs, Bf, Ay, Lo]
     refine Mg (Co (decide_eq_true (by omega)) (Gd.bothE ?_ ?_))
     refine Ah s0 C3 rfl (Ik rfl rfl (O4 _ (by omega) code hcode c i h   (s0.pick B9) fun r22 r22x1 iq23 hq23 H lr22x1 hr22 sq23 => ?_))
     obtain ⟨or22, wr22⟩ := hr22
     have ur22 := or22
     have vr22 := wr22
     simp only [De, Bv, M1, G2, and_true, true_and] at ur22 vr22
     have c24 := N0 (n + 4) (by omega) m2 r22 (hinv.1.ok (by omega)) (by assumption) (za1 hinv.1.wt (by omega)) (by omega)
     refine Gx sq23 rfl (.agg (.cons .sc (.cons (.own (by decide) B9) (.cons (.own (by decide) C3) .nil))) (.agg (.cons .sc (.cons (.own (by decide) (.here)) (Hw .nil))) .nil)) (c24) rfl (Ey ⟨_, rfl, rfl⟩ (H6 _) (Db Fz)) ?_
     rintro _ _ H ⟨_, _, _, _, rfl, rfl, ⟨x25, x26, lx25, lx26, rfl, rfl⟩, ⟨_, rfl, ⟨rfl, rfl⟩⟩⟩ s27
     simp only [zae, zao] at s27
     refine C7 (v := .agg [si ((En m2 r22).fLast), x25, x26]) rfl (C7 (v := si (Qt m2 r22)) rfl (Bo (cs' := [si ((En m2 r22).fLast), x25, x26]) s27 zP6 (Ac (Aa rfl (Aa lx25 (Aa lx26 rfl)))) rfl (Bb rfl) rfl fun H s28 => Um (by omega) (by omega) ?_))
     have e29 : OutB (110 - 10 * j) (⟨(En m2 r22).fLast, ((En m2 r22).fFl), ((En m2 r22).fQ)⟩ : Bm) ∧ j ≤ 3 := by
      refine ⟨?_, by omega⟩; first | exact OutB.mono hinv.1 (by omega) | exact OutB.mono (Z9 hinv.1 (by assumption)) (by omega)
     exact ih m _ (⟨(En m2 r22).fLast, ((En m2 r22).fFl), ((En m2 r22).fQ)⟩ : Bm) x25 x26 iq23 hq23 _ (by omega) (by omega) lx25 lx26 e29 (s28.sel (.cons B9 (.cons A7 (.cons B9 (.cons (.here) (.cons C3 zS3))))))
     refine Ik rfl rfl (O4 _ (by omega) code hcode c i h   (s0.pick B9) fun r30 r30x1 iq31 hq31 H lr30x1 hr30 sq31 => ?_)
     obtain ⟨or30, wr30⟩ := hr30
     have ur30 := or30
     have vr30 := wr30
     simp only [De, Bv, M1, G2, and_true, true_and] at ur30 vr30
     refine Ah sq31 F5 rfl ?_
     have c32 := N0 (n + 4) (by omega) m2 r30 (hinv.1.ok (by omega)) (by assumption) (za1 hinv.1.wt (by omega)) (by omega)
     refine Gx sq31 rfl (.agg (.cons .sc (.cons (.own (by decide) B9) (.cons (.own (by decide) C3) .nil))) (.agg (.cons .sc (.cons (.own (by decide) (.here)) (Hw .nil))) .nil)) (c32) rfl (Ey ⟨_, rfl, rfl⟩ (H6 _) (Db Fz)) ?_
     rintro _ _ H ⟨_, _, _, _, rfl, rfl, ⟨x33, x34, lx33, lx34, rfl, rfl⟩, ⟨_, rfl, ⟨rfl, rfl⟩⟩⟩ s35
     simp only [zae, zao] at s35
     refine C7 (v := .agg [si ((En m2 r30).fLast), x33, x34]) rfl (C7 (v := si (Qt m2 r30)) rfl (Bo (cs' := [si ((En m2 r30).fLast), x33, x34]) s35 zP6 (Ac (Aa rfl (Aa lx33 (Aa lx34 rfl)))) rfl (Bb rfl) rfl fun H s36 => Um (by omega) (by omega) ?_))
     have e37 : OutB (110 - 10 * j) (⟨(En m2 r30).fLast, ((En m2 r30).fFl), ((En m2 r30).fQ)⟩ : Bm) ∧ j ≤ 3 := by
      refine ⟨?_, by omega⟩; first | exact OutB.mono hinv.1 (by omega) | exact OutB.mono (Z9 hinv.1 (by assumption)) (by omega)
     exact ih m _ (⟨(En m2 r30).fLast, ((En m2 r30).fFl), ((En m2 r30).fQ)⟩ : Bm) x33 x34 iq31 hq31 _ (by omega) (by omega) lx33 lx34 e37 (s36.sel (.cons B9 (.cons A7 (.cons B9 (.cons (.here) (.cons C3 zS3))))))
   have e38 : OutB (110 - 10 * (z17).toNat) (m2 : Bm) ∧ (z17).toNat ≤ 3 := by
    refine ⟨?_, by omega⟩; first | exact OutB.mono hinv.1 (by omega) | exact OutB.mono (Z9 hinv.1 (by assumption)) (by omega)
   exact lp19 (z17).toNat _ _ (m2 : Bm) m2x1 m2x2 iq18 hq18 _ (by omega) (by omega) lm2x1 lm2x2 e38 (sq18.sel (.cons A7 (.cons A7 (.cons (.here) (.cons (.here) (.cons (.here) .rest))))))
  | succ j ih =>
   intro m0 z m2 m2x1 m2x2 i h H hm hz lm2x1 lm2x2 hinv s0
   obtain ⟨m, rfl⟩ : ∃ m, m0 = m + 1 := ⟨m0 - 1, by omega⟩
   have hnl : (Af m2).fFl.length ≤ 80 := AaU (Jh hinv.1)
   rw [Ax]
   try simp only [C1, Bx, B8, Bn, Bs, Bf, Ay, B3, Pr.gT, Pr.gF, Pr.hT, Pr.hF, Pr.kT, Pr.kF, Ci, B0, B5, Bw, Lo]
   have tl68 : ∀ (u69 : AV) (u70 : AV) (z71 : Int) (z72 : Int) (i : Nat) (h : Int) (H : Ab), Ar u69 = true → Ar u70 = true → Sep H (.own u69 24 (Al Aq ((Af m2).fFl)) :: .own u70 25 (Al Ak ((Af m2).fQ)) :: Cr c code i h :: .blk i8 [si ((Af m2).fLast), u69, u70] true :: .blk i1 [i0, .nl, .nl] true :: L) → Gd (· = r) ((PR ((n + 15)) β).call 45 (.fn 16 [] []) [(.agg [si ((Af m2).fLast), u69, u70]), (si z71), (si z72)] H fun t50 H => (PR ((n + 15)) β).extr t50 0 fun t51 => (PR ((n + 15)) β).extr t50 1 fun t52 => (PR ((n + 15)) β).extr t50 2 fun t53 => (PR ((n + 15)) β).store 3 (.ptr i8 0) t51 H fun H => (PR ((n + 15)) β).bin .sub (si z) (si 1) fun t19 => Ax (PR ((n + 15)) β) ((n + 15)) (fun x H => KH x H) m (.ptr c 0) (.ptr i1 0) (.ptr i8 0) t19 H) := by
    intro u69 u70 z71 z72 i h H lu69 lu70 s0
    try simp only [Dh, C1, Bx, B8, Bn, Bs, Bf, Dy, Dx, Fn, Ay, B3, Pr.gT, Pr.gF, Pr.hT, Pr.hF, Pr.kT, Pr.kF, Ci, B0, Di, B5, Et, C2, Cw, Bw, D8, C6, Af9, D2, AfA, D1, Aan, Lo, Yl, AcK, AhD, Wf, Aao]
    have c73 := Afu (n + 2) (by omega) (⟨(Af m2).fLast, ((Af m2).fFl), ((Af m2).fQ)⟩) z71 z72 (za1 (Jh hinv.1).wt (by omega))
    refine Gx s0 rfl (.agg (.cons .sc (.cons (.own (by decide) (.here)) (.cons (.own (by decide) A7) .nil))) (Hw .nil)) (c73) rfl (Ey ⟨_, rfl, rfl⟩ (H6 _) (Ey ⟨_, rfl, rfl⟩ (Dr _) (Db Fz))) ?_
    rintro _ _ H ⟨_, _, _, _, rfl, rfl, ⟨x80, x81, lx80, lx81, rfl, rfl⟩, ⟨_, _, _, _, rfl, rfl, ⟨x74, x75, x76, x77, x78, x79, lx74, lx75, lx76, lx77, lx78, lx79, rfl, rfl⟩, ⟨_, rfl, ⟨rfl, rfl⟩⟩⟩⟩ s82
    simp only [zae, zao] at s82
    refine C7 (v := .agg [.sc (.int .i64 ((Dj (⟨(Af m2).fLast, ((Af m2).fFl), ((Af m2).fQ)⟩) z71 z72).1.fLast)), x80, x81]) rfl (C7 (v := .agg [.sc (.int .i64 ((Dj (⟨(Af m2).fLast, ((Af m2).fFl), ((Af m2).fQ)⟩) z71 z72).2.1.fType)), .sc (.bool (Dj (⟨(Af m2).fLast, ((Af m2).fFl), ((Af m2).fQ)⟩) z71 z72).2.1.fDup), .sc (.int .i64 ((Dj (⟨(Af m2).fLast, ((Af m2).fFl), ((Af m2).fQ)⟩) z71 z72).2.1.fQos)), .sc (.bool (Dj (⟨(Af m2).fLast, ((Af m2).fFl), ((Af m2).fQ)⟩) z71 z72).2.1.fRetain), .sc (.int .i64 ((Dj (⟨(Af m2).fLast, ((Af m2).fFl), ((Af m2).fQ)⟩) z71 z72).2.1.fId)), .sc (.string ((Dj (⟨(Af m2).fLast, ((Af m2).fFl), ((Af m2).fQ)⟩) z71 z72).2.1.fTopic)), x74, .sc (.string ((Dj (⟨(Af m2).fLast, ((Af m2).fFl), ((Af m2).fQ)⟩) z71 z72).2.1.fClient)), .sc (.int .i64 ((Dj (⟨(Af m2).fLast, ((Af m2).fFl), ((Af m2).fQ)⟩) z71 z72).2.1.fLevel)), .sc (.bool (Dj (⟨(Af m2).fLast, ((Af m2).fFl), ((Af m2).fQ)⟩) z71 z72).2.1.fClean), .sc (.int .i64 ((Dj (⟨(Af m2).fLast, ((Af m2).fFl), ((Af m2).fQ)⟩) z71 z72).2.1.fKeep)), .sc (.bool (Dj (⟨(Af m2).fLast, ((Af m2).fFl), ((Af m2).fQ)⟩) z71 z72).2.1.fHasWill), .sc (.string ((Dj (⟨(Af m2).fLast, ((Af m2).fFl), ((Af m2).fQ)⟩) z71 z72).2.1.fWTopic)), x75, .sc (.int .i64 ((Dj (⟨(Af m2).fLast, ((Af m2).fFl), ((Af m2).fQ)⟩) z71 z72).2.1.fWQos)), .sc (.bool (Dj (⟨(Af m2).fLast, ((Af m2).fFl), ((Af m2).fQ)⟩) z71 z72).2.1.fWRetain), .sc (.bool (Dj (⟨(Af m2).fLast, ((Af m2).fFl), ((Af m2).fQ)⟩) z71 z72).2.1.fHasUser), .sc (.string ((Dj (⟨(Af m2).fLast, ((Af m2).fFl), ((Af m2).fQ)⟩) z71 z72).2.1.fUser)), .sc (.bool (Dj (⟨(Af m2).fLast, ((Af m2).fFl), ((Af m2).fQ)⟩) z71 z72).2.1.fHasPass), x76, .sc (.int .i64 ((Dj (⟨(Af m2).fLast, ((Af m2).fFl), ((Af m2).fQ)⟩) z71 z72).2.1.fCode)), .sc (.bool (Dj (⟨(Af m2).fLast, ((Af m2).fFl), ((Af m2).fQ)⟩) z71 z72).2.1.fPresent), x77, x78, x79]) rfl (C7 (v := .sc (.bool (Dj (⟨(Af m2).fLast, ((Af m2).fFl), ((Af m2).fQ)⟩) z71 z72).2.2)) rfl ?_))
    refine Bo (cs' := [.sc (.int .i64 ((Dj (⟨(Af m2).fLast, ((Af m2).fFl), ((Af m2).fQ)⟩) z71 z72).1.fLast)), x80, x81]) s82 It (Ac (Aa rfl (Aa lx80 (Aa lx81 rfl)))) rfl (Bb rfl) rfl fun H s83 => Um (by omega) (by omega) ?_
    have e84 : OutB 80 (⟨(Dj (⟨(Af m2).fLast, ((Af m2).fFl), ((Af m2).fQ)⟩) z71 z72).1.fLast, ((Dj (⟨(Af m2).fLast, ((Af m2).fFl), ((Af m2).fQ)⟩) z71 z72).1.fFl), ((Dj (⟨(Af m2).fLast, ((Af m2).fFl), ((Af m2).fQ)⟩) z71 z72).1.fQ)⟩ : Bm) ∧ j ≤ 5 := by
     refine ⟨?_, by omega⟩; first | exact hinv.1 | exact Jh hinv.1 | exact Wi (Jh hinv.1) | (apply E9 <;> first | assumption | omega | (unfold G2; omega) | (intro z hz; cases hz; done) | (show 0 + _ ≤ _; omega))
    exact ih m _ (⟨(Dj (⟨(Af m2).fLast, ((Af m2).fFl), ((Af m2).fQ)⟩) z71 z72).1.fLast, ((Dj (⟨(Af m2).fLast, ((Af m2).fFl), ((Af m2).fQ)⟩) z71 z72).1.fFl), ((Dj (⟨(Af m2).fLast, ((Af m2).fFl), ((Af m2).fQ)⟩) z71 z72).1.fQ)⟩ : Bm) x80 x81 i h _ (by omega) (by omega) lx80 lx81 e84 (s83.sel (.cons Ua (.cons Yh (.cons D9 (.cons (.here) (.cons Ua zS8))))))
   refine Mg (Co (decide_eq_true (by omega)) (Ah s0 C3 rfl ?_))
   have c39 := T9 (n + 2) (by omega) m2 (hinv.1.ok (by omega)) (za1 hinv.1.wt (by omega))
   refine Gx s0 rfl (.agg (.cons .sc (.cons (.own (by decide) (.here)) (.cons (.own (by decide) A7) .nil))) .nil) (c39) rfl (Ey ⟨_, rfl, rfl⟩ (H6 _) (Ey ⟨_, rfl, rfl⟩ (Dr _) (Db Fz))) ?_
   rintro _ _ H ⟨_, _, _, _, rfl, rfl, ⟨x46, x47, lx46, lx47, rfl, rfl⟩, ⟨_, _, _, _, rfl, rfl, ⟨x40, x41, x42, x43, x44, x45, lx40, lx41, lx42, lx43, lx44, lx45, rfl, rfl⟩, ⟨_, rfl, ⟨rfl, rfl⟩⟩⟩⟩ s48
   simp only [zae, zao] at s48
   refine C7 (v := .agg [si ((Af m2).fLast), x46, x47]) rfl (C7 (v := .agg [si ((A0 m2).fType), .sc (.bool (A0 m2).fDup), si ((A0 m2).fQos), .sc (.bool (A0 m2).fRetain), si ((A0 m2).fId), ss ((A0 m2).fTopic), x40, ss ((A0 m2).fClient), si ((A0 m2).fLevel), .sc (.bool (A0 m2).fClean), si ((A0 m2).fKeep), .sc (.bool (A0 m2).fHasWill), ss ((A0 m2).fWTopic), x41, si ((A0 m2).fWQos), .sc (.bool (A0 m2).fWRetain), .sc (.bool (A0 m2).fHasUser), ss ((A0 m2).fUser), .sc (.bool (A0 m2).fHasPass), x42, si ((A0 m2).fCode), .sc (.bool (A0 m2).fPresent), x43, x44, x45]) rfl (C7 (v := sb (Ce m2)) rfl (Bo (cs' := [si ((Af m2).fLast), x46, x47]) s48 It (Ac (Aa rfl (Aa lx46 (Aa lx47 rfl)))) rfl (Bb rfl) rfl fun H s49 => Aj (o' := 1) rfl (Au (c := x46) s49 (.here) rfl (Hh s49 Ua (Mg (Ag ((decide (0 < ((((Af m2).fFl).length : Nat) : Int)))) (fun h50 => ?_) fun h50 => ?_)))))))
   refine Av h50 (Av h50 (AaQ hcode (by omega) s49 It fun b51 iq52 hq52 H sq52 => Fe h50 (Ag (b51) (fun h53 => ?_) fun h53 => ?_)))
   refine Co h53 (Aj (o' := 1) rfl (Aj (o' := 1) rfl (Au (c := x46) sq52 A7 rfl (Hh sq52 D9 (Gd.bothE ?_ ?_)))))
   refine Au (c := x46) sq52 A7 rfl (Gd.bothE ?_ ?_)
   refine Hs (m := ((((Af m2).fFl).length : Nat) : Int)) hcode (by omega) sq52 (.here) fun z54 iq55 hq55 H hz54 sq55 => ?_
   have s56 := sq55.toShs D9
   obtain ⟨y57, he58⟩ : ∃ y, ((Af m2).fFl)[(z54).toNat]? = some y := ⟨_, zan (by first | omega | (simp at *; omega))⟩
   refine Sq (y := y57) s56 ⟨_, _, rfl, rfl, rfl, rfl⟩ (.here) (by omega) he58 Ba Ee rfl fun de58 oe58 raw hl hlf re58 hsc se58 => ?_
   obtain ⟨e58r2, le58r2, rfl⟩ := Ju hl hlf hsc
   clear hl hlf hsc
   refine P9 re58 (C8 se58 fun i59 H s60 => Bo (cs' := [si y57.fId, ss y57.fM.fTopic, e58r2, si y57.fM.fQos, sb y57.fM.fRetain, si y57.fSt]) s60 (.here) (Ac (Aa rfl (Aa rfl (Aa le58r2 rfl)))) rfl (Bb rfl) rfl fun H s61 => Aj (o' := 0) rfl (Gd.bothE ?_ ?_))
   refine Ah s61 C3 rfl (Gd.bothE ?_ ?_)
   refine Bq (cs := [si 4, si 5, si 7]) rfl (Cg s61 fun i62 H s63 => Gd.bothE ?_ ?_)
   refine Ea hcode (by omega) (by omega) rfl s63 C3 (.here) fun z64a iq65 hq65 H mz64 sq65 => ?_
   have s66 := (sq65.pick A7).tail
   obtain ⟨z64, rfl, hz64⟩ := Bd (l := [4, 5, 7]) (lo := 4) (hi := 7) mz64 (by decide)
   refine Au (c := si y57.fId) s66 A7 rfl ?_
   have s67 := s66.ofShs B9
   exact tl68 x46 x47 z64 y57.fId iq65 hq65 _ lx46 lx47 (s67.sel (.cons (.here) (.cons D9 (.cons (.here) (.cons A7 (.cons D9 I7))))))
   refine Au (c := si y57.fId) s63 A7 rfl (Ea hcode (by omega) (by omega) rfl s63 C3 (.here) fun z85a iq86 hq86 H mz85 sq86 => ?_)
   have s87 := (sq86.pick A7).tail
   obtain ⟨z85, rfl, hz85⟩ := Bd (l := [4, 5, 7]) (lo := 4) (hi := 7) mz85 (by decide)
   have s88 := s87.ofShs B9
   exact tl68 x46 x47 z85 y57.fId iq86 hq86 _ lx46 lx47 (s88.sel (.cons (.here) (.cons D9 (.cons (.here) (.cons A7 (.cons D9 I7))))))
   refine Au (c := si y57.fId) s61 (.here) rfl (Bq (cs := [si 4, si 5, si 7]) rfl (Cg s61 fun i89 H s90 => Ea hcode (by omega) (by omega) rfl s90 C3 (.here) fun z91a iq92 hq92 H mz91 sq92 => ?_))
   have s93 := (sq92.pick A7).tail
   obtain ⟨z91, rfl, hz91⟩ := Bd (l := [4, 5, 7]) (lo := 4) (hi := 7) mz91 (by decide)
   have s94 := s93.ofShs B9
   exact tl68 x46 x47 z91 y57.fId iq92 hq92 _ lx46 lx47 (s94.sel (.cons (.here) (.cons D9 (.cons (.here) (.cons A7 (.cons D9 I7))))))
   refine Gd.bothE ?_ ?_
   refine Bq (cs := [si 4, si 5, si 7]) rfl (Cg s61 fun i95 H s96 => Gd.bothE ?_ ?_)
   refine Ah s96 F5 rfl (Gd.bothE ?_ ?_)
   refine Ea hcode (by omega) (by omega) rfl s96 C3 (.here) fun z97a iq98 hq98 H mz97 sq98 => ?_
   have s99 := (sq98.pick A7).tail
   obtain ⟨z97, rfl, hz97⟩ := Bd (l := [4, 5, 7]) (lo := 4) (hi := 7) mz97 (by decide)
   refine Au (c := si y57.fId) s99 A7 rfl ?_
   have s100 := s99.ofShs B9
   exact tl68 x46 x47 z97 y57.fId iq98 hq98 _ lx46 lx47 (s100.sel (.cons (.here) (.cons D9 (.cons (.here) (.cons A7 (.cons D9 I7))))))
   refine Au (c := si y57.fId) s96 A7 rfl (Ea hcode (by omega) (by omega) rfl s96 C3 (.here) fun z101a iq102 hq102 H mz101 sq102 => ?_)
   have s103 := (sq102.pick A7).tail
   obtain ⟨z101, rfl, hz101⟩ := Bd (l := [4, 5, 7]) (lo := 4) (hi := 7) mz101 (by decide)
   have s104 := s103.ofShs B9
   exact tl68 x46 x47 z101 y57.fId iq102 hq102 _ lx46 lx47 (s104.sel (.cons (.here) (.cons D9 (.cons (.here) (.cons A7 (.cons D9 I7))))))
   refine Gd.bothE ?_ ?_
   refine Ea hcode (by omega) (by omega) rfl s96 C3 (.here) fun z105a iq106 hq106 H mz105 sq106 => ?_
   have s107 := (sq106.pick A7).tail
   obtain ⟨z105, rfl, hz105⟩ := Bd (l := [4, 5, 7]) (lo := 4) (hi := 7) mz105 (by decide)
   refine Ah s107 C3 rfl (Au (c := si y57.fId) s107 A7 rfl ?_)
   have s108 := s107.ofShs B9
   exact tl68 x46 x47 z105 y57.fId iq106 hq106 _ lx46 lx47 (s108.sel (.cons (.here) (.cons D9 (.cons (.here) (.cons A7 (.cons D9 I7))))))
   refine Au (c := si y57.fId) s96 A7 rfl (Gd.bothE ?_ ?_)
   refine Ah s96 F5 rfl (Ea hcode (by omega) (by omega) rfl s96 C3 (.here) fun z109a iq110 hq110 H mz109 sq110 => ?_)
   have s111 := (sq110.pick A7).tail
   obtain ⟨z109, rfl, hz109⟩ := Bd (l := [4, 5, 7]) (lo := 4) (hi := 7) mz109 (by decide)
   have s112 := s111.ofShs B9
   exact tl68 x46 x47 z109 y57.fId iq110 hq110 _ lx46 lx47 (s112.sel (.cons (.here) (.cons D9 (.cons (.here) (.cons A7 (.cons D9 I7))))))
   refine Ea hcode (by omega) (by omega) rfl s96 C3 (.here) fun z113a iq114 hq114 H mz113 sq114 => ?_
   have s115 := (sq114.pick A7).tail
   obtain ⟨z113, rfl, hz113⟩ := Bd (l := [4, 5, 7]) (lo := 4) (hi := 7) mz113 (by decide)
   refine Ah s115 C3 rfl ?_
   have s116 := s115.ofShs B9
   exact tl68 x46 x47 z113 y57.fId iq114 hq114 _ lx46 lx47 (s116.sel (.cons (.here) (.cons D9 (.cons (.here) (.cons A7 (.cons D9 I7))))))
   refine Au (c := si y57.fId) s61 (.here) rfl (Gd.bothE ?_ ?_)
   refine Ah s61 C3 rfl (Bq (cs := [si 4, si 5, si 7]) rfl (Cg s61 fun i117 H s118 => Ea hcode (by omega) (by omega) rfl s118 C3 (.here) fun z119a iq120 hq120 H mz119 sq120 => ?_))
   have s121 := (sq120.pick A7).tail
   obtain ⟨z119, rfl, hz119⟩ := Bd (l := [4, 5, 7]) (lo := 4) (hi := 7) mz119 (by decide)
   have s122 := s121.ofShs B9
   exact tl68 x46 x47 z119 y57.fId iq120 hq120 _ lx46 lx47 (s122.sel (.cons (.here) (.cons D9 (.cons (.here) (.cons A7 (.cons D9 I7))))))
   refine Bq (cs := [si 4, si 5, si 7]) rfl (Cg s61 fun i123 H s124 => Gd.bothE ?_ ?_)
   refine Ah s124 F5 rfl (Ea hcode (by omega) (by omega) rfl s124 C3 (.here) fun z125a iq126 hq126 H mz125 sq126 => ?_)
   have s127 := (sq126.pick A7).tail
   obtain ⟨z125, rfl, hz125⟩ := Bd (l := [4, 5, 7]) (lo := 4) (hi := 7) mz125 (by decide)
   have s128 := s127.ofShs B9
   exact tl68 x46 x47 z125 y57.fId iq126 hq126 _ lx46 lx47 (s128.sel (.cons (.here) (.cons D9 (.cons (.here) (.cons A7 (.cons D9 I7))))))
   refine Ea hcode (by omega) (by omega) rfl s124 C3 (.here) fun z129a iq130 hq130 H mz129 sq130 => ?_
   have s131 := (sq130.pick A7).tail
   obtain ⟨z129, rfl, hz129⟩ := Bd (l := [4, 5, 7]) (lo := 4) (hi := 7) mz129 (by decide)
   refine Ah s131 C3 rfl ?_
   have s132 := s131.ofShs B9
   exact tl68 x46 x47 z129 y57.fId iq130 hq130 _ lx46 lx47 (s132.sel (.cons (.here) (.cons D9 (.cons (.here) (.cons A7 (.cons D9 I7))))))
   refine C8 sq52 fun i133 H s134 => Hs (m := ((((Af m2).fFl).length : Nat) : Int)) hcode (by omega) s134 A7 fun z135 iq136 hq136 H hz135 sq136 => ?_
   have s137 := sq136.toShs Is
   obtain ⟨y138, he139⟩ : ∃ y, ((Af m2).fFl)[(z135).toNat]? = some y := ⟨_, zan (by first | omega | (simp at *; omega))⟩
   refine Sq (y := y138) s137 ⟨_, _, rfl, rfl, rfl, rfl⟩ (.here) (by omega) he139 Ba Ee rfl fun de139 oe139 raw hl hlf re139 hsc se139 => ?_
   obtain ⟨e139r2, le139r2, rfl⟩ := Ju hl hlf hsc
   clear hl hlf hsc
   refine P9 re139 (Bo (cs' := [si y138.fId, ss y138.fM.fTopic, e139r2, si y138.fM.fQos, sb y138.fM.fRetain, si y138.fSt]) se139 B9 (Ac (Aa rfl (Aa rfl (Aa le139r2 rfl)))) rfl (Bb rfl) rfl fun H s140 => Aj (o' := 0) rfl (Gd.bothE ?_ ?_))
   refine Ah s140 C3 rfl (Gd.bothE ?_ ?_)
   refine Bq (cs := [si 4, si 5, si 7]) rfl (Cg s140 fun i141 H s142 => Gd.bothE ?_ ?_)
   refine Ea hcode (by omega) (by omega) rfl s142 C3 (.here) fun z143a iq144 hq144 H mz143 sq144 => ?_
   have s145 := (sq144.pick A7).tail
   obtain ⟨z143, rfl, hz143⟩ := Bd (l := [4, 5, 7]) (lo := 4) (hi := 7) mz143 (by decide)
   refine Au (c := si y138.fId) s145 A7 rfl ?_
   have s146 := s145.ofShs B9
   exact tl68 x46 x47 z143 y138.fId iq144 hq144 _ lx46 lx47 (s146.sel (.cons (.here) (.cons D9 (.cons (.here) (.cons A7 (.cons D9 I7))))))
   refine Au (c := si y138.fId) s142 A7 rfl (Ea hcode (by omega) (by omega) rfl s142 C3 (.here) fun z147a iq148 hq148 H mz147 sq148 => ?_)
   have s149 := (sq148.pick A7).tail
   obtain ⟨z147, rfl, hz147⟩ := Bd (l := [4, 5, 7]) (lo := 4) (hi := 7) mz147 (by decide)
   have s150 := s149.ofShs B9
   exact tl68 x46 x47 z147 y138.fId iq148 hq148 _ lx46 lx47 (s150.sel (.cons (.here) (.cons D9 (.cons (.here) (.cons A7 (.cons D9 I7))))))
   refine Au (c := si y138.fId) s140 (.here) rfl (Bq (cs := [si 4, si 5, si 7]) rfl (Cg s140 fun i151 H s152 => Ea hcode (by omega) (by omega) rfl s152 C3 (.here) fun z153a iq154 hq154 H mz153 sq154 => ?_))
   have s155 := (sq154.pick A7).tail
   obtain ⟨z153, rfl, hz153⟩ := Bd (l := [4, 5, 7]) (lo := 4) (hi := 7) mz153 (by decide)
   have s156 := s155.ofShs B9
   exact tl68 x46 x47 z153 y138.fId iq154 hq154 _ lx46 lx47 (s156.sel (.cons (.here) (.cons D9 (.cons (.here) (.cons A7 (.cons D9 I7))))))
   refine Gd.bothE ?_ ?_
   refine Bq (cs := [si 4, si 5, si 7]) rfl (Cg s140 fun i157 H s158 => Gd.bothE ?_ ?_)
   refine Ah s158 F5 rfl (Gd.bothE ?_ ?_)
   refine Ea hcode (by omega) (by omega) rfl s158 C3 (.here) fun z159a iq160 hq160 H mz159 sq160 => ?_
   have s161 := (sq160.pick A7).tail
   obtain ⟨z159, rfl, hz159⟩ := Bd (l := [4, 5, 7]) (lo := 4) (hi := 7) mz159 (by decide)
   refine Au (c := si y138.fId) s161 A7 rfl ?_
   have s162 := s161.ofShs B9
   exact tl68 x46 x47 z159 y138.fId iq160 hq160 _ lx46 lx47 (s162.sel (.cons (.here) (.cons D9 (.cons (.here) (.cons A7 (.cons D9 I7))))))
   refine Au (c := si y138.fId) s158 A7 rfl (Ea hcode (by omega) (by omega) rfl s158 C3 (.here) fun z163a iq164 hq164 H mz163 sq164 => ?_)
   have s165 := (sq164.pick A7).tail
   obtain ⟨z163, rfl, hz163⟩ := Bd (l := [4, 5, 7]) (lo := 4) (hi := 7) mz163 (by decide)
   have s166 := s165.ofShs B9
   exact tl68 x46 x47 z163 y138.fId iq164 hq164 _ lx46 lx47 (s166.sel (.cons (.here) (.cons D9 (.cons (.here) (.cons A7 (.cons D9 I7))))))
   refine Gd.bothE ?_ ?_
   refine Ea hcode (by omega) (by omega) rfl s158 C3 (.here) fun z167a iq168 hq168 H mz167 sq168 => ?_
   have s169 := (sq168.pick A7).tail
   obtain ⟨z167, rfl, hz167⟩ := Bd (l := [4, 5, 7]) (lo := 4) (hi := 7) mz167 (by decide)
   refine Ah s169 C3 rfl (Au (c := si y138.fId) s169 A7 rfl ?_)
   have s170 := s169.ofShs B9
   exact tl68 x46 x47 z167 y138.fId iq168 hq168 _ lx46 lx47 (s170.sel (.cons (.here) (.cons D9 (.cons (.here) (.cons A7 (.cons D9 I7))))))
   refine Au (c := si y138.fId) s158 A7 rfl (Gd.bothE ?_ ?_)
   refine Ah s158 F5 rfl (Ea hcode (by omega) (by omega) rfl s158 C3 (.here) fun z171a iq172 hq172 H mz171 sq172 => ?_)
   have s173 := (sq172.pick A7).tail
   obtain ⟨z171, rfl, hz171⟩ := Bd (l := [4, 5, 7]) (lo := 4) (hi := 7) mz171 (by decide)
   have s174 := s173.ofShs B9
   exact tl68 x46 x47 z171 y138.fId iq172 hq172 _ lx46 lx47 (s174.sel (.cons (.here) (.cons D9 (.cons (.here) (.cons A7 (.cons D9 I7))))))
   refine Ea hcode (by omega) (by omega) rfl s158 C3 (.here) fun z175a iq176 hq176 H mz175 sq176 => ?_
   have s177 := (sq176.pick A7).tail
   obtain ⟨z175, rfl, hz175⟩ := Bd (l := [4, 5, 7]) (lo := 4) (hi := 7) mz175 (by decide)
   refine Ah s177 C3 rfl ?_
   have s178 := s177.ofShs B9
   exact tl68 x46 x47 z175 y138.fId iq176 hq176 _ lx46 lx47 (s178.sel (.cons (.here) (.cons D9 (.cons (.here) (.cons A7 (.cons D9 I7))))))
   refine Au (c := si y138.fId) s140 (.here) rfl (Gd.bothE ?_ ?_)
   refine Ah s140 C3 rfl (Bq (cs := [si 4, si 5, si 7]) rfl (Cg s140 fun i179 H s180 => Ea hcode (by omega) (by omega) rfl s180 C3 (.here) fun z181a iq182 hq182 H mz181 sq182 => ?_))
   have s183 := (sq182.pick A7).tail
   obtain ⟨z181, rfl, hz181⟩ := Bd (l := [4, 5, 7]) (lo := 4) (hi := 7) mz181 (by decide)
   have s184 := s183.ofShs B9
   exact tl68 x46 x47 z181 y138.fId iq182 hq182 _ lx46 lx47 (s184.sel (.cons (.here) (.cons D9 (.cons (.here) (.cons A7 (.cons D9 I7))))))
   refine Bq (cs := [si 4, si 5, si 7]) rfl (Cg s140 fun i185 H s186 => Gd.bothE ?_ ?_)
   refine Ah s186 F5 rfl (Ea hcode (by omega) (by omega) rfl s186 C3 (.here) fun z187a iq188 hq188 H mz187 sq188 => ?_)
   have s189 := (sq188.pick A7).tail
   obtain ⟨z187, rfl, hz187⟩ := Bd (l := [4, 5, 7]) (lo := 4) (hi := 7) mz187 (by decide)
   have s190 := s189.ofShs B9
   exact tl68 x46 x47 z187 y138.fId iq188 hq188 _ lx46 lx47 (s190.sel (.cons (.here) (.cons D9 (.cons (.here) (.cons A7 (.cons D9 I7))))))
   refine Ea hcode (by omega) (by omega) rfl s186 C3 (.here) fun z191a iq192 hq192 H mz191 sq192 => ?_
   have s193 := (sq192.pick A7).tail
   obtain ⟨z191, rfl, hz191⟩ := Bd (l := [4, 5, 7]) (lo := 4) (hi := 7) mz191 (by decide)
   refine Ah s193 C3 rfl ?_
   have s194 := s193.ofShs B9
   exact tl68 x46 x47 z191 y138.fId iq192 hq192 _ lx46 lx47 (s194.sel (.cons (.here) (.cons D9 (.cons (.here) (.cons A7 (.cons D9 I7))))))
   refine Gd.bothE ?_ ?_
   refine Hs (m := ((((Af m2).fFl).length : Nat) : Int)) hcode (by omega) sq52 (.here) fun z195 iq196 hq196 H hz195 sq196 => Au (c := x46) sq196 A7 rfl ?_
   have s197 := sq196.toShs D9
   obtain ⟨y198, he199⟩ : ∃ y, ((Af m2).fFl)[(z195).toNat]? = some y := ⟨_, zan (by first | omega | (simp at *; omega))⟩
   refine Sq (y := y198) s197 ⟨_, _, rfl, rfl, rfl, rfl⟩ (.here) (by omega) he199 Ba Ee rfl fun de199 oe199 raw hl hlf re199 hsc se199 => ?_
   obtain ⟨e199r2, le199r2, rfl⟩ := Ju hl hlf hsc
   clear hl hlf hsc
   refine P9 re199 (C8 se199 fun i200 H s201 => Bo (cs' := [si y198.fId, ss y198.fM.fTopic, e199r2, si y198.fM.fQos, sb y198.fM.fRetain, si y198.fSt]) s201 (.here) (Ac (Aa rfl (Aa rfl (Aa le199r2 rfl)))) rfl (Bb rfl) rfl fun H s202 => Aj (o' := 0) rfl (Gd.bothE ?_ ?_))
   refine Ah s202 C3 rfl (Gd.bothE ?_ ?_)
   refine Bq (cs := [si 4, si 5, si 7]) rfl (Cg s202 fun i203 H s204 => Gd.bothE ?_ ?_)
   refine Ea hcode (by omega) (by omega) rfl s204 C3 (.here) fun z205a iq206 hq206 H mz205 sq206 => ?_
   have s207 := (sq206.pick A7).tail
   obtain ⟨z205, rfl, hz205⟩ := Bd (l := [4, 5, 7]) (lo := 4) (hi := 7) mz205 (by decide)
   refine Au (c := si y198.fId) s207 A7 rfl ?_
   have s208 := s207.ofShs B9
   exact tl68 x46 x47 z205 y198.fId iq206 hq206 _ lx46 lx47 (s208.sel (.cons (.here) (.cons D9 (.cons (.here) (.cons A7 (.cons D9 I7))))))
   refine Au (c := si y198.fId) s204 A7 rfl (Ea hcode (by omega) (by omega) rfl s204 C3 (.here) fun z209a iq210 hq210 H mz209 sq210 => ?_)
   have s211 := (sq210.pick A7).tail
   obtain ⟨z209, rfl, hz209⟩ := Bd (l := [4, 5, 7]) (lo := 4) (hi := 7) mz209 (by decide)
   have s212 := s211.ofShs B9
   exact tl68 x46 x47 z209 y198.fId iq210 hq210 _ lx46 lx47 (s212.sel (.cons (.here) (.cons D9 (.cons (.here) (.cons A7 (.cons D9 I7))))))
   refine Au (c := si y198.fId) s202 (.here) rfl (Bq (cs := [si 4, si 5, si 7]) rfl (Cg s202 fun i213 H s214 => Ea hcode (by omega) (by omega) rfl s214 C3 (.here) fun z215a iq216 hq216 H mz215 sq216 => ?_))
   have s217 := (sq216.pick A7).tail
   obtain ⟨z215, rfl, hz215⟩ := Bd (l := [4, 5, 7]) (lo := 4) (hi := 7) mz215 (by decide)
   have s218 := s217.ofShs B9
   exact tl68 x46 x47 z215 y198.fId iq216 hq216 _ lx46 lx47 (s218.sel (.cons (.here) (.cons D9 (.cons (.here) (.cons A7 (.cons D9 I7))))))
   refine Gd.bothE ?_ ?_
   refine Bq (cs := [si 4, si 5, si 7]) rfl (Cg s202 fun i219 H s220 => Gd.bothE ?_ ?_)
   refine Ah s220 F5 rfl (Gd.bothE ?_ ?_)
   refine Ea hcode (by omega) (by omega) rfl s220 C3 (.here) fun z221a iq222 hq222 H mz221 sq222 => ?_
   have s223 := (sq222.pick A7).tail
   obtain ⟨z221, rfl, hz221⟩ := Bd (l := [4, 5, 7]) (lo := 4) (hi := 7) mz221 (by decide)
   refine Au (c := si y198.fId) s223 A7 rfl ?_
   have s224 := s223.ofShs B9
   exact tl68 x46 x47 z221 y198.fId iq222 hq222 _ lx46 lx47 (s224.sel (.cons (.here) (.cons D9 (.cons (.here) (.cons A7 (.cons D9 I7))))))
   refine Au (c := si y198.fId) s220 A7 rfl (Ea hcode (by omega) (by omega) rfl s220 C3 (.here) fun z225a iq226 hq226 H mz225 sq226 => ?_)
   have s227 := (sq226.pick A7).tail
   obtain ⟨z225, rfl, hz225⟩ := Bd (l := [4, 5, 7]) (lo := 4) (hi := 7) mz225 (by decide)
   have s228 := s227.ofShs B9
   exact tl68 x46 x47 z225 y198.fId iq226 hq226 _ lx46 lx47 (s228.sel (.cons (.here) (.cons D9 (.cons (.here) (.cons A7 (.cons D9 I7))))))
   refine Gd.bothE ?_ ?_
   refine Ea hcode (by omega) (by omega) rfl s220 C3 (.here) fun z229a iq230 hq230 H mz229 sq230 => ?_
   have s231 := (sq230.pick A7).tail
   obtain ⟨z229, rfl, hz229⟩ := Bd (l := [4, 5, 7]) (lo := 4) (hi := 7) mz229 (by decide)
   refine Ah s231 C3 rfl (Au (c := si y198.fId) s231 A7 rfl ?_)
   have s232 := s231.ofShs B9
   exact tl68 x46 x47 z229 y198.fId iq230 hq230 _ lx46 lx47 (s232.sel (.cons (.here) (.cons D9 (.cons (.here) (.cons A7 (.cons D9 I7))))))
   refine Au (c := si y198.fId) s220 A7 rfl (Gd.bothE ?_ ?_)
   refine Ah s220 F5 rfl (Ea hcode (by omega) (by omega) rfl s220 C3 (.here) fun z233a iq234 hq234 H mz233 sq234 => ?_)
   have s235 := (sq234.pick A7).tail
   obtain ⟨z233, rfl, hz233⟩ := Bd (l := [4, 5, 7]) (lo := 4) (hi := 7) mz233 (by decide)
   have s236 := s235.ofShs B9
   exact tl68 x46 x47 z233 y198.fId iq234 hq234 _ lx46 lx47 (s236.sel (.cons (.here) (.cons D9 (.cons (.here) (.cons A7 (.cons D9 I7))))))
   refine Ea hcode (by omega) (by omega) rfl s220 C3 (.here) fun z237a iq238 hq238 H mz237 sq238 => ?_
   have s239 := (sq238.pick A7).tail
   obtain ⟨z237, rfl, hz237⟩ := Bd (l := [4, 5, 7]) (lo := 4) (hi := 7) mz237 (by decide)
   refine Ah s239 C3 rfl ?_
   have s240 := s239.ofShs B9
   exact tl68 x46 x47 z237 y198.fId iq238 hq238 _ lx46 lx47 (s240.sel (.cons (.here) (.cons D9 (.cons (.here) (.cons A7 (.cons D9 I7))))))
   refine Au (c := si y198.fId) s202 (.here) rfl (Gd.bothE ?_ ?_)
   refine Ah s202 C3 rfl (Bq (cs := [si 4, si 5, si 7]) rfl (Cg s202 fun i241 H s242 => Ea hcode (by omega) (by omega) rfl s242 C3 (.here) fun z243a iq244 hq244 H mz243 sq244 => ?_))
   have s245 := (sq244.pick A7).tail
   obtain ⟨z243, rfl, hz243⟩ := Bd (l := [4, 5, 7]) (lo := 4) (hi := 7) mz243 (by decide)
   have s246 := s245.ofShs B9
   exact tl68 x46 x47 z243 y198.fId iq244 hq244 _ lx46 lx47 (s246.sel (.cons (.here) (.cons D9 (.cons (.here) (.cons A7 (.cons D9 I7))))))
   refine Bq (cs := [si 4, si 5, si 7]) rfl (Cg s202 fun i247 H s248 => Gd.bothE ?_ ?_)
   refine Ah s248 F5 rfl (Ea hcode (by omega) (by omega) rfl s248 C3 (.here) fun z249a iq250 hq250 H mz249 sq250 => ?_)
   have s251 := (sq250.pick A7).tail
   obtain ⟨z249, rfl, hz249⟩ := Bd (l := [4, 5, 7]) (lo := 4) (hi := 7) mz249 (by decide)
   have s252 := s251.ofShs B9
   exact tl68 x46 x47 z249 y198.fId iq250 hq250 _ lx46 lx47 (s252.sel (.cons (.here) (.cons D9 (.cons (.here) (.cons A7 (.cons D9 I7))))))
   refine Ea hcode (by omega) (by omega) rfl s248 C3 (.here) fun z253a iq254 hq254 H mz253 sq254 => ?_
   have s255 := (sq254.pick A7).tail
   obtain ⟨z253, rfl, hz253⟩ := Bd (l := [4, 5, 7]) (lo := 4) (hi := 7) mz253 (by decide)
   refine Ah s255 C3 rfl ?_
   have s256 := s255.ofShs B9
   exact tl68 x46 x47 z253 y198.fId iq254 hq254 _ lx46 lx47 (s256.sel (.cons (.here) (.cons D9 (.cons (.here) (.cons A7 (.cons D9 I7))))))
   refine C8 sq52 fun i257 H s258 => Gd.bothE ?_ ?_
   refine Au (c := x46) s258 B9 rfl (Hs (m := ((((Af m2).fFl).length : Nat) : Int)) hcode (by omega) s258 A7 fun z259 iq260 hq260 H hz259 sq260 => ?_)
   have s261 := sq260.toShs Is
   obtain ⟨y262, he263⟩ : ∃ y, ((Af m2).fFl)[(z259).toNat]? = some y := ⟨_, zan (by first | omega | (simp at *; omega))⟩
   refine Sq (y := y262) s261 ⟨_, _, rfl, rfl, rfl, rfl⟩ (.here) (by omega) he263 Ba Ee rfl fun de263 oe263 raw hl hlf re263 hsc se263 => ?_
   obtain ⟨e263r2, le263r2, rfl⟩ := Ju hl hlf hsc
   clear hl hlf hsc
   refine P9 re263 (Bo (cs' := [si y262.fId, ss y262.fM.fTopic, e263r2, si y262.fM.fQos, sb y262.fM.fRetain, si y262.fSt]) se263 B9 (Ac (Aa rfl (Aa rfl (Aa le263r2 rfl)))) rfl (Bb rfl) rfl fun H s264 => Aj (o' := 0) rfl (Gd.bothE ?_ ?_))
   refine Ah s264 C3 rfl (Gd.bothE ?_ ?_)
   refine Bq (cs := [si 4, si 5, si 7]) rfl (Cg s264 fun i265 H s266 => Gd.bothE ?_ ?_)
   refine Ea hcode (by omega) (by omega) rfl s266 C3 (.here) fun z267a iq268 hq268 H mz267 sq268 => ?_
   have s269 := (sq268.pick A7).tail
   obtain ⟨z267, rfl, hz267⟩ := Bd (l := [4, 5, 7]) (lo := 4) (hi := 7) mz267 (by decide)
   refine Au (c := si y262.fId) s269 A7 rfl ?_
   have s270 := s269.ofShs B9
   exact tl68 x46 x47 z267 y262.fId iq268 hq268 _ lx46 lx47 (s270.sel (.cons (.here) (.cons D9 (.cons (.here) (.cons A7 (.cons D9 I7))))))
   refine Au (c := si y262.fId) s266 A7 rfl (Ea hcode (by omega) (by omega) rfl s266 C3 (.here) fun z271a iq272 hq272 H mz271 sq272 => ?_)
   have s273 := (sq272.pick A7).tail
   obtain ⟨z271, rfl, hz271⟩ := Bd (l := [4, 5, 7]) (lo := 4) (hi := 7) mz271 (by decide)
   have s274 := s273.ofShs B9
   exact tl68 x46 x47 z271 y262.fId iq272 hq272 _ lx46 lx47 (s274.sel (.cons (.here) (.cons D9 (.cons (.here) (.cons A7 (.cons D9 I7))))))
   refine Au (c := si y262.fId) s264 (.here) rfl (Bq (cs := [si 4, si 5, si 7]) rfl (Cg s264 fun i275 H s276 => Ea hcode (by omega) (by omega) rfl s276 C3 (.here) fun z277a iq278 hq278 H mz277 sq278 => ?_))
   have s279 := (sq278.pick A7).tail
   obtain ⟨z277, rfl, hz277⟩ := Bd (l := [4, 5, 7]) (lo := 4) (hi := 7) mz277 (by decide)
   have s280 := s279.ofShs B9
   exact tl68 x46 x47 z277 y262.fId iq278 hq278 _ lx46 lx47 (s280.sel (.cons (.here) (.cons D9 (.cons (.here) (.cons A7 (.cons D9 I7))))))
   refine Gd.bothE ?_ ?_
   refine Bq (cs := [si 4, si 5, si 7]) rfl (Cg s264 fun i281 H s282 => Gd.bothE ?_ ?_)
   refine Ah s282 F5 rfl (Gd.bothE ?_ ?_)
   refine Ea hcode (by omega) (by omega) rfl s282 C3 (.here) fun z283a iq284 hq284 H mz283 sq284 => ?_
   have s285 := (sq284.pick A7).tail
   obtain ⟨z283, rfl, hz283⟩ := Bd (l := [4, 5, 7]) (lo := 4) (hi := 7) mz283 (by decide)
   refine Au (c := si y262.fId) s285 A7 rfl ?_
   have s286 := s285.ofShs B9
   exact tl68 x46 x47 z283 y262.fId iq284 hq284 _ lx46 lx47 (s286.sel (.cons (.here) (.cons D9 (.cons (.here) (.cons A7 (.cons D9 I7))))))
   refine Au (c := si y262.fId) s282 A7 rfl (Ea hcode (by omega) (by omega) rfl s282 C3 (.here) fun z287a iq288 hq288 H mz287 sq288 => ?_)
   have s289 := (sq288.pick A7).tail
   obtain ⟨z287, rfl, hz287⟩ := Bd (l := [4, 5, 7]) (lo := 4) (hi := 7) mz287 (by decide)
   have s290 := s289.ofShs B9
   exact tl68 x46 x47 z287 y262.fId iq288 hq288 _ lx46 lx47 (s290.sel (.cons (.here) (.cons D9 (.cons (.here) (.cons A7 (.cons D9 I7))))))
   refine Gd.bothE ?_ ?_
   refine Ea hcode (by omega) (by omega) rfl s282 C3 (.here) fun z291a iq292 hq292 H mz291 sq292 => ?_
   have s293 := (sq292.pick A7).tail
   obtain ⟨z291, rfl, hz291⟩ := Bd (l := [4, 5, 7]) (lo := 4) (hi := 7) mz291 (by decide)
   refine Ah s293 C3 rfl (Au (c := si y262.fId) s293 A7 rfl ?_)
   have s294 := s293.ofShs B9
   exact tl68 x46 x47 z291 y262.fId iq292 hq292 _ lx46 lx47 (s294.sel (.cons (.here) (.cons D9 (.cons (.here) (.cons A7 (.cons D9 I7))))))
   refine Au (c := si y262.fId) s282 A7 rfl (Gd.bothE ?_ ?_)
   refine Ah s282 F5 rfl (Ea hcode (by omega) (by omega) rfl s282 C3 (.here) fun z295a iq296 hq296 H mz295 sq296 => ?_)
   have s297 := (sq296.pick A7).tail
   obtain ⟨z295, rfl, hz295⟩ := Bd (l := [4, 5, 7]) (lo := 4) (hi := 7) mz295 (by decide)
   have s298 := s297.ofShs B9
   exact tl68 x46 x47 z295 y262.fId iq296 hq296 _ lx46 lx47 (s298.sel (.cons (.here) (.cons D9 (.cons (.here) (.cons A7 (.cons D9 I7))))))
   refine Ea hcode (by omega) (by omega) rfl s282 C3 (.here) fun z299a iq300 hq300 H mz299 sq300 => ?_
   have s301 := (sq300.pick A7).tail
   obtain ⟨z299, rfl, hz299⟩ := Bd (l := [4, 5, 7]) (lo := 4) (hi := 7) mz299 (by decide)
   refine Ah s301 C3 rfl ?_
   have s302 := s301.ofShs B9
   exact tl68 x46 x47 z299 y262.fId iq300 hq300 _ lx46 lx47 (s302.sel (.cons (.here) (.cons D9 (.cons (.here) (.cons A7 (.cons D9 I7))))))
   refine Au (c := si y262.fId) s264 (.here) rfl (Gd.bothE ?_ ?_)
   refine Ah s264 C3 rfl (Bq (cs := [si 4, si 5, si 7]) rfl (Cg s264 fun i303 H s304 => Ea hcode (by omega) (by omega) rfl s304 C3 (.here) fun z305a iq306 hq306 H mz305 sq306 => ?_))
   have s307 := (sq306.pick A7).tail
   obtain ⟨z305, rfl, hz305⟩ := Bd (l := [4, 5, 7]) (lo := 4) (hi := 7) mz305 (by decide)
   have s308 := s307.ofShs B9
   exact tl68 x46 x47 z305 y262.fId iq306 hq306 _ lx46 lx47 (s308.sel (.cons (.here) (.cons D9 (.cons (.here) (.cons A7 (.cons D9 I7))))))
   refine Bq (cs := [si 4, si 5, si 7]) rfl (Cg s264 fun i309 H s310 => Gd.bothE ?_ ?_)
   refine Ah s310 F5 rfl (Ea hcode (by omega) (by omega) rfl s310 C3 (.here) fun z311a iq312 hq312 H mz311 sq312 => ?_)
   have s313 := (sq312.pick A7).tail
   obtain ⟨z311, rfl, hz311⟩ := Bd (l := [4, 5, 7]) (lo := 4) (hi := 7) mz311 (by decide)
   have s314 := s313.ofShs B9
   exact tl68 x46 x47 z311 y262.fId iq312 hq312 _ lx46 lx47 (s314.sel (.cons (.here) (.cons D9 (.cons (.here) (.cons A7 (.cons D9 I7))))))
   refine Ea hcode (by omega) (by omega) rfl s310 C3 (.here) fun z315a iq316 hq316 H mz315 sq316 => ?_
   have s317 := (sq316.pick A7).tail
   obtain ⟨z315, rfl, hz315⟩ := Bd (l := [4, 5, 7]) (lo := 4) (hi := 7) mz315 (by decide)
   refine Ah s317 C3 rfl ?_
   have s318 := s317.ofShs B9
   exact tl68 x46 x47 z315 y262.fId iq316 hq316 _ lx46 lx47 (s318.sel (.cons (.here) (.cons D9 (.cons (.here) (.cons A7 (.cons D9 I7))))))
   refine Hs (m := ((((Af m2).fFl).length : Nat) : Int)) hcode (by omega) s258 A7 fun z319 iq320 hq320 H hz319 sq320 => Au (c := x46) sq320 B9 rfl ?_
   have s321 := sq320.toShs Is
   obtain ⟨y322, he323⟩ : ∃ y, ((Af m2).fFl)[(z319).toNat]? = some y := ⟨_, zan (by first | omega | (simp at *; omega))⟩
   refine Sq (y := y322) s321 ⟨_, _, rfl, rfl, rfl, rfl⟩ (.here) (by omega) he323 Ba Ee rfl fun de323 oe323 raw hl hlf re323 hsc se323 => ?_
   obtain ⟨e323r2, le323r2, rfl⟩ := Ju hl hlf hsc
   clear hl hlf hsc
   refine P9 re323 (Bo (cs' := [si y322.fId, ss y322.fM.fTopic, e323r2, si y322.fM.fQos, sb y322.fM.fRetain, si y322.fSt]) se323 B9 (Ac (Aa rfl (Aa rfl (Aa le323r2 rfl)))) rfl (Bb rfl) rfl fun H s324 => Aj (o' := 0) rfl (Gd.bothE ?_ ?_))
   refine Ah s324 C3 rfl (Gd.bothE ?_ ?_)
   refine Bq (cs := [si 4, si 5, si 7]) rfl (Cg s324 fun i325 H s326 => Gd.bothE ?_ ?_)
   refine Ea hcode (by omega) (by omega) rfl s326 C3 (.here) fun z327a iq328 hq328 H mz327 sq328 => ?_
   have s329 := (sq328.pick A7).tail
   obtain ⟨z327, rfl, hz327⟩ := Bd (l := [4, 5, 7]) (lo := 4) (hi := 7) mz327 (by decide)
   refine Au (c := si y322.fId) s329 A7 rfl ?_
   have s330 := s329.ofShs B9
   exact tl68 x46 x47 z327 y322.fId iq328 hq328 _ lx46 lx47 (s330.sel (.cons (.here) (.cons D9 (.cons (.here) (.cons A7 (.cons D9 I7))))))
   refine Au (c := si y322.fId) s326 A7 rfl (Ea hcode (by omega) (by omega) rfl s326 C3 (.here) fun z331a iq332 hq332 H mz331 sq332 => ?_)
   have s333 := (sq332.pick A7).tail
   obtain ⟨z331, rfl, hz331⟩ := Bd (l := [4, 5, 7]) (lo := 4) (hi := 7) mz331 (by decide)
   have s334 := s333.ofShs B9
   exact tl68 x46 x47 z331 y322.fId iq332 hq332 _ lx46 lx47 (s334.sel (.cons (.here) (.cons D9 (.cons (.here) (.cons A7 (.cons D9 I7))))))
   refine Au (c := si y322.fId) s324 (.here) rfl (Bq (cs := [si 4, si 5, si 7]) rfl (Cg s324 fun i335 H s336 => Ea hcode (by omega) (by omega) rfl s336 C3 (.here) fun z337a iq338 hq338 H mz337 sq338 => ?_))
   have s339 := (sq338.pick A7).tail
   obtain ⟨z337, rfl, hz337⟩ := Bd (l := [4, 5, 7]) (lo := 4) (hi := 7) mz337 (by decide)
   have s340 := s339.ofShs B9
   exact tl68 x46 x47 z337 y322.fId iq338 hq338 _ lx46 lx47 (s340.sel (.cons (.here) (.cons D9 (.cons (.here) (.cons A7 (.cons D9 I7))))))
   refine Gd.bothE ?_ ?_
   refine Bq (cs := [si 4, si 5, si 7]) rfl (Cg s324 fun i341 H s342 => Gd.bothE ?_ ?_)
   refine Ah s342 F5 rfl (Gd.bothE ?_ ?_)
   refine Ea hcode (by omega) (by omega) rfl s342 C3 (.here) fun z343a iq344 hq344 H mz343 sq344 => ?_
   have s345 := (sq344.pick A7).tail
   obtain ⟨z343, rfl, hz343⟩ := Bd (l := [4, 5, 7]) (lo := 4) (hi := 7) mz343 (by decide)
   refine Au (c := si y322.fId) s345 A7 rfl ?_
   have s346 := s345.ofShs B9
   exact tl68 x46 x47 z343 y322.fId iq344 hq344 _ lx46 lx47 (s346.sel (.cons (.here) (.cons D9 (.cons (.here) (.cons A7 (.cons D9 I7))))))
   refine Au (c := si y322.fId) s342 A7 rfl (Ea hcode (by omega) (by omega) rfl s342 C3 (.here) fun z347a iq348 hq348 H mz347 sq348 => ?_)
   have s349 := (sq348.pick A7).tail
   obtain ⟨z347, rfl, hz347⟩ := Bd (l := [4, 5, 7]) (lo := 4) (hi := 7) mz347 (by decide)
   have s350 := s349.ofShs B9
   exact tl68 x46 x47 z347 y322.fId iq348 hq348 _ lx46 lx47 (s350.sel (.cons (.here) (.cons D9 (.cons (.here) (.cons A7 (.cons D9 I7))))))
   refine Gd.bothE ?_ ?_
   refine Ea hcode (by omega) (by omega) rfl s342 C3 (.here) fun z351a iq352 hq352 H mz351 sq352 => ?_
   have s353 := (sq352.pick A7).tail
   obtain ⟨z351, rfl, hz351⟩ := Bd (l := [4, 5, 7]) (lo := 4) (hi := 7) mz351 (by decide)
   refine Ah s353 C3 rfl (Au (c := si y322.fId) s353 A7 rfl ?_)
   have s354 := s353.ofShs B9
   exact tl68 x46 x47 z351 y322.fId iq352 hq352 _ lx46 lx47 (s354.sel (.cons (.here) (.cons D9 (.cons (.here) (.cons A7 (.cons D9 I7))))))
   refine Au (c := si y322.fId) s342 A7 rfl (Gd.bothE ?_ ?_)
   refine Ah s342 F5 rfl (Ea hcode (by omega) (by omega) rfl s342 C3 (.here) fun z355a iq356 hq356 H mz355 sq356 => ?_)
   have s357 := (sq356.pick A7).tail
   obtain ⟨z355, rfl, hz355⟩ := Bd (l := [4, 5, 7]) (lo := 4) (hi := 7) mz355 (by decide)
   have s358 := s357.ofShs B9
   exact tl68 x46 x47 z355 y322.fId iq356 hq356 _ lx46 lx47 (s358.sel (.cons (.here) (.cons D9 (.cons (.here) (.cons A7 (.cons D9 I7))))))
   refine Ea hcode (by omega) (by omega) rfl s342 C3 (.here) fun z359a iq360 hq360 H mz359 sq360 => ?_
   have s361 := (sq360.pick A7).tail
   obtain ⟨z359, rfl, hz359⟩ := Bd (l := [4, 5, 7]) (lo := 4) (hi := 7) mz359 (by decide)
   refine Ah s361 C3 rfl ?_
   have s362 := s361.ofShs B9
   exact tl68 x46 x47 z359 y322.fId iq360 hq360 _ lx46 lx47 (s362.sel (.cons (.here) (.cons D9 (.cons (.here) (.cons A7 (.cons D9 I7))))))
   refine Au (c := si y322.fId) s324 (.here) rfl (Gd.bothE ?_ ?_)
   refine Ah s324 C3 rfl (Bq (cs := [si 4, si 5, si 7]) rfl (Cg s324 fun i363 H s364 => Ea hcode (by omega) (by omega) rfl s364 C3 (.here) fun z365a iq366 hq366 H mz365 sq366 => ?_))
   have s367 := (sq366.pick A7).tail
   obtain ⟨z365, rfl, hz365⟩ := Bd (l := [4, 5, 7]) (lo := 4) (hi := 7) mz365 (by decide)
   have s368 := s367.ofShs B9
   exact tl68 x46 x47 z365 y322.fId iq366 hq366 _ lx46 lx47 (s368.sel (.cons (.here) (.cons D9 (.cons (.here) (.cons A7 (.cons D9 I7))))))
   refine Bq (cs := [si 4, si 5, si 7]) rfl (Cg s324 fun i369 H s370 => Gd.bothE ?_ ?_)
   refine Ah s370 F5 rfl (Ea hcode (by omega) (by omega) rfl s370 C3 (.here) fun z371a iq372 hq372 H mz371 sq372 => ?_)
   have s373 := (sq372.pick A7).tail
   obtain ⟨z371, rfl, hz371⟩ := Bd (l := [4, 5, 7]) (lo := 4) (hi := 7) mz371 (by decide)
   have s374 := s373.ofShs B9
   exact tl68 x46 x47 z371 y322.fId iq372 hq372 _ lx46 lx47 (s374.sel (.cons (.here) (.cons D9 (.cons (.here) (.cons A7 (.cons D9 I7))))))
   refine Ea hcode (by omega) (by omega) rfl s370 C3 (.here) fun z375a iq376 hq376 H mz375 sq376 => ?_
   have s377 := (sq376.pick A7).tail
   obtain ⟨z375, rfl, hz375⟩ := Bd (l := [4, 5, 7]) (lo := 4) (hi := 7) mz375 (by decide)
   refine Ah s377 C3 rfl ?_
   have s378 := s377.ofShs B9
   exact tl68 x46 x47 z375 y322.fId iq376 hq376 _ lx46 lx47 (s378.sel (.cons (.here) (.cons D9 (.cons (.here) (.cons A7 (.cons D9 I7))))))
   refine Bt h53 (Um (by omega) (by omega) ?_)
   have e379 : OutB 80 (⟨(Af m2).fLast, ((Af m2).fFl), ((Af m2).fQ)⟩ : Bm) ∧ j ≤ 5 := by
    refine ⟨?_, by omega⟩; first | exact hinv.1 | exact Jh hinv.1 | exact Wi (Jh hinv.1) | (apply E9 <;> first | assumption | omega | (unfold G2; omega) | (intro z hz; cases hz; done) | (show 0 + _ ≤ _; omega))
   exact ih m _ (⟨(Af m2).fLast, ((Af m2).fFl), ((Af m2).fQ)⟩ : Bm) x46 x47 iq52 hq52 _ (by omega) (by omega) lx46 lx47 e379 (sq52.sel (.cons D9 (.cons Ua (.cons (.here) (.cons (.here) (.cons Ua zS8))))))
   refine El h50 (El h50 (F1 h50 (Bt rfl (Um (by omega) (by omega) ?_))))
   have e380 : OutB 80 (⟨(Af m2).fLast, ((Af m2).fFl), ((Af m2).fQ)⟩ : Bm) ∧ j ≤ 5 := by
    refine ⟨?_, by omega⟩; first | exact hinv.1 | exact Jh hinv.1 | exact Wi (Jh hinv.1) | (apply E9 <;> first | assumption | omega | (unfold G2; omega) | (intro z hz; cases hz; done) | (show 0 + _ ≤ _; omega))
   exact ih m _ (⟨(Af m2).fLast, ((Af m2).fFl), ((Af m2).fQ)⟩ : Bm) x46 x47 i h _ (by omega) (by omega) lx46 lx47 e380 (s49.sel (.cons Ua (.cons Yh (.cons D9 (.cons (.here) (.cons Ua zS8))))))
 have s381 := sq15.nl (ty := 24) ⟨_, _, rfl, rfl⟩
 have e382 : OutB 80 (⟨z5, [], r11⟩ : Bm) ∧ (z14).toNat ≤ 5 := by
  refine ⟨?_, by omega⟩; first | exact hinv.1 | exact Jh hinv.1 | exact Wi (Jh hinv.1) | (apply E9 <;> first | assumption | omega | (unfold G2; omega) | (intro z hz; cases hz; done) | (show 0 + _ ≤ _; omega))
 exact lp16 (z14).toNat _ _ (⟨z5, [], r11⟩ : Bm) .nl r11x iq15 hq15 _ (by omega) (by omega) rfl lr11x e382 (s381.sel (.cons (.here) (.cons B9 (.cons (.here) (.cons (.here) (.cons (.here) .rest))))))
theorem AgH (n : Nat) (hn : 1048576 < n) (code : ByteArray) (hcode : code.size ≤ 1048576) (c i : Nat) (h : Int)   {β : Type} {r : Option β} {KH : KO β} {H : Ab} {L : List Ck} (s0 : Sep H (Cr c code i h :: L)) (hk : ∀ (r0 : Bm) (r0x1 : AV) (r0x2 : AV) (i' : Nat) (h' : Int) (H' : Ab), (Ar r0x1 = true) → (Ar r0x2 = true) → (OutB 400 r0) → Sep H' (.own r0x1 24 (Al Aq r0.fFl) :: .own r0x2 25 (Al Ak r0.fQ) :: Cr c code i' h' :: L) → Gd (· = r) (KH (.agg [.sc (.int .i64 r0.fLast), r0x1, r0x2]) H')) : Gd (· = r) (Dz E0 (n + 18) β 41 [.ptr c 0] H fun x H => KH x H) := by
 rw [Aij, f41]
 try simp only [C1, Bx, B8, Bn, Bs, Bf, Ay, B0, B5, Bw, C6]
 refine C8 s0 fun i1 H s2 => Ik rfl rfl (AeZ _ (by omega) code hcode c i h   (s2.pick A7) fun r3 r3x1 r3x2 iq4 hq4 H lr3x1 lr3x2 hr3 sq4 => ?_)
 have kr3 := hr3
 obtain ⟨⟨oar3, obr3, ocr3⟩, wr3⟩ := kr3
 have gr3 := Hl hr3
 refine C8 sq4 fun i5 H s6 => Bo (cs' := [si r3.fLast, r3x1, r3x2]) s6 (.here) (Ac (Aa rfl (Aa lr3x1 (Aa lr3x2 rfl)))) rfl (Bb rfl) rfl fun H s7 => Hs (m := 14) hcode (by omega) s7 C3 fun z8 iq9 hq9 H hz8 sq9 => ?_
 replace hz8 : 0 ≤ z8 ∧ z8 < 14 := by omega
 refine Bh (Ag ((decide (z8 = 0))) (fun h10 => ?_) fun h10 => ?_)
 refine Co h10 (Bq (cs := [si (-1), si 65536]) rfl (Cg sq9 fun i11 H s12 => Ea hcode (by omega) (by omega) rfl s12 A7 (.here) fun z13a iq14 hq14 H mz13 sq14 => ?_))
 have s15 := (sq14.pick A7).tail
 obtain ⟨z13, rfl, hz13⟩ := Bd (l := [(-1), 65536]) (lo := -1) (hi := 65536) mz13 (by decide)
 refine Aj (o' := 0) rfl (B4 s15 A7 rfl rfl fun H s16 => Ah s16 (.here) rfl (Bo (cs' := [si z13, r3x1, r3x2]) s16 F5 (Ac (Aa rfl (Aa lr3x1 (Aa lr3x2 rfl)))) rfl (Bb rfl) rfl fun H s17 => Ah s17 (.here) rfl ?_))
 have e18 : OutB 400 (⟨z13, r3.fFl, r3.fQ⟩ : Bm) := by
  apply E9 <;> first | assumption | omega | (unfold G2; omega) | (refine za5.2 ⟨by assumption, ?_⟩; intro z hz; simp only [za2, zaK, or_false] at hz; rcases hz with rfl | rfl <;> (simp only [B6, De, M1, G2]; decide)) | (rw [Fm]; exact za1 (zaD (zaG (by decide : F6 Az _ ≤ 4) _) _) (by omega))
 exact hk (⟨z13, r3.fFl, r3.fQ⟩ : Bm) r3x1 r3x2 iq14 hq14 _ lr3x1 lr3x2 e18 (s17.sel (.cons C3 (.cons C3 (.cons B9 V9))))
 refine Bt h10 (Bh (Ag ((decide (z8 = 1))) (fun h19 => ?_) fun h19 => ?_))
 refine Co h19 (Ik rfl rfl (Acw _ (by omega) code hcode c iq9 hq9   (sq9.pick (.here)) fun r20 r20x iq21 hq21 H lr20x hr20 sq21 => ?_))
 obtain ⟨or20, wr20⟩ := hr20
 have gr20 := Jl Bv r20
 refine Aj (o' := 2) rfl (B4 sq21 B9 lr20x rfl fun H s22 => Ah s22 (.here) rfl (Bo (cs' := [si r3.fLast, r3x1, r20x]) s22 Oi (Ac (Aa rfl (Aa lr3x1 (Aa lr20x rfl)))) rfl (Bb rfl) rfl fun H s23 => Ah s23 (.here) rfl ?_))
 have e24 : OutB 400 (⟨r3.fLast, r3.fFl, r20⟩ : Bm) := by
  apply E9 <;> first | assumption | omega | (unfold G2; omega) | (refine za5.2 ⟨by assumption, ?_⟩; intro z hz; simp only [za2, zaK, or_false] at hz; rcases hz with rfl | rfl <;> (simp only [B6, De, M1, G2]; decide)) | (rw [Fm]; exact za1 (zaD (zaG (by decide : F6 Az _ ≤ 4) _) _) (by omega))
 exact hk (⟨r3.fLast, r3.fFl, r20⟩ : Bm) r3x1 r20x iq21 hq21 _ lr3x1 lr20x e24 (s23.sel (.cons F5 (.cons B9 (.cons B9 zS3))))
 refine Bt h19 (Bh (Ag ((decide (z8 = 2))) (fun h25 => ?_) fun h25 => ?_))
 refine Co h25 (Aj (o' := 1) rfl (Au (c := r3x1) sq9 A7 rfl (Hh sq9 B9 (Mg (Ag ((decide (0 < ((r3.fFl.length : Nat) : Int)))) (fun h26 => ?_) fun h26 => ?_)))))
 refine Co h26 (Aj (o' := 1) rfl (Gd.bothE ?_ ?_))
 refine Au (c := r3x1) sq9 A7 rfl (Bq (cs := [i0, si 1, si 2, si 65536]) rfl (Cg sq9 fun i27 H s28 => Ea hcode (by omega) (by omega) rfl s28 A7 (.here) fun z29a iq30 hq30 H mz29 sq30 => ?_))
 have s31 := (sq30.pick A7).tail
 obtain ⟨z29, rfl, hz29⟩ := Bd (l := [0, 1, 2, 65536]) (lo := 0) (hi := 65536) mz29 (by decide)
 obtain ⟨y33, he32⟩ : ∃ y, (r3.fFl)[(0 : Int).toNat]? = some y := ⟨_, zan (by first | omega | (simp at *; omega))⟩
 refine Il (y := y33) (y' := ({ y33 with fId := z29 } : Ae)) (k := 0) (v := (.int .i64 y33.fId)) s31 ⟨_, _, rfl, rfl, rfl, rfl⟩ B9 (by omega) he32 Ba (by omega) rfl rfl rfl fun H s34 => ?_
 have he32sy := M0 (p := B6) obr3 he32
 have he32sw := Jt Az (r3.fFl) (0 : Int).toNat y33 ({ y33 with fId := z29 } : Ae) he32
 have he32sv : Az ({ y33 with fId := z29 } : Ae) = Az y33 ∨ Az ({ y33 with fId := z29 } : Ae) ≤ 102 := by first | exact .inl rfl | (right; show Bv _ + 0 ≤ 102; omega)
 have he32so : B6 ({ y33 with fId := z29 } : Ae) := ⟨by first | exact he32sy.1 | (simp only [G2]; omega), by first | exact he32sy.2.1 | assumption, by first | exact he32sy.2.2 | (simp only [G2]; omega)⟩
 have he32sa := Kk (p := B6) (i := (0 : Int).toNat) obr3 he32so
 refine Ah s34 B9 rfl (Bo (cs' := [si r3.fLast, r3x1, r3x2]) s34 F5 (Ac (Aa rfl (Aa lr3x1 (Aa lr3x2 rfl)))) rfl (Bb rfl) rfl fun H s35 => Ah s35 (.here) rfl ?_)
 have e36 : OutB 400 (⟨r3.fLast, (r3.fFl.set (0 : Int).toNat ({ y33 with fId := z29 } : Ae)), r3.fQ⟩ : Bm) := by
  apply E9 <;> first | assumption | omega | (unfold G2; omega) | (refine za5.2 ⟨by assumption, ?_⟩; intro z hz; simp only [za2, zaK, or_false] at hz; rcases hz with rfl | rfl <;> (simp only [B6, De, M1, G2]; decide)) | (rw [Fm]; exact za1 (zaD (zaG (by decide : F6 Az _ ≤ 4) _) _) (by omega))
 exact hk (⟨r3.fLast, (r3.fFl.set (0 : Int).toNat ({ y33 with fId := z29 } : Ae)), r3.fQ⟩ : Bm) r3x1 r3x2 iq30 hq30 _ lr3x1 lr3x2 e36 (s35.sel (.cons A7 (.cons C3 (.cons A7 V9))))
 refine Bq (cs := [i0, si 1, si 2, si 65536]) rfl (Cg sq9 fun i37 H s38 => Gd.bothE ?_ ?_)
 refine Au (c := r3x1) s38 B9 rfl (Ea hcode (by omega) (by omega) rfl s38 A7 (.here) fun z39a iq40 hq40 H mz39 sq40 => ?_)
 have s41 := (sq40.pick A7).tail
 obtain ⟨z39, rfl, hz39⟩ := Bd (l := [0, 1, 2, 65536]) (lo := 0) (hi := 65536) mz39 (by decide)
 obtain ⟨y43, he42⟩ : ∃ y, (r3.fFl)[(0 : Int).toNat]? = some y := ⟨_, zan (by first | omega | (simp at *; omega))⟩
 refine Il (y := y43) (y' := ({ y43 with fId := z39 } : Ae)) (k := 0) (v := (.int .i64 y43.fId)) s41 ⟨_, _, rfl, rfl, rfl, rfl⟩ B9 (by omega) he42 Ba (by omega) rfl rfl rfl fun H s44 => ?_
 have he42sy := M0 (p := B6) obr3 he42
 have he42sw := Jt Az (r3.fFl) (0 : Int).toNat y43 ({ y43 with fId := z39 } : Ae) he42
 have he42sv : Az ({ y43 with fId := z39 } : Ae) = Az y43 ∨ Az ({ y43 with fId := z39 } : Ae) ≤ 102 := by first | exact .inl rfl | (right; show Bv _ + 0 ≤ 102; omega)
 have he42so : B6 ({ y43 with fId := z39 } : Ae) := ⟨by first | exact he42sy.1 | (simp only [G2]; omega), by first | exact he42sy.2.1 | assumption, by first | exact he42sy.2.2 | (simp only [G2]; omega)⟩
 have he42sa := Kk (p := B6) (i := (0 : Int).toNat) obr3 he42so
 refine Ah s44 B9 rfl (Bo (cs' := [si r3.fLast, r3x1, r3x2]) s44 F5 (Ac (Aa rfl (Aa lr3x1 (Aa lr3x2 rfl)))) rfl (Bb rfl) rfl fun H s45 => Ah s45 (.here) rfl ?_)
 have e46 : OutB 400 (⟨r3.fLast, (r3.fFl.set (0 : Int).toNat ({ y43 with fId := z39 } : Ae)), r3.fQ⟩ : Bm) := by
  apply E9 <;> first | assumption | omega | (unfold G2; omega) | (refine za5.2 ⟨by assumption, ?_⟩; intro z hz; simp only [za2, zaK, or_false] at hz; rcases hz with rfl | rfl <;> (simp only [B6, De, M1, G2]; decide)) | (rw [Fm]; exact za1 (zaD (zaG (by decide : F6 Az _ ≤ 4) _) _) (by omega))
 exact hk (⟨r3.fLast, (r3.fFl.set (0 : Int).toNat ({ y43 with fId := z39 } : Ae)), r3.fQ⟩ : Bm) r3x1 r3x2 iq40 hq40 _ lr3x1 lr3x2 e46 (s45.sel (.cons A7 (.cons C3 (.cons A7 V9))))
 refine Ea hcode (by omega) (by omega) rfl s38 A7 (.here) fun z47a iq48 hq48 H mz47 sq48 => ?_
 have s49 := (sq48.pick A7).tail
 obtain ⟨z47, rfl, hz47⟩ := Bd (l := [0, 1, 2, 65536]) (lo := 0) (hi := 65536) mz47 (by decide)
 refine Au (c := r3x1) s49 A7 rfl ?_
 obtain ⟨y51, he50⟩ : ∃ y, (r3.fFl)[(0 : Int).toNat]? = some y := ⟨_, zan (by first | omega | (simp at *; omega))⟩
 refine Il (y := y51) (y' := ({ y51 with fId := z47 } : Ae)) (k := 0) (v := (.int .i64 y51.fId)) s49 ⟨_, _, rfl, rfl, rfl, rfl⟩ B9 (by omega) he50 Ba (by omega) rfl rfl rfl fun H s52 => ?_
 have he50sy := M0 (p := B6) obr3 he50
 have he50sw := Jt Az (r3.fFl) (0 : Int).toNat y51 ({ y51 with fId := z47 } : Ae) he50
 have he50sv : Az ({ y51 with fId := z47 } : Ae) = Az y51 ∨ Az ({ y51 with fId := z47 } : Ae) ≤ 102 := by first | exact .inl rfl | (right; show Bv _ + 0 ≤ 102; omega)
 have he50so : B6 ({ y51 with fId := z47 } : Ae) := ⟨by first | exact he50sy.1 | (simp only [G2]; omega), by first | exact he50sy.2.1 | assumption, by first | exact he50sy.2.2 | (simp only [G2]; omega)⟩
 have he50sa := Kk (p := B6) (i := (0 : Int).toNat) obr3 he50so
 refine Ah s52 B9 rfl (Bo (cs' := [si r3.fLast, r3x1, r3x2]) s52 F5 (Ac (Aa rfl (Aa lr3x1 (Aa lr3x2 rfl)))) rfl (Bb rfl) rfl fun H s53 => Ah s53 (.here) rfl ?_)
 have e54 : OutB 400 (⟨r3.fLast, (r3.fFl.set (0 : Int).toNat ({ y51 with fId := z47 } : Ae)), r3.fQ⟩ : Bm) := by
  apply E9 <;> first | assumption | omega | (unfold G2; omega) | (refine za5.2 ⟨by assumption, ?_⟩; intro z hz; simp only [za2, zaK, or_false] at hz; rcases hz with rfl | rfl <;> (simp only [B6, De, M1, G2]; decide)) | (rw [Fm]; exact za1 (zaD (zaG (by decide : F6 Az _ ≤ 4) _) _) (by omega))
 exact hk (⟨r3.fLast, (r3.fFl.set (0 : Int).toNat ({ y51 with fId := z47 } : Ae)), r3.fQ⟩ : Bm) r3x1 r3x2 iq48 hq48 _ lr3x1 lr3x2 e54 (s53.sel (.cons A7 (.cons C3 (.cons A7 V9))))
 refine Bt h26 (Ah sq9 A7 rfl (Bo (cs' := [si r3.fLast, r3x1, r3x2]) sq9 F5 (Ac (Aa rfl (Aa lr3x1 (Aa lr3x2 rfl)))) rfl (Bb rfl) rfl fun H s55 => Ah s55 (.here) rfl ?_))
 have e56 : OutB 400 (r3 : Bm) := by
  apply E9 <;> first | assumption | omega | (unfold G2; omega) | (refine za5.2 ⟨by assumption, ?_⟩; intro z hz; simp only [za2, zaK, or_false] at hz; rcases hz with rfl | rfl <;> (simp only [B6, De, M1, G2]; decide)) | (rw [Fm]; exact za1 (zaD (zaG (by decide : F6 Az _ ≤ 4) _) _) (by omega))
 exact hk (r3 : Bm) r3x1 r3x2 iq9 hq9 _ lr3x1 lr3x2 e56 (s55.sel (.cons C3 (.cons C3 (.cons A7 V9))))
 refine Bt h25 (Bh (Ag ((decide (z8 = 3))) (fun h57 => ?_) fun h57 => ?_))
 refine Co h57 (Aj (o' := 1) rfl (Au (c := r3x1) sq9 A7 rfl (Hh sq9 B9 (Mg (Ag ((decide (0 < ((r3.fFl.length : Nat) : Int)))) (fun h58 => ?_) fun h58 => ?_)))))
 refine Co h58 (Aj (o' := 1) rfl (Gd.bothE ?_ ?_))
 refine Au (c := r3x1) sq9 A7 rfl (Bq (cs := [i0, si 1, si 2, si 3, si 4]) rfl (Cg sq9 fun i59 H s60 => Ea hcode (by omega) (by omega) rfl s60 A7 (.here) fun z61a iq62 hq62 H mz61 sq62 => ?_))
 have s63 := (sq62.pick A7).tail
 obtain ⟨z61, rfl, hz61⟩ := Bd (l := [0, 1, 2, 3, 4]) (lo := 0) (hi := 4) mz61 (by decide)
 obtain ⟨y65, he64⟩ : ∃ y, (r3.fFl)[(0 : Int).toNat]? = some y := ⟨_, zan (by first | omega | (simp at *; omega))⟩
 refine Il (y := y65) (y' := ({ y65 with fSt := z61 } : Ae)) (k := 5) (v := (.int .i64 y65.fSt)) s63 ⟨_, _, rfl, rfl, rfl, rfl⟩ B9 (by omega) he64 Ba (by omega) rfl rfl rfl fun H s66 => ?_
 have he64sy := M0 (p := B6) obr3 he64
 have he64sw := Jt Az (r3.fFl) (0 : Int).toNat y65 ({ y65 with fSt := z61 } : Ae) he64
 have he64sv : Az ({ y65 with fSt := z61 } : Ae) = Az y65 ∨ Az ({ y65 with fSt := z61 } : Ae) ≤ 102 := by first | exact .inl rfl | (right; show Bv _ + 0 ≤ 102; omega)
 have he64so : B6 ({ y65 with fSt := z61 } : Ae) := ⟨by first | exact he64sy.1 | (simp only [G2]; omega), by first | exact he64sy.2.1 | assumption, by first | exact he64sy.2.2 | (simp only [G2]; omega)⟩
 have he64sa := Kk (p := B6) (i := (0 : Int).toNat) obr3 he64so
 refine Ah s66 B9 rfl (Bo (cs' := [si r3.fLast, r3x1, r3x2]) s66 F5 (Ac (Aa rfl (Aa lr3x1 (Aa lr3x2 rfl)))) rfl (Bb rfl) rfl fun H s67 => Ah s67 (.here) rfl ?_)
 have e68 : OutB 400 (⟨r3.fLast, (r3.fFl.set (0 : Int).toNat ({ y65 with fSt := z61 } : Ae)), r3.fQ⟩ : Bm) := by
  apply E9 <;> first | assumption | omega | (unfold G2; omega) | (refine za5.2 ⟨by assumption, ?_⟩; intro z hz; simp only [za2, zaK, or_false] at hz; rcases hz with rfl | rfl <;> (simp only [B6, De, M1, G2]; decide)) | (rw [Fm]; exact za1 (zaD (zaG (by decide : F6 Az _ ≤ 4) _) _) (by omega))
 exact hk (⟨r3.fLast, (r3.fFl.set (0 : Int).toNat ({ y65 with fSt := z61 } : Ae)), r3.fQ⟩ : Bm) r3x1 r3x2 iq62 hq62 _ lr3x1 lr3x2 e68 (s67.sel (.cons A7 (.cons C3 (.cons A7 V9))))
 refine Bq (cs := [i0, si 1, si 2, si 3, si 4]) rfl (Cg sq9 fun i69 H s70 => Gd.bothE ?_ ?_)
 refine Au (c := r3x1) s70 B9 rfl (Ea hcode (by omega) (by omega) rfl s70 A7 (.here) fun z71a iq72 hq72 H mz71 sq72 => ?_)
 have s73 := (sq72.pick A7).tail
 obtain ⟨z71, rfl, hz71⟩ := Bd (l := [0, 1, 2, 3, 4]) (lo := 0) (hi := 4) mz71 (by decide)
 obtain ⟨y75, he74⟩ : ∃ y, (r3.fFl)[(0 : Int).toNat]? = some y := ⟨_, zan (by first | omega | (simp at *; omega))⟩
 refine Il (y := y75) (y' := ({ y75 with fSt := z71 } : Ae)) (k := 5) (v := (.int .i64 y75.fSt)) s73 ⟨_, _, rfl, rfl, rfl, rfl⟩ B9 (by omega) he74 Ba (by omega) rfl rfl rfl fun H s76 => ?_
 have he74sy := M0 (p := B6) obr3 he74
 have he74sw := Jt Az (r3.fFl) (0 : Int).toNat y75 ({ y75 with fSt := z71 } : Ae) he74
 have he74sv : Az ({ y75 with fSt := z71 } : Ae) = Az y75 ∨ Az ({ y75 with fSt := z71 } : Ae) ≤ 102 := by first | exact .inl rfl | (right; show Bv _ + 0 ≤ 102; omega)
 have he74so : B6 ({ y75 with fSt := z71 } : Ae) := ⟨by first | exact he74sy.1 | (simp only [G2]; omega), by first | exact he74sy.2.1 | assumption, by first | exact he74sy.2.2 | (simp only [G2]; omega)⟩
 have he74sa := Kk (p := B6) (i := (0 : Int).toNat) obr3 he74so
 refine Ah s76 B9 rfl (Bo (cs' := [si r3.fLast, r3x1, r3x2]) s76 F5 (Ac (Aa rfl (Aa lr3x1 (Aa lr3x2 rfl)))) rfl (Bb rfl) rfl fun H s77 => Ah s77 (.here) rfl ?_)
 have e78 : OutB 400 (⟨r3.fLast, (r3.fFl.set (0 : Int).toNat ({ y75 with fSt := z71 } : Ae)), r3.fQ⟩ : Bm) := by
  apply E9 <;> first | assumption | omega | (unfold G2; omega) | (refine za5.2 ⟨by assumption, ?_⟩; intro z hz; simp only [za2, zaK, or_false] at hz; rcases hz with rfl | rfl <;> (simp only [B6, De, M1, G2]; decide)) | (rw [Fm]; exact za1 (zaD (zaG (by decide : F6 Az _ ≤ 4) _) _) (by omega))
 exact hk (⟨r3.fLast, (r3.fFl.set (0 : Int).toNat ({ y75 with fSt := z71 } : Ae)), r3.fQ⟩ : Bm) r3x1 r3x2 iq72 hq72 _ lr3x1 lr3x2 e78 (s77.sel (.cons A7 (.cons C3 (.cons A7 V9))))
 refine Ea hcode (by omega) (by omega) rfl s70 A7 (.here) fun z79a iq80 hq80 H mz79 sq80 => ?_
 have s81 := (sq80.pick A7).tail
 obtain ⟨z79, rfl, hz79⟩ := Bd (l := [0, 1, 2, 3, 4]) (lo := 0) (hi := 4) mz79 (by decide)
 refine Au (c := r3x1) s81 A7 rfl ?_
 obtain ⟨y83, he82⟩ : ∃ y, (r3.fFl)[(0 : Int).toNat]? = some y := ⟨_, zan (by first | omega | (simp at *; omega))⟩
 refine Il (y := y83) (y' := ({ y83 with fSt := z79 } : Ae)) (k := 5) (v := (.int .i64 y83.fSt)) s81 ⟨_, _, rfl, rfl, rfl, rfl⟩ B9 (by omega) he82 Ba (by omega) rfl rfl rfl fun H s84 => ?_
 have he82sy := M0 (p := B6) obr3 he82
 have he82sw := Jt Az (r3.fFl) (0 : Int).toNat y83 ({ y83 with fSt := z79 } : Ae) he82
 have he82sv : Az ({ y83 with fSt := z79 } : Ae) = Az y83 ∨ Az ({ y83 with fSt := z79 } : Ae) ≤ 102 := by first | exact .inl rfl | (right; show Bv _ + 0 ≤ 102; omega)
 have he82so : B6 ({ y83 with fSt := z79 } : Ae) := ⟨by first | exact he82sy.1 | (simp only [G2]; omega), by first | exact he82sy.2.1 | assumption, by first | exact he82sy.2.2 | (simp only [G2]; omega)⟩
 have he82sa := Kk (p := B6) (i := (0 : Int).toNat) obr3 he82so
 refine Ah s84 B9 rfl (Bo (cs' := [si r3.fLast, r3x1, r3x2]) s84 F5 (Ac (Aa rfl (Aa lr3x1 (Aa lr3x2 rfl)))) rfl (Bb rfl) rfl fun H s85 => Ah s85 (.here) rfl ?_)
 have e86 : OutB 400 (⟨r3.fLast, (r3.fFl.set (0 : Int).toNat ({ y83 with fSt := z79 } : Ae)), r3.fQ⟩ : Bm) := by
  apply E9 <;> first | assumption | omega | (unfold G2; omega) | (refine za5.2 ⟨by assumption, ?_⟩; intro z hz; simp only [za2, zaK, or_false] at hz; rcases hz with rfl | rfl <;> (simp only [B6, De, M1, G2]; decide)) | (rw [Fm]; exact za1 (zaD (zaG (by decide : F6 Az _ ≤ 4) _) _) (by omega))
 exact hk (⟨r3.fLast, (r3.fFl.set (0 : Int).toNat ({ y83 with fSt := z79 } : Ae)), r3.fQ⟩ : Bm) r3x1 r3x2 iq80 hq80 _ lr3x1 lr3x2 e86 (s85.sel (.cons A7 (.cons C3 (.cons A7 V9))))
 refine Bt h58 (Ah sq9 A7 rfl (Bo (cs' := [si r3.fLast, r3x1, r3x2]) sq9 F5 (Ac (Aa rfl (Aa lr3x1 (Aa lr3x2 rfl)))) rfl (Bb rfl) rfl fun H s87 => Ah s87 (.here) rfl ?_))
 have e88 : OutB 400 (r3 : Bm) := by
  apply E9 <;> first | assumption | omega | (unfold G2; omega) | (refine za5.2 ⟨by assumption, ?_⟩; intro z hz; simp only [za2, zaK, or_false] at hz; rcases hz with rfl | rfl <;> (simp only [B6, De, M1, G2]; decide)) | (rw [Fm]; exact za1 (zaD (zaG (by decide : F6 Az _ ≤ 4) _) _) (by omega))
 exact hk (r3 : Bm) r3x1 r3x2 iq9 hq9 _ lr3x1 lr3x2 e88 (s87.sel (.cons C3 (.cons C3 (.cons A7 V9))))
 refine Bt h57 (Bh (Ag ((decide (z8 = 4))) (fun h89 => ?_) fun h89 => ?_))
 refine Co h89 (Aj (o' := 1) rfl (Au (c := r3x1) sq9 A7 rfl (Hh sq9 B9 (Mg (Ag ((decide (0 < ((r3.fFl.length : Nat) : Int)))) (fun h90 => ?_) fun h90 => ?_)))))
 refine Co h90 (Aj (o' := 1) rfl (Gd.bothE ?_ ?_))
 refine Au (c := r3x1) sq9 A7 rfl (Ik rfl rfl (Vx _ (by omega) code hcode c iq9 hq9   (sq9.pick (.here)) fun r91 r91x1 iq92 hq92 H lr91x1 hr91 sq92 => ?_))
 obtain ⟨or91, wr91⟩ := hr91
 have ur91 := or91
 have vr91 := wr91
 simp only [De, Bv, M1, G2, and_true, true_and] at ur91 vr91
 obtain ⟨y94, he93⟩ : ∃ y, (r3.fFl)[(0 : Int).toNat]? = some y := ⟨_, zan (by first | omega | (simp at *; omega))⟩
 refine AeG (y := y94) (y' := ({ y94 with fM := r91 } : Ae)) (k := 1) (v := 4) (cty := Gs) sq92 ⟨_, _, rfl, rfl, rfl, rfl⟩ rfl C3 (.sc (.own (.here) (.sc (.sc .nil)))) ⟨trivial, ⟨(Acz r91.fBody), (Ku trivial)⟩⟩ (by omega) he93 Ba (by omega) (Ac (Aa rfl (Aa lr91x1 rfl))) rfl rfl rfl fun H s95 => ?_
 have he93sy := M0 (p := B6) obr3 he93
 have he93sw := Jt Az (r3.fFl) (0 : Int).toNat y94 ({ y94 with fM := r91 } : Ae) he93
 have he93sv : Az ({ y94 with fM := r91 } : Ae) = Az y94 ∨ Az ({ y94 with fM := r91 } : Ae) ≤ 102 := by first | exact .inl rfl | (right; show Bv _ + 0 ≤ 102; omega)
 have he93so : B6 ({ y94 with fM := r91 } : Ae) := ⟨by first | exact he93sy.1 | (simp only [G2]; omega), by first | exact he93sy.2.1 | assumption, by first | exact he93sy.2.2 | (simp only [G2]; omega)⟩
 have he93sa := Kk (p := B6) (i := (0 : Int).toNat) obr3 he93so
 refine Ah s95 B9 rfl (Bo (cs' := [si r3.fLast, r3x1, r3x2]) s95 F5 (Ac (Aa rfl (Aa lr3x1 (Aa lr3x2 rfl)))) rfl (Bb rfl) rfl fun H s96 => Ah s96 (.here) rfl ?_)
 have e97 : OutB 400 (⟨r3.fLast, (r3.fFl.set (0 : Int).toNat ({ y94 with fM := r91 } : Ae)), r3.fQ⟩ : Bm) := by
  apply E9 <;> first | assumption | omega | (unfold G2; omega) | (refine za5.2 ⟨by assumption, ?_⟩; intro z hz; simp only [za2, zaK, or_false] at hz; rcases hz with rfl | rfl <;> (simp only [B6, De, M1, G2]; decide)) | (rw [Fm]; exact za1 (zaD (zaG (by decide : F6 Az _ ≤ 4) _) _) (by omega))
 exact hk (⟨r3.fLast, (r3.fFl.set (0 : Int).toNat ({ y94 with fM := r91 } : Ae)), r3.fQ⟩ : Bm) r3x1 r3x2 iq92 hq92 _ lr3x1 lr3x2 e97 (s96.sel (.cons A7 (.cons C3 (.cons A7 V9))))
 refine Ik rfl rfl (Vx _ (by omega) code hcode c iq9 hq9   (sq9.pick (.here)) fun r98 r98x1 iq99 hq99 H lr98x1 hr98 sq99 => ?_)
 obtain ⟨or98, wr98⟩ := hr98
 have ur98 := or98
 have vr98 := wr98
 simp only [De, Bv, M1, G2, and_true, true_and] at ur98 vr98
 refine Au (c := r3x1) sq99 B9 rfl ?_
 obtain ⟨y101, he100⟩ : ∃ y, (r3.fFl)[(0 : Int).toNat]? = some y := ⟨_, zan (by first | omega | (simp at *; omega))⟩
 refine AeG (y := y101) (y' := ({ y101 with fM := r98 } : Ae)) (k := 1) (v := 4) (cty := Gs) sq99 ⟨_, _, rfl, rfl, rfl, rfl⟩ rfl C3 (.sc (.own (.here) (.sc (.sc .nil)))) ⟨trivial, ⟨(Acz r98.fBody), (Ku trivial)⟩⟩ (by omega) he100 Ba (by omega) (Ac (Aa rfl (Aa lr98x1 rfl))) rfl rfl rfl fun H s102 => ?_
 have he100sy := M0 (p := B6) obr3 he100
 have he100sw := Jt Az (r3.fFl) (0 : Int).toNat y101 ({ y101 with fM := r98 } : Ae) he100
 have he100sv : Az ({ y101 with fM := r98 } : Ae) = Az y101 ∨ Az ({ y101 with fM := r98 } : Ae) ≤ 102 := by first | exact .inl rfl | (right; show Bv _ + 0 ≤ 102; omega)
 have he100so : B6 ({ y101 with fM := r98 } : Ae) := ⟨by first | exact he100sy.1 | (simp only [G2]; omega), by first | exact he100sy.2.1 | assumption, by first | exact he100sy.2.2 | (simp only [G2]; omega)⟩
 have he100sa := Kk (p := B6) (i := (0 : Int).toNat) obr3 he100so
 refine Ah s102 B9 rfl (Bo (cs' := [si r3.fLast, r3x1, r3x2]) s102 F5 (Ac (Aa rfl (Aa lr3x1 (Aa lr3x2 rfl)))) rfl (Bb rfl) rfl fun H s103 => Ah s103 (.here) rfl ?_)
 have e104 : OutB 400 (⟨r3.fLast, (r3.fFl.set (0 : Int).toNat ({ y101 with fM := r98 } : Ae)), r3.fQ⟩ : Bm) := by
  apply E9 <;> first | assumption | omega | (unfold G2; omega) | (refine za5.2 ⟨by assumption, ?_⟩; intro z hz; simp only [za2, zaK, or_false] at hz; rcases hz with rfl | rfl <;> (simp only [B6, De, M1, G2]; decide)) | (rw [Fm]; exact za1 (zaD (zaG (by decide : F6 Az _ ≤ 4) _) _) (by omega))
 exact hk (⟨r3.fLast, (r3.fFl.set (0 : Int).toNat ({ y101 with fM := r98 } : Ae)), r3.fQ⟩ : Bm) r3x1 r3x2 iq99 hq99 _ lr3x1 lr3x2 e104 (s103.sel (.cons A7 (.cons C3 (.cons A7 V9))))
 refine Bt h90 (Ah sq9 A7 rfl (Bo (cs' := [si r3.fLast, r3x1, r3x2]) sq9 F5 (Ac (Aa rfl (Aa lr3x1 (Aa lr3x2 rfl)))) rfl (Bb rfl) rfl fun H s105 => Ah s105 (.here) rfl ?_))
 have e106 : OutB 400 (r3 : Bm) := by
  apply E9 <;> first | assumption | omega | (unfold G2; omega) | (refine za5.2 ⟨by assumption, ?_⟩; intro z hz; simp only [za2, zaK, or_false] at hz; rcases hz with rfl | rfl <;> (simp only [B6, De, M1, G2]; decide)) | (rw [Fm]; exact za1 (zaD (zaG (by decide : F6 Az _ ≤ 4) _) _) (by omega))
 exact hk (r3 : Bm) r3x1 r3x2 iq9 hq9 _ lr3x1 lr3x2 e106 (s105.sel (.cons C3 (.cons C3 (.cons A7 V9))))
 refine Bt h89 (Bh (Ag ((decide (z8 = 5))) (fun h107 => ?_) fun h107 => ?_))
 refine Co h107 (Aj (o' := 1) rfl (Au (c := r3x1) sq9 A7 rfl (Bq (cs := [.sc (.string (⟨#[97]⟩)), .nl, .sc (.int .i64 1), .sc (.bool false)]) rfl (Bq (cs := [.sc (.int .i64 9), .sc (.string (⟨#[97]⟩)), .nl, .sc (.int .i64 1), .sc (.bool false), .sc (.int .i64 1)]) rfl (Bq (cs := [.sc (.string (⟨#[97]⟩)), .nl, .sc (.int .i64 2), .sc (.bool false)]) rfl (Bq (cs := [.sc (.int .i64 10), .sc (.string (⟨#[97]⟩)), .nl, .sc (.int .i64 2), .sc (.bool false), .sc (.int .i64 3)]) rfl (Bq (cs := [.sc (.int .i64 9), .sc (.string (⟨#[97]⟩)), .nl, .sc (.int .i64 1), .sc (.bool false), .sc (.int .i64 1), .sc (.int .i64 10), .sc (.string (⟨#[97]⟩)), .nl, .sc (.int .i64 2), .sc (.bool false), .sc (.int .i64 3)]) rfl (Cg sq9 fun i108 H s109 => AiM (q := [(⟨9, ⟨⟨#[97]⟩, ⟨#[]⟩, 1, false⟩, 1⟩ : Ae), (⟨10, ⟨⟨#[97]⟩, ⟨#[]⟩, 2, false⟩, 3⟩ : Ae)]) (cty := [3, 9, 22, 3, 4, 3]) s109 ⟨_, _, rfl, rfl, rfl, rfl⟩ C3 (Rz (.here) rfl rfl (.sc (.sc (.nl (Mn (.nl (oS3 .nil)))))) (Ku ⟨Dv, (Mk ⟨Dv, (tK3 trivial)⟩)⟩)) (Ku ⟨Dv, (Mk ⟨Dv, (tK3 trivial)⟩)⟩) (by simp only [zat, zau]; omega) fun x110 H lx110 s111 => Aj (o' := 1) rfl (B4 s111 B9 lx110 rfl fun H s112 => Ah s112 (.here) rfl (Bo (cs' := [.sc (.int .i64 r3.fLast), x110, r3x2]) s112 F5 (Ac (Aa rfl (Aa lx110 (Aa lr3x2 rfl)))) rfl (Bb rfl) rfl fun H s113 => Ah s113 (.here) rfl ?_))))))))))
 have e114 : OutB 400 (⟨r3.fLast, (r3.fFl ++ [(⟨9, ⟨⟨#[97]⟩, ⟨#[]⟩, 1, false⟩, 1⟩ : Ae), (⟨10, ⟨⟨#[97]⟩, ⟨#[]⟩, 2, false⟩, 3⟩ : Ae)]), r3.fQ⟩ : Bm) := by
  apply E9 <;> first | assumption | omega | (unfold G2; omega) | (refine za5.2 ⟨by assumption, ?_⟩; intro z hz; simp only [za2, zaK, or_false] at hz; rcases hz with rfl | rfl <;> (simp only [B6, De, M1, G2]; decide)) | (rw [Fm]; exact za1 (zaD (zaG (by decide : F6 Az _ ≤ 4) _) _) (by omega))
 exact hk (⟨r3.fLast, (r3.fFl ++ [(⟨9, ⟨⟨#[97]⟩, ⟨#[]⟩, 1, false⟩, 1⟩ : Ae), (⟨10, ⟨⟨#[97]⟩, ⟨#[]⟩, 2, false⟩, 3⟩ : Ae)]), r3.fQ⟩ : Bm) x110 r3x2 iq9 hq9 _ lx110 lr3x2 e114 (s113.sel (.cons B9 (.cons C3 (.cons B9 V9))))
 refine Bt h107 (Ah sq9 A7 rfl (Bo (cs' := [si r3.fLast, r3x1, r3x2]) sq9 F5 (Ac (Aa rfl (Aa lr3x1 (Aa lr3x2 rfl)))) rfl (Bb rfl) rfl fun H s115 => Ah s115 (.here) rfl ?_))
 have e116 : OutB 400 (r3 : Bm) := by
  apply E9 <;> first | assumption | omega | (unfold G2; omega) | (refine za5.2 ⟨by assumption, ?_⟩; intro z hz; simp only [za2, zaK, or_false] at hz; rcases hz with rfl | rfl <;> (simp only [B6, De, M1, G2]; decide)) | (rw [Fm]; exact za1 (zaD (zaG (by decide : F6 Az _ ≤ 4) _) _) (by omega))
 exact hk (r3 : Bm) r3x1 r3x2 iq9 hq9 _ lr3x1 lr3x2 e116 (s115.sel (.cons C3 (.cons C3 (.cons A7 V9))))
end
section
open Go
theorem AkD (n ty : Nat) (s : ByteArray) : Ct E0 (n + 1) ty 7 [A3 s] = some (.sc (.bool (decide ((1048576 : Int) < (s.size : Nat))))) := by
 rw [A2, Aj3, f7]
 simp only [Qx, Qw]
 refine Do ?_
 rfl
theorem Ajf (n ty : Nat) (s t : ByteArray) : Ct E0 (n + 1) ty 13 [A3 s, A3 t] = some (.sc (.bool (s.toList == t.toList))) := by
 rw [A2, AhX, f13]
 have e : ∀ u : ByteArray, Cu [] 1 (.ro u.size (Bg u)) = some (Bg u) := by
  intro u
  simp [Cu, Ep]
 have eb : ∀ u : ByteArray, (Bg u).mapM Ls = some u.data.toList := fun u => Jp _
 simp only [Qx, Qw, Q9, e, eb, zab, E2, Yt]
 simp
theorem Ajg (n ty : Nat) (s t : ByteArray) (h : s = t) : Ct E0 (n + 1) ty 13 [A3 s, A3 t] = some (.sc (.bool true)) := by
 rw [Ajf, h]
 simp
theorem Ac7 (m : Ch) : Fx m m = true := by simp [Fx]
theorem Ub : ∀ (l : List Ch), Gz Fx l l = true
 | [] => rfl
 | x :: l => by simp [Gz, Ac7, Ub l]
theorem Abz (l : List Ch) : Lm l l = true := by
 unfold Lm
 rw [if_pos (zal _), zaN, za4]
 exact Ub _
theorem Ah9 (pc : Bool) (m : Ch) (i : Int) (h : 0 < m.fQos ∨ (m.fQos = 0 ∧ i = 0)) : Cn (As m i false) (Bc pc (As m i false)) = true := by
 rcases h with hq | ⟨hq, rfl⟩
 have h1 : ¬ m.fQos = 0 := by omega
 simp [Cn, Jg, Fw, Bc, Fk, As, Fs, Gz, hq, h1]
 simp [Cn, Jg, Fw, Bc, Fk, As, Fs, Gz, hq]
theorem Sc {α : Type} (f : α → α → Bool) (hf : ∀ x, f x x = true) : ∀ l : List α, Fs f l l = true := by
 intro l
 unfold Fs
 have h : ∀ l : List α, Gz f l l = true := by
  intro l
  induction l with
  | nil => rfl
  | cons x l ih => simp [Gz, hf, ih]
 simp [h]
theorem Nl (p : A5) : Cn p p = true := by
 have h1 : Fs Ig p.fWants p.fWants = true := Sc _ (fun x => by simp [Ig, Jq, Nv, Vg]) _
 have h2 : Fs Nv p.fNames p.fNames = true := Sc _ (fun x => by simp [Nv]) _
 have h3 : Fs Vg p.fCodes p.fCodes = true := Sc _ (fun x => by simp [Vg]) _
 unfold Cn Jg Fw
 rw [h1, h2, h3]
 simp
theorem W3 : ∀ (l P : List Ae) (x : Ae), Ml P (l ++ [x]) = (Ml P l && (Fl x.fId 1 65535 && C9 x.fM && V7 x && !(H9 (P ++ l) x)))
 | [], P, x => by simp [Ml]
 | y :: l, P, x => by
  rw [zao, Ml, W3 l (P ++ [y]) x, Ml, zak]
  simp only [Bool.and_assoc, zao, zae]
theorem X6 : ∀ (used : List Int) (k : Nat) (x : Int), (Hb used k x).2 = true → used.contains (Hb used k x).1 = false
 | used, 0, x, h => by cases h
 | used, k + 1, x, h => by
  rw [Hb] at h ⊢
  split
  rename_i hc
  rw [if_pos hc] at h
  exact X6 used k _ h
  rename_i hc
  simpa using hc
def oO (o : Bm) (st : Int) : Bm := ⟨Cd o, o.fFl ++ [⟨Cd o, Ad o.fQ, st⟩], o.fQ.tail⟩
def oD (o : Bm) : Bm := ⟨Cd o, o.fFl, o.fQ.tail⟩
section
variable {o x y z v : Bm} {p r s u : A5} {m : Ch} {st : Int} {b c d : Bool}
theorem rd (h : Ce o = true) : Dt o = true ∧ o.fQ = Ad o.fQ :: o.fQ.tail ∧ ((Ad o.fQ).fQos = 0 ∨ o.fFl.length < 3) := by
 unfold Ce at h
 simp only [zah, zb0, decide_eq_true_eq, beq_iff_eq] at h
 obtain ⟨⟨h1, h2⟩, h3⟩ := h
 cases hq : o.fQ with
 | nil =>
  rw [hq] at h2
  simp at h2
 | cons a l =>
  rw [hq] at h3
  refine ⟨h1, rfl, ?_⟩
  rcases h3 with h3 | h3
  exact .inl h3
  exact .inr (by omega)
theorem Ajd (h : Ce o = true) : 0 < o.fQ.length := by
 rw [(rd h).2.1]
 simp
theorem A8 (h : Ce o = true) (hm : o.fQ[(0 : Int).toNat]? = some m) : Ad o.fQ = m := by
 rw [(rd h).2.1] at hm
 simpa using hm
theorem Pa (h : Dt o = true) : Ml [] o.fFl = true ∧ (0 ≤ o.fLast ∧ o.fLast ≤ 65535) ∧ o.fFl.length ≤ 3 ∧ Eo o.fQ = true := by
 unfold Dt Fl at h
 simp only [zah, decide_eq_true_eq] at h
 exact ⟨h.1, h.2.1.1, by omega, h.2.2⟩
theorem Afo (h : Ce o = true) : C9 (Ad o.fQ) = true ∧ Eo o.fQ.tail = true := by
 obtain ⟨h1, h2, _⟩ := rd h
 have h3 := (Pa h1).2.2.2
 rw [h2] at h3
 simp only [Eo, zbk, zah, decide_eq_true_eq, zat] at h3 ⊢
 exact ⟨h3.1.1, h3.1.2, by omega⟩
theorem Aaa (h : Ce o = true) : 0 ≤ (Ad o.fQ).fQos ∧ (Ad o.fQ).fQos ≤ 2 ∧ D4 (Ad o.fQ).fTopic = true ∧ (Ad o.fQ).fBody.size ≤ 40 := by
 have h1 := (Afo h).1
 unfold C9 Fl at h1
 simp only [zah, decide_eq_true_eq] at h1
 exact ⟨by omega, by omega, h1.1.1, by omega⟩
theorem nid (h : Ce o = true) : Fl (Cd o) 1 65535 = true ∧ ∀ f ∈ o.fFl, ¬ f.fId = Cd o := by
 obtain ⟨h1, _, _⟩ := rd h
 obtain ⟨_, h2, h3, _⟩ := Pa h1
 have hu : (o.fFl.map (·.fId)).length < 65535 := by
  rw [zb4]
  omega
 have h4 := Z2 o.fLast _ h2 hu
 unfold Cd
 unfold A9 at h4 ⊢
 rw [if_pos h2] at h4 ⊢
 have h5 := Tn _ _ _ h2.1 h4
 have h6 := X6 _ _ _ h4
 refine ⟨by simp only [Fl, zah, decide_eq_true_eq]; exact h5, fun f hf e => ?_⟩
 rw [← e] at h6
 have : (o.fFl.map (·.fId)).contains f.fId = true := List.contains_iff_mem.2 (zb5.2 ⟨f, hf, rfl⟩)
 rw [h6] at this
 cases this
theorem Z3 (h : Ce o = true) : (o.fFl.any fun y => y.fId == Cd o) = false := by
 rw [List.any_eq_false]
 intro f hf
 simpa using (nid h).2 f hf
theorem okO (h : Ce o = true) (hq : ¬ (Ad o.fQ).fQos = 0) (hs : st = (Ad o.fQ).fQos ∨ (st = 3 ∧ (Ad o.fQ).fQos = 2)) : Dt (oO o st) = true := by
 obtain ⟨h1, h2, h3⟩ := rd h
 obtain ⟨g1, g2, g3, g4⟩ := Pa h1
 have g5 := Aaa h
 have g6 := (nid h).1
 have g7 : Ml [] (o.fFl ++ [⟨Cd o, Ad o.fQ, st⟩]) = true := by
  rw [W3, g1, g6, (Afo h).1]
  have e1 : V7 (⟨Cd o, Ad o.fQ, st⟩ : Ae) = true := by
   unfold V7
   rcases hs with hs | ⟨hs, hs2⟩
   have : (Ad o.fQ).fQos = 1 ∨ (Ad o.fQ).fQos = 2 := by omega
   rcases this with e | e <;> simp [e, hs]
   simp [hs, hs2]
  have e2 : H9 ([] ++ o.fFl) (⟨Cd o, Ad o.fQ, st⟩ : Ae) = false := Z3 h
  rw [e1, e2]
  rfl
 have g8 : o.fFl.length < 3 := by
  rcases h3 with h3 | h3
  exact absurd h3 hq
  exact h3
 unfold Fl at g6
 simp only [zah, decide_eq_true_eq] at g6
 unfold Dt oO
 rw [g7]
 simp only [zbE, zah, decide_eq_true_eq, Fl, zag, zat, zau]
 exact ⟨⟨by omega, by omega⟩, (Afo h).2⟩
theorem Xn (h : Ce o = true) : Dt (oD o) = true := by
 obtain ⟨h1, h2, h3⟩ := rd h
 obtain ⟨g1, g2, g3, g4⟩ := Pa h1
 have g6 := (nid h).1
 unfold Fl at g6
 simp only [zah, decide_eq_true_eq] at g6
 unfold Dt oD
 rw [g1]
 simp only [zbE, zah, decide_eq_true_eq, Fl]
 exact ⟨⟨by omega, by omega⟩, (Afo h).2⟩
theorem Ac1 (ex : x = Af o) (h : Ce o = true) (hq : (Ad o.fQ).fQos = 0) : x = { o with fQ := o.fQ.tail } := by
 rw [ex]
 unfold Af
 rw [if_pos h, if_pos hq]
theorem Ac2 (ex : x = Af o) (h : Ce o = true) (hq : ¬ (Ad o.fQ).fQos = 0) : x = oO o (Ad o.fQ).fQos := by
 rw [ex]
 unfold Af
 rw [if_pos h, if_neg hq]
 rfl
theorem AaT (ex : x = Af o) (h : Ce o = true) : Dt x = true := by
 by_cases hq : (Ad o.fQ).fQos = 0
 rw [Ac1 ex h hq]
 obtain ⟨g1, g2, g3, g4⟩ := Pa (rd h).1
 unfold Dt
 rw [g1]
 simp only [zbE, zah, decide_eq_true_eq, Fl]
 exact ⟨⟨by omega, by omega⟩, (Afo h).2⟩
 rw [Ac2 ex h hq]
 exact okO h hq (.inl rfl)
theorem Alg (ex : x = Af o) (h : Ce o = true) : x.fQ = (o.fQ.drop (1 : Int).toNat).take (((o.fQ.length : Nat) : Int).toNat - (1 : Int).toNat) := by
 have e : (o.fQ.drop (1 : Int).toNat).take (((o.fQ.length : Nat) : Int).toNat - (1 : Int).toNat) = o.fQ.tail := by
  rw [zbn (by simp), show (1 : Int).toNat = 1 from rfl, List.drop_one]
 rw [e]
 by_cases hq : (Ad o.fQ).fQos = 0
 rw [Ac1 ex h hq]
 rw [Ac2 ex h hq]
 rfl
theorem Ho (ep : p = A0 o) (h : Ce o = true) : p = As (Ad o.fQ) (if (Ad o.fQ).fQos = 0 then 0 else Cd o) false := by
 rw [ep]
 unfold A0
 rw [if_pos h]
 split <;> rfl
theorem Lh (ex : x = Af o) (ep : p = A0 o) (h : Ce o = false) : x = o ∧ p = G0 := by
 subst ex ep
 unfold Af A0
 rw [h]
 exact ⟨rfl, rfl⟩
theorem Mi (ep : p = A0 o) (h : Ce o = true) (hq : ¬ (Ad o.fQ).fQos = 0) : p.fId = Cd o := by
 rw [Ho ep h, if_neg hq]
 rfl
theorem Wj {kd : Int} (h : Ce o = true) (hq : ¬ (Ad o.fQ).fQos = 0) (hs : st = (Ad o.fQ).fQos ∨ (st = 3 ∧ (Ad o.fQ).fQos = 2)) : Dj (oO o st) kd (Cd o) = if (kd = 4 ∧ st = 1) ∨ (kd = 7 ∧ st = 3) then (oD o, G0, true) else if kd = 5 ∧ ¬ st = 1 then (oO o 3, A4 (Cd o), true) else (oO o st, G0, false) := by
 unfold Dj
 rw [if_pos (okO h hq hs)]
 show Dc kd (Cd o) (oO o st) [] (o.fFl ++ [⟨Cd o, Ad o.fQ, st⟩]) = _
 rw [N2 kd (Cd o) (oO o st) o.fFl [⟨Cd o, Ad o.fQ, st⟩] [] (Z3 h), Dc, if_pos rfl, zae]
 split
 simp [oD, oO]
 split
 simp [oO]
 rfl
theorem Ajw {kd : Int} (h : Ce o = true) : Dj (oD o) kd (Cd o) = (oD o, G0, false) := by
 unfold Dj
 rw [if_pos (Xn h)]
 exact Lr kd (Cd o) (oD o) o.fFl [] (Z3 h)
theorem tri {α β γ : Type} {a a' : α} {b b' : β} {c c' : γ} (h : (a, b, c) = (a', b', c')) : a = a' ∧ b = b' ∧ c = c' := by
 simpa using h
theorem q1 (ex : x = Af o) (ep : p = A0 o) (h : Ce o = true) (hq : (Ad o.fQ).fQos = 1) (e1 : Dj x 4 p.fId = (y, r, b)) : y = oD o ∧ r = G0 ∧ b = true := by
 have h0 : ¬ (Ad o.fQ).fQos = 0 := by omega
 rw [Ac2 ex h h0, Mi ep h h0, Wj h h0 (.inl rfl), if_pos (by omega)] at e1
 obtain ⟨a1, a2, a3⟩ := tri e1
 exact ⟨a1.symm, a2.symm, a3.symm⟩
theorem q1b (ex : x = Af o) (ep : p = A0 o) (h : Ce o = true) (hq : (Ad o.fQ).fQos = 1) (e1 : Dj x 4 p.fId = (y, r, b)) (e2 : Dj y 4 p.fId = (z, s, c)) : c = false := by
 have h0 : ¬ (Ad o.fQ).fQos = 0 := by omega
 rw [(q1 ex ep h hq e1).1, Mi ep h h0, Ajw h] at e2
 exact (tri e2).2.2.symm
theorem q2 (ex : x = Af o) (ep : p = A0 o) (h : Ce o = true) (hq : (Ad o.fQ).fQos = 2) (e1 : Dj x 5 p.fId = (y, r, b)) : y = oO o 3 ∧ r = A4 (Cd o) ∧ b = true := by
 have h0 : ¬ (Ad o.fQ).fQos = 0 := by omega
 rw [Ac2 ex h h0, Mi ep h h0, Wj h h0 (.inl rfl), if_neg (by omega), if_pos (by omega)] at e1
 obtain ⟨a1, a2, a3⟩ := tri e1
 exact ⟨a1.symm, a2.symm, a3.symm⟩
theorem q2b (ex : x = Af o) (ep : p = A0 o) (h : Ce o = true) (hq : (Ad o.fQ).fQos = 2) (e1 : Dj x 5 p.fId = (y, r, b)) (e2 : Dj y 5 p.fId = (z, s, c)) : z = oO o 3 ∧ s = A4 (Cd o) ∧ c = true := by
 have h0 : ¬ (Ad o.fQ).fQos = 0 := by omega
 rw [(q2 ex ep h hq e1).1, Mi ep h h0, Wj h h0 (.inr ⟨rfl, hq⟩), if_neg (by omega), if_pos (by omega)] at e2
 obtain ⟨a1, a2, a3⟩ := tri e2
 exact ⟨a1.symm, a2.symm, a3.symm⟩
theorem q2c (ex : x = Af o) (ep : p = A0 o) (h : Ce o = true) (hq : (Ad o.fQ).fQos = 2) (e1 : Dj x 5 p.fId = (y, r, b)) (e2 : Dj y 5 p.fId = (z, s, c)) (e3 : Dj z 7 p.fId = (v, u, d)) : v = oD o ∧ u = G0 ∧ d = true := by
 have h0 : ¬ (Ad o.fQ).fQos = 0 := by omega
 rw [(q2b ex ep h hq e1 e2).1, Mi ep h h0, Wj h h0 (.inr ⟨rfl, hq⟩), if_pos (by omega)] at e3
 obtain ⟨a1, a2, a3⟩ := tri e3
 exact ⟨a1.symm, a2.symm, a3.symm⟩
theorem q2d (ex : x = Af o) (ep : p = A0 o) (h : Ce o = true) (hq : (Ad o.fQ).fQos = 2) (e1 : Dj x 7 p.fId = (y, r, b)) : b = false := by
 have h0 : ¬ (Ad o.fQ).fQos = 0 := by omega
 rw [Ac2 ex h h0, Mi ep h h0, Wj h h0 (.inl rfl), if_neg (by omega), if_neg (by omega)] at e1
 exact (tri e1).2.2.symm
theorem M5 (h : Ce o = true) : A4 (Cd o) = E7 6 (Cd o) := if_pos (nid h).1
theorem Cm (h : Ce o = true) (h0 : ¬ m.fQos = 0) (h1 : ¬ m.fQos = 1) (e : Ad o.fQ = m) : m.fQos = 2 := by
 have := Aaa h
 rw [e] at this
 omega
theorem Ak2 (n : Nat) (hn : 1048576 < n) (x : Bm) (h : OutB 400 x) : ∃ y p, y = Af x ∧ p = A0 x ∧ OutB 400 y ∧ (p.fTopic.size ≤ 400 ∧ p.fBody.size ≤ 400 ∧ p.fWants.length ≤ 0 ∧ p.fNames.length ≤ 0 ∧ p.fCodes.length ≤ 0) ∧ Ct E0 (n + 13) 45 37 [.agg (Bl x)] = some (.tup [.agg (Bl y), .agg (Bp p), .sc (.bool (Ce x))]) := by
 refine ⟨_, _, rfl, rfl, Jh h, ?_, T7 n hn x (h.ok (by decide)) (za1 h.wt (by decide))⟩
 unfold A0
 split
 rename_i hr
 have h2 := h.2
 rw [(rd hr).2.1] at h2
 have h3 : F6 Bv (Ad x.fQ :: x.fQ.tail) = 1 + ((Ad x.fQ).fTopic.size + (Ad x.fQ).fBody.size) + F6 Bv x.fQ.tail := rfl
 split <;> exact ⟨by show (Ad x.fQ).fTopic.size ≤ 400; omega, by show (Ad x.fQ).fBody.size ≤ 400; omega, za3 _, za3 _, za3 _⟩
 exact ⟨za3 _, za3 _, za3 _, za3 _, za3 _⟩
theorem Abj (n : Nat) (hn : 1048576 < n) (x : Bm) (kd id : Int) (h : OutB 400 x) : ∃ y p b, Dj x kd id = (y, p, b) ∧ OutB 400 y ∧ (p.fWants.length ≤ 0 ∧ p.fNames.length ≤ 0 ∧ p.fCodes.length ≤ 0) ∧ Ct E0 (n + 13) 45 15 [.agg (Bl x), .sc (.int .i64 kd), .sc (.int .i64 id)] = some (.tup [.agg (Bl y), .agg (Bp p), .sc (.bool b)]) := by
 refine ⟨_, _, _, rfl, Wi h, ?_, AeO n hn x kd id (za1 h.wt (by decide))⟩
 show (Kf x kd id).fWants.length ≤ 0 ∧ _
 have h2 := AfC x kd id
 unfold Pw at h2
 have e1 := Jl Af6 (Kf x kd id).fWants
 have e2 := Jl ByteArray.size (Kf x kd id).fNames
 refine ⟨by omega, ?_, ?_⟩
 show (Kf x kd id).fNames.length ≤ 0
 omega
 show (Kf x kd id).fCodes.length ≤ 0
 omega
end
theorem Rt (n : Nat) (hn : 1048576 < n) (i : Int) : Ct E0 (n + 2) 4 56 [.sc (.int .i64 i)] = some (.sc (.bool (Fl i 0 2))) := by
 rw [A2, AdS, f56]
 refine Gn (G := (· = some (sb (Fl i 0 2)))) ?_
 try simp only [Qx, Qw]
 have s0 : Sep [] [] := Gm
 refine Cc (v := (.bool (Fl i 0 2))) s0 rfl (vS3 .nil) (Jb n _ i 0 2) (Dd rfl ?_)
 first | rfl | (simp_all; done)
theorem Zs (n : Nat) (hn : 1048576 < n) (m : Ch) (i : Int) (hs : m.fTopic.size ≤ 1048576) (hq : 0 < m.fQos) (hqi : Fl m.fQos 0 2 = true) (hto : D4 m.fTopic = true) (hbo : m.fBody.size ≤ 40) (hsp : Cn (As m i false) (Bc false (As m i false)) = true) (hid : Fl i 1 65535 = true) : Ct E0 (n + 8) 4 12 [.agg (Bp (As m i false))] = some (.sc (.bool true)) := by
 rw [A2, Zg, f12]
 refine Gn (G := (· = some bT)) ?_
 try simp only [Qx, Qw]
 have s0 : Sep [] [] := Gm
 refine Mf s0 (F9 (E1 _)) fun i1 H s2 => Aj (o' := 0) rfl (Au (c := si ((As m i false).fType)) s2 (.here) rfl (Cc (v := (.bool (Fl ((As m i false).fType) 1 14))) s2 rfl (vS3 .nil) (Jb (n + 6) _ ((As m i false).fType) 1 14) (Gt (Av (nF rfl) (Ah s2 (.here) rfl (Gd.bothE ?_ ?_))))))
 ·refine Av (nF rfl) (Ah s2 (.here) rfl (Av (nF rfl) (Ik rfl rfl (Iy (n + 6) (by omega) (As m i false) s2 fun Rs3 H hRs3 s3 => Av (nF rfl) (Cc (v := (.bool (Cn (As m i false) (Bc false (As m i false))))) s3 rfl (.aggF (E1 _) (.agg (hRs3 _) .nil)) (Fb (n + 5) (by omega) _ (As m i false) (Bc false (As m i false)) (za3 _) (za3 _) (za3 _)) (Av (nF rfl) (Gt (F1 (nF rfl) (Bt (nF hsp) (Aj (o' := 0) rfl (Au (c := .sc (.int .i64 ((As m i false).fType))) s3 (.here) rfl (Bh (Bt rfl (Bh (Bt rfl (Bh (Co rfl (Aj (o' := 2) rfl (Au (c := .sc (.int .i64 ((As m i false).fQos))) s3 (.here) rfl (Cc (v := (.bool (Fl ((As m i false).fQos) 0 2))) s3 rfl (.cons .sc .nil) (Rt (n + 5) (by omega) ((As m i false).fQos)) (Av hqi (Aj (o' := 5) rfl (Av hqi (Au (c := .sc (.string ((As m i false).fTopic))) s3 (.here) rfl (Av hqi (Cc (v := (.bool (D4 m.fTopic))) s3 rfl (.cons .sc .nil) (Ka (n + 2) (by omega) _ m.fTopic hs) (Fe hqi (Av hto (Aj (o' := 6) rfl (Av hto (Au (c := A3 ((As m i false).fBody)) s3 (.here) rfl (Av hto (Mv (Av hto (Ss (Fe hto (Av (decide_eq_true (by show ((m.fBody.size : Nat) : Int) ≤ 40; omega)) (Aj (o' := 2) rfl (Av (decide_eq_true (by show ((m.fBody.size : Nat) : Int) ≤ 40; omega)) (Au (c := .sc (.int .i64 ((As m i false).fQos))) s3 (.here) rfl (Av (decide_eq_true (by show ((m.fBody.size : Nat) : Int) ≤ 40; omega)) (Bh (Av (decide_eq_true (by show ((m.fBody.size : Nat) : Int) ≤ 40; omega)) (Av (decide_eq_false (by show ¬ m.fQos = 0; omega)) (Aj (o' := 4) rfl (Av (decide_eq_false (by show ¬ m.fQos = 0; omega)) (Au (c := .sc (.int .i64 ((As m i false).fId))) s3 (.here) rfl (Av (decide_eq_false (by show ¬ m.fQos = 0; omega)) (Cc (v := (.bool (Fl ((As m i false).fId) 1 65535))) s3 rfl (.cons .sc .nil) (Vv (n + 5) (by omega) ((As m i false).fId)) (Av (decide_eq_true (by show ((m.fBody.size : Nat) : Int) ≤ 40; omega)) (F1 (decide_eq_false (by show ¬ m.fQos = 0; omega)) (Fe (decide_eq_true (by show ((m.fBody.size : Nat) : Int) ≤ 40; omega)) (Dd rfl ?_)))))))))))))))))))))))))))))))))))))))))))))))))))))
  first | rfl | exact congrArg (fun b => some (AV.sc (.bool b))) hid | (simp_all; done)
 ·refine Av (nF rfl) (Ik rfl rfl (Iy (n + 6) (by omega) (As m i false) s2 fun Rs4 H hRs4 s4 => Av (nF rfl) (Ah s4 (.here) rfl (Av (nF rfl) (Cc (v := (.bool (Cn (As m i false) (Bc false (As m i false))))) s4 rfl (.aggF (E1 _) (.agg (hRs4 _) .nil)) (Fb (n + 5) (by omega) _ (As m i false) (Bc false (As m i false)) (za3 _) (za3 _) (za3 _)) (Av (nF rfl) (Gt (F1 (nF rfl) (Bt (nF hsp) (Aj (o' := 0) rfl (Au (c := .sc (.int .i64 ((As m i false).fType))) s4 (.here) rfl (Bh (Bt rfl (Bh (Bt rfl (Bh (Co rfl (Aj (o' := 2) rfl (Au (c := .sc (.int .i64 ((As m i false).fQos))) s4 (.here) rfl (Cc (v := (.bool (Fl ((As m i false).fQos) 0 2))) s4 rfl (.cons .sc .nil) (Rt (n + 5) (by omega) ((As m i false).fQos)) (Av hqi (Aj (o' := 5) rfl (Av hqi (Au (c := .sc (.string ((As m i false).fTopic))) s4 (.here) rfl (Av hqi (Cc (v := (.bool (D4 m.fTopic))) s4 rfl (.cons .sc .nil) (Ka (n + 2) (by omega) _ m.fTopic hs) (Fe hqi (Av hto (Aj (o' := 6) rfl (Av hto (Au (c := A3 ((As m i false).fBody)) s4 (.here) rfl (Av hto (Mv (Av hto (Ss (Fe hto (Av (decide_eq_true (by show ((m.fBody.size : Nat) : Int) ≤ 40; omega)) (Aj (o' := 2) rfl (Av (decide_eq_true (by show ((m.fBody.size : Nat) : Int) ≤ 40; omega)) (Au (c := .sc (.int .i64 ((As m i false).fQos))) s4 (.here) rfl (Av (decide_eq_true (by show ((m.fBody.size : Nat) : Int) ≤ 40; omega)) (Bh (Av (decide_eq_true (by show ((m.fBody.size : Nat) : Int) ≤ 40; omega)) (Av (decide_eq_false (by show ¬ m.fQos = 0; omega)) (Aj (o' := 4) rfl (Av (decide_eq_false (by show ¬ m.fQos = 0; omega)) (Au (c := .sc (.int .i64 ((As m i false).fId))) s4 (.here) rfl (Av (decide_eq_false (by show ¬ m.fQos = 0; omega)) (Cc (v := (.bool (Fl ((As m i false).fId) 1 65535))) s4 rfl (.cons .sc .nil) (Vv (n + 5) (by omega) ((As m i false).fId)) (Av (decide_eq_true (by show ((m.fBody.size : Nat) : Int) ≤ 40; omega)) (F1 (decide_eq_false (by show ¬ m.fQos = 0; omega)) (Fe (decide_eq_true (by show ((m.fBody.size : Nat) : Int) ≤ 40; omega)) (Dd rfl ?_)))))))))))))))))))))))))))))))))))))))))))))))))))))
  first | rfl | exact congrArg (fun b => some (AV.sc (.bool b))) hid | (simp_all; done)
theorem Xc (n : Nat) (hn : 1048576 < n) (m : Ch) (i : Int) (hs : m.fTopic.size ≤ 1048576) (hq : m.fQos = 0) (hqi : Fl m.fQos 0 2 = true) (hto : D4 m.fTopic = true) (hbo : m.fBody.size ≤ 40) (hsp : Cn (As m i false) (Bc false (As m i false)) = true) : Ct E0 (n + 8) 4 12 [.agg (Bp (As m i false))] = some (.sc (.bool true)) := by
 rw [A2, Zg, f12]
 refine Gn (G := (· = some bT)) ?_
 try simp only [Qx, Qw]
 have s0 : Sep [] [] := Gm
 refine Mf s0 (F9 (E1 _)) fun i1 H s2 => Aj (o' := 0) rfl (Au (c := si ((As m i false).fType)) s2 (.here) rfl (Cc (v := (.bool (Fl ((As m i false).fType) 1 14))) s2 rfl (vS3 .nil) (Jb (n + 6) _ ((As m i false).fType) 1 14) (Gt (Av (nF rfl) (Ah s2 (.here) rfl (Gd.bothE ?_ ?_))))))
 ·refine Av (nF rfl) (Ah s2 (.here) rfl (Av (nF rfl) (Ik rfl rfl (Iy (n + 6) (by omega) (As m i false) s2 fun Rs3 H hRs3 s3 => Av (nF rfl) (Cc (v := (.bool (Cn (As m i false) (Bc false (As m i false))))) s3 rfl (.aggF (E1 _) (.agg (hRs3 _) .nil)) (Fb (n + 5) (by omega) _ (As m i false) (Bc false (As m i false)) (za3 _) (za3 _) (za3 _)) (Av (nF rfl) (Gt (F1 (nF rfl) (Bt (nF hsp) (Aj (o' := 0) rfl (Au (c := .sc (.int .i64 ((As m i false).fType))) s3 (.here) rfl (Bh (Bt rfl (Bh (Bt rfl (Bh (Co rfl (Aj (o' := 2) rfl (Au (c := .sc (.int .i64 ((As m i false).fQos))) s3 (.here) rfl (Cc (v := (.bool (Fl ((As m i false).fQos) 0 2))) s3 rfl (.cons .sc .nil) (Rt (n + 5) (by omega) ((As m i false).fQos)) (Av hqi (Aj (o' := 5) rfl (Av hqi (Au (c := .sc (.string ((As m i false).fTopic))) s3 (.here) rfl (Av hqi (Cc (v := (.bool (D4 m.fTopic))) s3 rfl (.cons .sc .nil) (Ka (n + 2) (by omega) _ m.fTopic hs) (Fe hqi (Av hto (Aj (o' := 6) rfl (Av hto (Au (c := A3 ((As m i false).fBody)) s3 (.here) rfl (Av hto (Mv (Av hto (Ss (Fe hto (Av (decide_eq_true (by show ((m.fBody.size : Nat) : Int) ≤ 40; omega)) (Aj (o' := 2) rfl (Av (decide_eq_true (by show ((m.fBody.size : Nat) : Int) ≤ 40; omega)) (Au (c := .sc (.int .i64 ((As m i false).fQos))) s3 (.here) rfl (Av (decide_eq_true (by show ((m.fBody.size : Nat) : Int) ≤ 40; omega)) (Bh (Av (decide_eq_true (by show ((m.fBody.size : Nat) : Int) ≤ 40; omega)) (El (decide_eq_true (by show m.fQos = 0; omega)) (El (decide_eq_true (by show m.fQos = 0; omega)) (El (decide_eq_true (by show m.fQos = 0; omega)) (Av (decide_eq_true (by show ((m.fBody.size : Nat) : Int) ≤ 40; omega)) (Fe (decide_eq_true (by show m.fQos = 0; omega)) (Fe (decide_eq_true (by show ((m.fBody.size : Nat) : Int) ≤ 40; omega)) (Dd rfl ?_))))))))))))))))))))))))))))))))))))))))))))))))))
  first | rfl | (simp_all; done)
 ·refine Av (nF rfl) (Ik rfl rfl (Iy (n + 6) (by omega) (As m i false) s2 fun Rs4 H hRs4 s4 => Av (nF rfl) (Ah s4 (.here) rfl (Av (nF rfl) (Cc (v := (.bool (Cn (As m i false) (Bc false (As m i false))))) s4 rfl (.aggF (E1 _) (.agg (hRs4 _) .nil)) (Fb (n + 5) (by omega) _ (As m i false) (Bc false (As m i false)) (za3 _) (za3 _) (za3 _)) (Av (nF rfl) (Gt (F1 (nF rfl) (Bt (nF hsp) (Aj (o' := 0) rfl (Au (c := .sc (.int .i64 ((As m i false).fType))) s4 (.here) rfl (Bh (Bt rfl (Bh (Bt rfl (Bh (Co rfl (Aj (o' := 2) rfl (Au (c := .sc (.int .i64 ((As m i false).fQos))) s4 (.here) rfl (Cc (v := (.bool (Fl ((As m i false).fQos) 0 2))) s4 rfl (.cons .sc .nil) (Rt (n + 5) (by omega) ((As m i false).fQos)) (Av hqi (Aj (o' := 5) rfl (Av hqi (Au (c := .sc (.string ((As m i false).fTopic))) s4 (.here) rfl (Av hqi (Cc (v := (.bool (D4 m.fTopic))) s4 rfl (.cons .sc .nil) (Ka (n + 2) (by omega) _ m.fTopic hs) (Fe hqi (Av hto (Aj (o' := 6) rfl (Av hto (Au (c := A3 ((As m i false).fBody)) s4 (.here) rfl (Av hto (Mv (Av hto (Ss (Fe hto (Av (decide_eq_true (by show ((m.fBody.size : Nat) : Int) ≤ 40; omega)) (Aj (o' := 2) rfl (Av (decide_eq_true (by show ((m.fBody.size : Nat) : Int) ≤ 40; omega)) (Au (c := .sc (.int .i64 ((As m i false).fQos))) s4 (.here) rfl (Av (decide_eq_true (by show ((m.fBody.size : Nat) : Int) ≤ 40; omega)) (Bh (Av (decide_eq_true (by show ((m.fBody.size : Nat) : Int) ≤ 40; omega)) (El (decide_eq_true (by show m.fQos = 0; omega)) (El (decide_eq_true (by show m.fQos = 0; omega)) (El (decide_eq_true (by show m.fQos = 0; omega)) (Av (decide_eq_true (by show ((m.fBody.size : Nat) : Int) ≤ 40; omega)) (Fe (decide_eq_true (by show m.fQos = 0; omega)) (Fe (decide_eq_true (by show ((m.fBody.size : Nat) : Int) ≤ 40; omega)) (Dd rfl ?_))))))))))))))))))))))))))))))))))))))))))))))))))
  first | rfl | (simp_all; done)
theorem Xb (n : Nat) (hn : 1048576 < n) (o : Bm) (p : A5) (ep : p = A0 o) (h : Ce o = true) (hs : p.fTopic.size ≤ 1048576) : Ct E0 (n + 8) 4 12 [.agg (Bp p)] = some (.sc (.bool true)) := by
 have e := Ho ep h
 have g := Aaa h
 have gi : Fl (Ad o.fQ).fQos 0 2 = true := by
  simp only [Fl, zah, decide_eq_true_eq]
  omega
 rw [e] at hs ⊢
 by_cases hq : (Ad o.fQ).fQos = 0
 rw [if_pos hq] at hs ⊢
 exact Xc n hn _ _ hs hq gi g.2.2.1 g.2.2.2 (Ah9 _ _ _ (.inr ⟨hq, rfl⟩))
 rw [if_neg hq] at hs ⊢
 exact Zs n hn _ _ hs (by omega) gi g.2.2.1 g.2.2.2 (Ah9 _ _ _ (.inl (by omega))) (nid h).1
theorem Ac5 (n : Nat) (hn : 1048576 < n) (a : List Ch) (b : List Ch) (ha : a.length ≤ 1048576) (hb : b.length ≤ 1048576) : Ct E0 (n + 8) 4 25 [Al Ak a, Al Ak b] = some (.sc (.bool (decide (a.length = b.length) && Lm a b))) := by
 rw [A2, Aic, f25]
 refine Gn (G := (· = some (sb (decide (a.length = b.length) && Lm a b)))) ?_
 try simp only [Qx, Qw]
 have s0 : Sep [] [] := Gm
 refine Mv (Mv (Bh (Ag ((decide (((a.length : Nat) : Int) = ((b.length : Nat) : Int)))) (fun h1 => ?_) fun h1 => ?_)))
 ·refine Av h1 (Av h1 (Av h1 (Cc (v := (.bool (Lm a b))) s0 rfl (.cons .ro (.cons .ro .nil)) (Acl (n + 1) (by omega) _ a b (by omega) (by omega)) (Fe h1 (Dd rfl ?_)))))
  first | rfl | (simp_all; done) | (simp_all; omega)
 ·refine El h1 (El h1 (El h1 (F1 h1 (Dd rfl ?_))))
  first | rfl | (simp_all; done) | (simp_all; omega)
theorem Ac6 (n : Nat) (hn : 1048576 < n) (a b : List Ch) (e : a = b) (ha : a.length ≤ 1048576) : Ct E0 (n + 8) 4 25 [Al Ak a, Al Ak b] = some (.sc (.bool true)) := by
 subst e
 rw [Ac5 n hn a a ha ha, Abz a]
 simp
theorem Ve (n : Nat) (hn : 1048576 < n) (code : ByteArray) (hcode : code.size ≤ 1048576)   {β : Type} {r : Option β} {KH : KO β} {H : Ab} {L : List Ck} (s0 : Sep H (L)) (hk : ∀ (r0 : Bm) (r0x1 : AV) (r0x2 : AV) (H' : Ab), (Ar r0x1 = true) → (Ar r0x2 = true) → (OutB 400 r0) → Sep H' (.own r0x1 24 (Al Aq r0.fFl) :: .own r0x2 25 (Al Ak r0.fQ) :: L) → Gd (· = r) (KH (.agg [.sc (.int .i64 r0.fLast), r0x1, r0x2]) H')) : Gd (· = r) (Dz E0 (n + 20) β 36 [A3 code] H fun x H => KH x H) := by
 rw [Aie, f36]
 try simp only [Qx, Qw]
 refine C8 s0 fun i1 H s2 => Ala hcode (by omega) s2 fun c3 hq4 H sq4 => Ik rfl rfl (AgH _ (by omega) code hcode c3 0 hq4   (sq4.pick (.here)) fun r5 r5x1 r5x2 iq6 hq6 H lr5x1 lr5x2 hr5 sq6 => ?_)
 have kr5 := hr5
 obtain ⟨⟨oar5, obr5, ocr5⟩, wr5⟩ := kr5
 have gr5 := Hl hr5
 refine Bo (cs' := [si r5.fLast, r5x1, r5x2]) sq6 C3 (Ac (Aa rfl (Aa lr5x1 (Aa lr5x2 rfl)))) rfl (Bb rfl) rfl fun H s7 => Ah s7 (.here) rfl ?_
 have e8 : OutB 400 (r5 : Bm) := by
  first | assumption | exact hinv | (apply E9 <;> first | assumption | omega | (unfold G2; omega) | (intro z hz; cases hz; done))
 exact hk (r5 : Bm) r5x1 r5x2 _ lr5x1 lr5x2 e8 (s7.sel (.cons A7 (.cons A7 V9)))
theorem Zv (n : Nat) (hn : 1048576 < n) (code : ByteArray) (k0 : M1 code) : Ct E0 (n + 34) 4 6 [A3 code] = some (.sc (.bool true)) := by
 rw [A2, Aj2, f6]
 refine Gn (G := (· = some bT)) ?_
 simp only [Qx, Qw]
 have s0 : Sep [] [] := Gm
 refine Cc (v := .bool (decide ((1048576 : Int) < (code.size : Nat)))) s0 rfl (.cons .ro .nil) (AkD (n + 32) _ code) ?_
 by_cases hcode : code.size ≤ 1048576
 refine Bt (decide_eq_false (by omega)) (Ik rfl rfl (Ve _ (by omega) code hcode   s0 fun r1 r1x1 r1x2 H lr1x1 lr1x2 hr1 s2 => ?_))
 have kr1 := hr1
 obtain ⟨⟨oar1, obr1, ocr1⟩, wr1⟩ := kr1
 have gr1 := Hl hr1
 refine C8 s2 fun i3 H s4 => Bo (cs' := [si r1.fLast, r1x1, r1x2]) s4 (.here) (Ac (Aa rfl (Aa lr1x1 (Aa lr1x2 rfl)))) rfl (Bb rfl) rfl fun H s5 => Ah s5 (.here) rfl ?_
 obtain ⟨v6, pv6, ev6, fv6, bv6, ⟨jv6a, jv6b, jv6c, jv6d, jv6e⟩, tv6⟩ := Ak2 (n + 20) (by omega) r1 hr1
 have gv6 := Hl bv6
 refine Gx s5 rfl (.agg (.cons .sc (.cons (.own (by decide) A7) (.cons (.own (by decide) B9) .nil))) .nil) (tv6) rfl (Ey ⟨_, rfl, rfl⟩ (H6 _) (Ey ⟨_, rfl, rfl⟩ (Dr _) (Db Fz))) ?_
 rintro _ _ H ⟨_, _, _, _, rfl, rfl, ⟨x13, x14, lx13, lx14, rfl, rfl⟩, ⟨_, _, _, _, rfl, rfl, ⟨x7, x8, x9, x10, x11, x12, lx7, lx8, lx9, lx10, lx11, lx12, rfl, rfl⟩, ⟨_, rfl, ⟨rfl, rfl⟩⟩⟩⟩ s15
 simp only [zae, zao] at s15
 refine C7 (v := .agg [si v6.fLast, x13, x14]) rfl (C7 (v := .agg [si pv6.fType, sb pv6.fDup, si pv6.fQos, sb pv6.fRetain, si pv6.fId, ss pv6.fTopic, x7, ss pv6.fClient, si pv6.fLevel, sb pv6.fClean, si pv6.fKeep, sb pv6.fHasWill, ss pv6.fWTopic, x8, si pv6.fWQos, sb pv6.fWRetain, sb pv6.fHasUser, ss pv6.fUser, sb pv6.fHasPass, x9, si pv6.fCode, sb pv6.fPresent, x10, x11, x12]) rfl (C7 (v := sb (Ce r1)) rfl (C8 s15 fun i16 H s17 => C8 s17 fun i18 H s19 => Bo (cs' := [si v6.fLast, x13, x14]) s19 A7 (Ac (Aa rfl (Aa lx13 (Aa lx14 rfl)))) rfl (Bb rfl) rfl fun H s20 => Bo (cs' := [si pv6.fType, sb pv6.fDup, si pv6.fQos, sb pv6.fRetain, si pv6.fId, ss pv6.fTopic, x7, ss pv6.fClient, si pv6.fLevel, sb pv6.fClean, si pv6.fKeep, sb pv6.fHasWill, ss pv6.fWTopic, x8, si pv6.fWQos, sb pv6.fWRetain, sb pv6.fHasUser, ss pv6.fUser, sb pv6.fHasPass, x9, si pv6.fCode, sb pv6.fPresent, x10, x11, x12]) s20 A7 (Ac (Aa rfl (Aa rfl (Aa rfl (Aa rfl (Aa rfl (Aa rfl (Aa lx7 (Aa rfl (Aa rfl (Aa rfl (Aa rfl (Aa rfl (Aa rfl (Aa lx8 (Aa rfl (Aa rfl (Aa rfl (Aa rfl (Aa rfl (Aa lx9 (Aa rfl (Aa rfl (Aa lx10 (Aa lx11 (Aa lx12 rfl)))))))))))))))))))))))))) rfl (Bb rfl) rfl fun H s21 => Ah s21 Is rfl (Cc (v := (.bool (Ce r1))) s21 rfl (.agg (.cons .sc (.cons (.own (by decide) It) (.cons (.own (by decide) Qv) .nil))) .nil) (Mz (n + 22) (by omega) r1 (hr1.ok (by decide)) (za1 hr1.wt (by decide))) (Vp (v := sb (!((Ce r1) == (Ce r1)))) (fun k => rfl) (Av (nF (beq_self_eq_true _)) (Av (nF (beq_self_eq_true _)) ?_)))))))
 refine Ah s21 Is rfl (Av (nF (beq_self_eq_true _)) (Cc (v := (.bool (Ce r1))) s21 rfl (.agg (.cons .sc (.cons (.own (by decide) It) (.cons (.own (by decide) Qv) .nil))) .nil) (M6 (n + 22) (by omega) r1 (hr1.ok (by decide)) (za1 hr1.wt (by decide))) (Av (nF (beq_self_eq_true _)) (Vp (v := sb (!((Ce r1) == (Ce r1)))) (fun k => rfl) (F1 (nF (beq_self_eq_true _)) (Av (nF (beq_self_eq_true _)) (Ah s21 Is rfl (Av (nF (beq_self_eq_true _)) (Ah s21 Is rfl (Av (nF (beq_self_eq_true _)) (Cc (v := (.bool (Dt r1))) s21 rfl (.agg (.cons .sc (.cons (.own (by decide) It) (.cons (.own (by decide) Qv) .nil))) .nil) (Lb (n + 23) (by omega) _ r1 (za1 hr1.wt (by decide))) (Av (nF (beq_self_eq_true _)) (Cc (v := (.bool (Dt r1))) s21 rfl (.agg (.cons .sc (.cons (.own (by decide) It) (.cons (.own (by decide) Qv) .nil))) .nil) (Po (n + 23) (by omega) _ r1 (za1 hr1.wt (by decide))) (Av (nF (beq_self_eq_true _)) (Vp (v := sb (!((Dt r1) == (Dt r1)))) (fun k => rfl) (F1 (nF (beq_self_eq_true _)) (Bt (nF (beq_self_eq_true _)) (Gt (Ag ((Ce r1)) (fun h22 => ?_) fun h22 => ?_)))))))))))))))))))
 refine Bt (nF h22) (Aj (o' := 2) rfl (Au (c := r1x2) s21 Is rfl ?_))
 have hq0 := Ajd h22
 have s23 := s21.toShs Qv
 obtain ⟨y24, he25⟩ : ∃ y, (r1.fQ)[(0 : Int).toNat]? = some y := ⟨_, zan (by first | omega | (simp at *; omega))⟩
 refine Sq (y := y24) s23 ⟨_, _, rfl, rfl, rfl, rfl⟩ (.here) (by omega) he25 Eb Fu rfl fun de25 oe25 raw hl hlf re25 hsc se25 => ?_
 obtain ⟨e25r1, le25r1, rfl⟩ := AhT hl hlf hsc
 clear hl hlf hsc
 refine P9 re25 (C8 se25 fun i26 H s27 => Bo (cs' := [.sc (.string y24.fTopic), e25r1, .sc (.int .i64 y24.fQos), .sc (.bool y24.fRetain)]) s27 (.here) (Ac (Aa rfl (Aa le25r1 rfl))) rfl (Bb rfl) rfl fun H s28 => Ah s28 C3 rfl (Cc (v := (.bool (Dt v6))) s28 rfl (.agg (.cons .sc (.cons (.own (by decide) It) (.cons (.own (by decide) Is) .nil))) .nil) (Lb (n + 23) (by omega) _ v6 (za1 bv6.wt (by decide))) (Gt (Av (nF (AaT ev6 h22)) (Ah s28 B9 rfl (Av (nF (AaT ev6 h22)) (Cc (v := (.bool true)) s28 rfl (.agg (Gp (.cons (.own (by decide) D9) (Gp (.cons (.own (by decide) Ua) (K5 (.cons (.own (by decide) Yh) (Hw (.cons (.own (by decide) zP6) (.cons (.own (by decide) Oi) (.cons (.own (by decide) F5) .nil)))))))))) .nil) (Xb (n + 25) (by omega) r1 pv6 fv6 h22 (by omega)) (Av (nF (AaT ev6 h22)) (Gt (F1 (nF (AaT ev6 h22)) (Av (nF rfl) (Aj (o' := 0) rfl (Av (nF rfl) (Au (c := .sc (.int .i64 pv6.fType)) s28 B9 rfl (Av (nF rfl) (Mx (F1 (nF rfl) (Av (nF (decide_eq_true (by rw [Ho fv6 h22]; rfl))) (Aj (o' := 5) rfl (Av (nF (decide_eq_true (by rw [Ho fv6 h22]; rfl))) (Au (c := .sc (.string pv6.fTopic)) s28 B9 rfl (Av (nF (decide_eq_true (by rw [Ho fv6 h22]; rfl))) (Aj (o' := 0) rfl (Av (nF (decide_eq_true (by rw [Ho fv6 h22]; rfl))) (Au (c := .sc (.string y24.fTopic)) s28 (.here) rfl (Av (nF (decide_eq_true (by rw [Ho fv6 h22]; rfl))) (AiP (F1 (nF (decide_eq_true (by rw [Ho fv6 h22]; rfl))) (Av (nF (by rw [Ho fv6 h22, ← (A8 h22 he25)]; exact beq_self_eq_true _)) (Aj (o' := 6) rfl (Av (nF (by rw [Ho fv6 h22, ← (A8 h22 he25)]; exact beq_self_eq_true _)) ?_)))))))))))))))))))))))))))))))
 refine Au (c := x7) s28 B9 rfl (Av (nF (by rw [Ho fv6 h22, ← (A8 h22 he25)]; exact beq_self_eq_true _)) (Aj (o' := 1) rfl (Av (nF (by rw [Ho fv6 h22, ← (A8 h22 he25)]; exact beq_self_eq_true _)) (Au (c := e25r1) s28 (.here) rfl (Av (nF (by rw [Ho fv6 h22, ← (A8 h22 he25)]; exact beq_self_eq_true _)) (Cc (v := (.bool true)) s28 rfl (.cons (.own (by decide) D9) (.cons (.shsE (k := 1) (by decide) A7 rfl) .nil)) (Ajg _ _ _ _ (by rw [Ho fv6 h22, ← (A8 h22 he25)]; rfl)) (Av (nF (by rw [Ho fv6 h22, ← (A8 h22 he25)]; exact beq_self_eq_true _)) (Gt (F1 (nF (by rw [Ho fv6 h22, ← (A8 h22 he25)]; exact beq_self_eq_true _)) (Av (nF rfl) (Aj (o' := 2) rfl (Av (nF rfl) (Au (c := .sc (.int .i64 pv6.fQos)) s28 B9 rfl (Av (nF rfl) (Aj (o' := 2) rfl (Av (nF rfl) (Au (c := .sc (.int .i64 y24.fQos)) s28 (.here) rfl (Av (nF rfl) (Mx (F1 (nF rfl) (Av (nF (decide_eq_true (by rw [Ho fv6 h22, ← (A8 h22 he25)]; rfl))) (Aj (o' := 1) rfl (Av (nF (decide_eq_true (by rw [Ho fv6 h22, ← (A8 h22 he25)]; rfl))) (Au (c := .sc (.bool pv6.fDup)) s28 B9 rfl (F1 (nF (decide_eq_true (by rw [Ho fv6 h22, ← (A8 h22 he25)]; rfl))) (Av (by rw [Ho fv6 h22]; rfl) (Aj (o' := 3) rfl (Av (by rw [Ho fv6 h22]; rfl) (Au (c := .sc (.bool pv6.fRetain)) s28 B9 rfl (Av (by rw [Ho fv6 h22]; rfl) (Aj (o' := 3) rfl (Av (by rw [Ho fv6 h22]; rfl) (Au (c := .sc (.bool y24.fRetain)) s28 (.here) rfl (Av (by rw [Ho fv6 h22]; rfl) (Vp (v := .sc (.bool (!(pv6.fRetain == y24.fRetain)))) (fun k => rfl) (F1 (by rw [Ho fv6 h22]; rfl) (Av (nF (by rw [Ho fv6 h22, ← (A8 h22 he25)]; exact beq_self_eq_true _)) (Aj (o' := 2) rfl (Av (nF (by rw [Ho fv6 h22, ← (A8 h22 he25)]; exact beq_self_eq_true _)) (Au (c := x14) s28 C3 rfl (Av (nF (by rw [Ho fv6 h22, ← (A8 h22 he25)]; exact beq_self_eq_true _)) (Aj (o' := 2) rfl (Av (nF (by rw [Ho fv6 h22, ← (A8 h22 he25)]; exact beq_self_eq_true _)) (Au (c := r1x2) s28 Qv rfl ?_))))))))))))))))))))))))))))))))))))))))))))
 refine Av (nF (by rw [Ho fv6 h22, ← (A8 h22 he25)]; exact beq_self_eq_true _)) (J9 (a := 1) (b := ((r1.fQ.length : Nat) : Int)) s28 ⟨_, _, rfl, rfl, rfl, rfl⟩ A7 rfl rfl (by omega) (by first | omega | (simp; omega)) (by first | omega | (simp; omega)) Eb rfl fun y29 ly29 qy29 s30 => Av (nF (by rw [Ho fv6 h22, ← (A8 h22 he25)]; exact beq_self_eq_true _)) (Cc (v := (.bool true)) s30 rfl (.cons (.own (by decide) Is) (.cons (.shsE (k := 0) (by decide) (.here) rfl) .nil)) (Ac6 (n + 25) (by omega) v6.fQ ((r1.fQ.drop (1 : Int).toNat).take (((r1.fQ.length : Nat) : Int).toNat - (1 : Int).toNat)) (Alg ev6 h22) (by omega)) (Av (nF (by rw [Ho fv6 h22, ← (A8 h22 he25)]; exact beq_self_eq_true _)) (Gt (F1 (nF (by rw [Ho fv6 h22, ← (A8 h22 he25)]; exact beq_self_eq_true _)) (Bt (nF rfl) (Aj (o' := 2) rfl (Au (c := .sc (.int .i64 y24.fQos)) s30 A7 rfl (Bh (Ag ((decide (y24.fQos = 0))) (fun h31 => ?_) fun h31 => ?_))))))))))
 refine Co h31 (Aj (o' := 1) rfl (Au (c := x13) s30 C3 rfl (Hh s30 It (Aj (o' := 1) rfl (Au (c := r1x1) s30 Qv rfl (Hh s30 Px (Bh (Av (decide_eq_true (by rw [Ac1 ev6 h22 (by rw [(A8 h22 he25)]; exact of_decide_eq_true h31)])) (Aj (o' := 4) rfl (Av (decide_eq_true (by rw [Ac1 ev6 h22 (by rw [(A8 h22 he25)]; exact of_decide_eq_true h31)])) (Au (c := .sc (.int .i64 pv6.fId)) s30 B9 rfl (Av (decide_eq_true (by rw [Ac1 ev6 h22 (by rw [(A8 h22 he25)]; exact of_decide_eq_true h31)])) (Bh (Fe (decide_eq_true (by rw [Ac1 ev6 h22 (by rw [(A8 h22 he25)]; exact of_decide_eq_true h31)])) ?_))))))))))))))
 have s32 := s30.ofShs (.here)
 exact Dd rfl (congrArg (fun b => some (AV.sc (.bool b))) (decide_eq_true (by rw [Ho fv6 h22, if_pos (by rw [(A8 h22 he25)]; exact of_decide_eq_true h31)]; rfl)))
 refine Bt h31 ?_
 have s33 := s30.ofShs (.here)
 have lp34 : ∀ (j m : Nat) (z : Int)  (i : Nat) (h : Int) (H : Ab), j < m → 0 ≤ z ∧ z + ((j : Nat) : Int) = max (((r1.fFl.length : Nat) : Int)) 0 → Sep H (.own r1x2 25 (Al Ak r1.fQ) :: .blk i26 [ss y24.fTopic, e25r1, si y24.fQos, sb y24.fRetain] true :: .blk i18 [si pv6.fType, sb pv6.fDup, si pv6.fQos, sb pv6.fRetain, si pv6.fId, ss pv6.fTopic, x7, ss pv6.fClient, si pv6.fLevel, sb pv6.fClean, si pv6.fKeep, sb pv6.fHasWill, ss pv6.fWTopic, x8, si pv6.fWQos, sb pv6.fWRetain, sb pv6.fHasUser, ss pv6.fUser, sb pv6.fHasPass, x9, si pv6.fCode, sb pv6.fPresent, x10, x11, x12] true :: .blk i16 [si v6.fLast, x13, x14] true :: .own x12 39 (Fo pv6.fCodes) :: .own x11 38 (Iu pv6.fNames) :: .own x10 37 (Al Dp pv6.fWants) :: .own x9 22 (A3 pv6.fPass) :: .own x8 22 (A3 pv6.fWBody) :: .own x7 22 (A3 pv6.fBody) :: .own x14 25 (Al Ak v6.fQ) :: .own x13 24 (Al Aq v6.fFl) :: .blk i3 [si r1.fLast, r1x1, r1x2] true :: .own r1x1 24 (Al Aq r1.fFl) :: []) → Gd (· = some bT) (Si (PR ((n + 33)) AV) ((n + 33)) (fun x H => Be Ap E0.tp 4 H x) m (.ptr i3 0) (.ptr i16 0) (.ptr i18 0) (.ptr i26 0) (si z) H) := by
  intro j
  induction j with
  | zero =>
   intro m0 z  i h H hm hz   s0
   obtain ⟨m, rfl⟩ : ∃ m, m0 = m + 1 := ⟨m0 - 1, by omega⟩
   rw [Si]
   try simp only [Qx, Qw]
   refine Aj (o' := 1) rfl (Au (c := r1x1) s0 Qv rfl (Hh s0 Px (Mw (Bt (decide_eq_false (by omega)) (Aj (o' := 2) rfl (Au (c := si y24.fQos) s0 A7 rfl (Bh (Ag ((decide (y24.fQos = 1))) (fun h35 => ?_) fun h35 => ?_))))))))
   refine Co h35 (Ah s0 C3 rfl (Aj (o' := 4) rfl (Au (c := si pv6.fId) s0 B9 rfl ?_)))
   obtain ⟨v36, pv36, zv36, ev36, bv36, ⟨lv36a, lv36b, lv36c⟩, tv36⟩ := Abj (n + 20) (by omega) v6 4 pv6.fId bv6
   have gv36 := Hl bv36
   refine Gx s0 rfl (.agg (.cons .sc (.cons (.own (by decide) It) (.cons (.own (by decide) Is) .nil))) (Hw .nil)) (tv36) rfl (Ey ⟨_, rfl, rfl⟩ (H6 _) (Ey ⟨_, rfl, rfl⟩ (Dr _) (Db Fz))) ?_
   rintro _ _ H ⟨_, _, _, _, rfl, rfl, ⟨x43, x44, lx43, lx44, rfl, rfl⟩, ⟨_, _, _, _, rfl, rfl, ⟨x37, x38, x39, x40, x41, x42, lx37, lx38, lx39, lx40, lx41, lx42, rfl, rfl⟩, ⟨_, rfl, ⟨rfl, rfl⟩⟩⟩⟩ s45
   simp only [zae, zao] at s45
   refine C7 (v := .agg [si v36.fLast, x43, x44]) rfl (C7 (v := .agg [si pv36.fType, sb pv36.fDup, si pv36.fQos, sb pv36.fRetain, si pv36.fId, ss pv36.fTopic, x37, ss pv36.fClient, si pv36.fLevel, sb pv36.fClean, si pv36.fKeep, sb pv36.fHasWill, ss pv36.fWTopic, x38, si pv36.fWQos, sb pv36.fWRetain, sb pv36.fHasUser, ss pv36.fUser, sb pv36.fHasPass, x39, si pv36.fCode, sb pv36.fPresent, x40, x41, x42]) rfl (C7 (v := sb zv36) rfl (C8 s45 fun i46 H s47 => C8 s47 fun i48 H s49 => Bo (cs' := [si v36.fLast, x43, x44]) s49 A7 (Ac (Aa rfl (Aa lx43 (Aa lx44 rfl)))) rfl (Bb rfl) rfl fun H s50 => Bo (cs' := [si pv36.fType, sb pv36.fDup, si pv36.fQos, sb pv36.fRetain, si pv36.fId, ss pv36.fTopic, x37, ss pv36.fClient, si pv36.fLevel, sb pv36.fClean, si pv36.fKeep, sb pv36.fHasWill, ss pv36.fWTopic, x38, si pv36.fWQos, sb pv36.fWRetain, sb pv36.fHasUser, ss pv36.fUser, sb pv36.fHasPass, x39, si pv36.fCode, sb pv36.fPresent, x40, x41, x42]) s50 A7 (Ac (Aa rfl (Aa rfl (Aa rfl (Aa rfl (Aa rfl (Aa rfl (Aa lx37 (Aa rfl (Aa rfl (Aa rfl (Aa rfl (Aa rfl (Aa rfl (Aa lx38 (Aa rfl (Aa rfl (Aa rfl (Aa rfl (Aa rfl (Aa lx39 (Aa rfl (Aa rfl (Aa lx40 (Aa lx41 (Aa lx42 rfl)))))))))))))))))))))))))) rfl (Bb rfl) rfl fun H s51 => Ah s51 A7 rfl (Aj (o' := 4) rfl (Au (c := si pv6.fId) s51 Qv rfl ?_)))))
   obtain ⟨v52, pv52, zv52, ev52, bv52, ⟨lv52a, lv52b, lv52c⟩, tv52⟩ := Abj (n + 20) (by omega) v36 4 pv6.fId bv36
   have gv52 := Hl bv52
   refine Gx s51 rfl (.agg (.cons .sc (.cons (.own (by decide) D9) (.cons (.own (by decide) Ua) .nil))) (Hw .nil)) (tv52) rfl (Ey ⟨_, rfl, rfl⟩ (H6 _) (Ey ⟨_, rfl, rfl⟩ (Dr _) (Db Fz))) ?_
   rintro _ _ H ⟨_, _, _, _, rfl, rfl, ⟨x59, x60, lx59, lx60, rfl, rfl⟩, ⟨_, _, _, _, rfl, rfl, ⟨x53, x54, x55, x56, x57, x58, lx53, lx54, lx55, lx56, lx57, lx58, rfl, rfl⟩, ⟨_, rfl, ⟨rfl, rfl⟩⟩⟩⟩ s61
   simp only [zae, zao] at s61
   refine C7 (v := .agg [.sc (.int .i64 v52.fLast), x59, x60]) rfl (C7 (v := .agg [.sc (.int .i64 pv52.fType), .sc (.bool pv52.fDup), .sc (.int .i64 pv52.fQos), .sc (.bool pv52.fRetain), .sc (.int .i64 pv52.fId), .sc (.string pv52.fTopic), x53, .sc (.string pv52.fClient), .sc (.int .i64 pv52.fLevel), .sc (.bool pv52.fClean), .sc (.int .i64 pv52.fKeep), .sc (.bool pv52.fHasWill), .sc (.string pv52.fWTopic), x54, .sc (.int .i64 pv52.fWQos), .sc (.bool pv52.fWRetain), .sc (.bool pv52.fHasUser), .sc (.string pv52.fUser), .sc (.bool pv52.fHasPass), x55, .sc (.int .i64 pv52.fCode), .sc (.bool pv52.fPresent), x56, x57, x58]) rfl (C7 (v := .sc (.bool zv52)) rfl (C8 s61 fun i62 H s63 => C8 s63 fun i64 H s65 => Bo (cs' := [.sc (.int .i64 v52.fLast), x59, x60]) s65 A7 (Ac (Aa rfl (Aa lx59 (Aa lx60 rfl)))) rfl (Bb rfl) rfl fun H s66 => Bo (cs' := [.sc (.int .i64 pv52.fType), .sc (.bool pv52.fDup), .sc (.int .i64 pv52.fQos), .sc (.bool pv52.fRetain), .sc (.int .i64 pv52.fId), .sc (.string pv52.fTopic), x53, .sc (.string pv52.fClient), .sc (.int .i64 pv52.fLevel), .sc (.bool pv52.fClean), .sc (.int .i64 pv52.fKeep), .sc (.bool pv52.fHasWill), .sc (.string pv52.fWTopic), x54, .sc (.int .i64 pv52.fWQos), .sc (.bool pv52.fWRetain), .sc (.bool pv52.fHasUser), .sc (.string pv52.fUser), .sc (.bool pv52.fHasPass), x55, .sc (.int .i64 pv52.fCode), .sc (.bool pv52.fPresent), x56, x57, x58]) s66 A7 (Ac (Aa rfl (Aa rfl (Aa rfl (Aa rfl (Aa rfl (Aa rfl (Aa lx53 (Aa rfl (Aa rfl (Aa rfl (Aa rfl (Aa rfl (Aa rfl (Aa lx54 (Aa rfl (Aa rfl (Aa rfl (Aa rfl (Aa rfl (Aa lx55 (Aa rfl (Aa rfl (Aa lx56 (Aa lx57 (Aa lx58 rfl)))))))))))))))))))))))))) rfl (Bb rfl) rfl fun H s67 => Av (q1 ev6 fv6 h22 (by rw [(A8 h22 he25)]; exact of_decide_eq_true h35) ev36).2.2 (Aj (o' := 0) rfl (Av (q1 ev6 fv6 h22 (by rw [(A8 h22 he25)]; exact of_decide_eq_true h35) ev36).2.2 (Au (c := .sc (.int .i64 pv36.fType)) s67 Is rfl (Av (q1 ev6 fv6 h22 (by rw [(A8 h22 he25)]; exact of_decide_eq_true h35) ev36).2.2 (Bh (Fe (q1 ev6 fv6 h22 (by rw [(A8 h22 he25)]; exact of_decide_eq_true h35) ev36).2.2 (Av (decide_eq_true (by rw [(q1 ev6 fv6 h22 (by rw [(A8 h22 he25)]; exact of_decide_eq_true h35) ev36).2.1]; rfl)) ?_))))))))))
   refine Av (decide_eq_true (by rw [(q1 ev6 fv6 h22 (by rw [(A8 h22 he25)]; exact of_decide_eq_true h35) ev36).2.1]; rfl)) (Gt (Fe (decide_eq_true (by rw [(q1 ev6 fv6 h22 (by rw [(A8 h22 he25)]; exact of_decide_eq_true h35) ev36).2.1]; rfl)) (Av (nT (q1b ev6 fv6 h22 (by rw [(A8 h22 he25)]; exact of_decide_eq_true h35) ev36 ev52)) (Ah s67 It rfl (Av (nT (q1b ev6 fv6 h22 (by rw [(A8 h22 he25)]; exact of_decide_eq_true h35) ev36 ev52)) (Cc (v := (.bool (Dt v36))) s67 rfl (.agg (.cons .sc (.cons (.own (by decide) Aho) (.cons (.own (by decide) AkB) .nil))) .nil) (Lb (n + 23) (by omega) _ v36 (za1 bv36.wt (by decide))) (Fe (nT (q1b ev6 fv6 h22 (by rw [(A8 h22 he25)]; exact of_decide_eq_true h35) ev36 ev52)) (Av (by rw [(q1 ev6 fv6 h22 (by rw [(A8 h22 he25)]; exact of_decide_eq_true h35) ev36).1]; exact Xn h22) (Aj (o' := 1) rfl (Av (by rw [(q1 ev6 fv6 h22 (by rw [(A8 h22 he25)]; exact of_decide_eq_true h35) ev36).1]; exact Xn h22) (Au (c := x43) s67 It rfl (Av (by rw [(q1 ev6 fv6 h22 (by rw [(A8 h22 he25)]; exact of_decide_eq_true h35) ev36).1]; exact Xn h22) (Hh s67 Aho (Av (by rw [(q1 ev6 fv6 h22 (by rw [(A8 h22 he25)]; exact of_decide_eq_true h35) ev36).1]; exact Xn h22) (Aj (o' := 1) rfl (Av (by rw [(q1 ev6 fv6 h22 (by rw [(A8 h22 he25)]; exact of_decide_eq_true h35) ev36).1]; exact Xn h22) (Au (c := r1x1) s67 Ajs rfl ?_)))))))))))))))))
   exact Av (by rw [(q1 ev6 fv6 h22 (by rw [(A8 h22 he25)]; exact of_decide_eq_true h35) ev36).1]; exact Xn h22) (Hh s67 Ajt (Av (by rw [(q1 ev6 fv6 h22 (by rw [(A8 h22 he25)]; exact of_decide_eq_true h35) ev36).1]; exact Xn h22) (Bh (Fe (by rw [(q1 ev6 fv6 h22 (by rw [(A8 h22 he25)]; exact of_decide_eq_true h35) ev36).1]; exact Xn h22) (Av (decide_eq_true (by rw [(q1 ev6 fv6 h22 (by rw [(A8 h22 he25)]; exact of_decide_eq_true h35) ev36).1]; rfl)) (Aj (o' := 0) rfl (Av (decide_eq_true (by rw [(q1 ev6 fv6 h22 (by rw [(A8 h22 he25)]; exact of_decide_eq_true h35) ev36).1]; rfl)) (Au (c := .sc (.int .i64 v6.fLast)) s67 AkC rfl (Av (decide_eq_true (by rw [(q1 ev6 fv6 h22 (by rw [(A8 h22 he25)]; exact of_decide_eq_true h35) ev36).1]; rfl)) (Aj (o' := 4) rfl (Av (decide_eq_true (by rw [(q1 ev6 fv6 h22 (by rw [(A8 h22 he25)]; exact of_decide_eq_true h35) ev36).1]; rfl)) (Au (c := .sc (.int .i64 pv6.fId)) s67 Ajq rfl (Av (decide_eq_true (by rw [(q1 ev6 fv6 h22 (by rw [(A8 h22 he25)]; exact of_decide_eq_true h35) ev36).1]; rfl)) (Bh (Fe (decide_eq_true (by rw [(q1 ev6 fv6 h22 (by rw [(A8 h22 he25)]; exact of_decide_eq_true h35) ev36).1]; rfl)) (Dd rfl (congrArg (fun b => some (AV.sc (.bool b))) (decide_eq_true (by rw [Ac2 ev6 h22 (by rw [(A8 h22 he25)]; exact of_decide_eq_false h31), Mi fv6 h22 (by rw [(A8 h22 he25)]; exact of_decide_eq_false h31)]; rfl)))))))))))))))))))
   refine Bt h35 (Ah s0 C3 rfl (Aj (o' := 4) rfl (Au (c := si pv6.fId) s0 B9 rfl ?_)))
   obtain ⟨v68, pv68, zv68, ev68, bv68, ⟨lv68a, lv68b, lv68c⟩, tv68⟩ := Abj (n + 20) (by omega) v6 5 pv6.fId bv6
   have gv68 := Hl bv68
   refine Gx s0 rfl (.agg (.cons .sc (.cons (.own (by decide) It) (.cons (.own (by decide) Is) .nil))) (Hw .nil)) (tv68) rfl (Ey ⟨_, rfl, rfl⟩ (H6 _) (Ey ⟨_, rfl, rfl⟩ (Dr _) (Db Fz))) ?_
   rintro _ _ H ⟨_, _, _, _, rfl, rfl, ⟨x75, x76, lx75, lx76, rfl, rfl⟩, ⟨_, _, _, _, rfl, rfl, ⟨x69, x70, x71, x72, x73, x74, lx69, lx70, lx71, lx72, lx73, lx74, rfl, rfl⟩, ⟨_, rfl, ⟨rfl, rfl⟩⟩⟩⟩ s77
   simp only [zae, zao] at s77
   refine C7 (v := .agg [si v68.fLast, x75, x76]) rfl (C7 (v := .agg [si pv68.fType, sb pv68.fDup, si pv68.fQos, sb pv68.fRetain, si pv68.fId, ss pv68.fTopic, x69, ss pv68.fClient, si pv68.fLevel, sb pv68.fClean, si pv68.fKeep, sb pv68.fHasWill, ss pv68.fWTopic, x70, si pv68.fWQos, sb pv68.fWRetain, sb pv68.fHasUser, ss pv68.fUser, sb pv68.fHasPass, x71, si pv68.fCode, sb pv68.fPresent, x72, x73, x74]) rfl (C7 (v := sb zv68) rfl (C8 s77 fun i78 H s79 => C8 s79 fun i80 H s81 => Bo (cs' := [si v68.fLast, x75, x76]) s81 A7 (Ac (Aa rfl (Aa lx75 (Aa lx76 rfl)))) rfl (Bb rfl) rfl fun H s82 => Bo (cs' := [si pv68.fType, sb pv68.fDup, si pv68.fQos, sb pv68.fRetain, si pv68.fId, ss pv68.fTopic, x69, ss pv68.fClient, si pv68.fLevel, sb pv68.fClean, si pv68.fKeep, sb pv68.fHasWill, ss pv68.fWTopic, x70, si pv68.fWQos, sb pv68.fWRetain, sb pv68.fHasUser, ss pv68.fUser, sb pv68.fHasPass, x71, si pv68.fCode, sb pv68.fPresent, x72, x73, x74]) s82 A7 (Ac (Aa rfl (Aa rfl (Aa rfl (Aa rfl (Aa rfl (Aa rfl (Aa lx69 (Aa rfl (Aa rfl (Aa rfl (Aa rfl (Aa rfl (Aa rfl (Aa lx70 (Aa rfl (Aa rfl (Aa rfl (Aa rfl (Aa rfl (Aa lx71 (Aa rfl (Aa rfl (Aa lx72 (Aa lx73 (Aa lx74 rfl)))))))))))))))))))))))))) rfl (Bb rfl) rfl fun H s83 => Ah s83 A7 rfl (Aj (o' := 4) rfl (Au (c := si pv6.fId) s83 Qv rfl ?_)))))
   obtain ⟨v84, pv84, zv84, ev84, bv84, ⟨lv84a, lv84b, lv84c⟩, tv84⟩ := Abj (n + 20) (by omega) v68 5 pv6.fId bv68
   have gv84 := Hl bv84
   refine Gx s83 rfl (.agg (.cons .sc (.cons (.own (by decide) D9) (.cons (.own (by decide) Ua) .nil))) (Hw .nil)) (tv84) rfl (Ey ⟨_, rfl, rfl⟩ (H6 _) (Ey ⟨_, rfl, rfl⟩ (Dr _) (Db Fz))) ?_
   rintro _ _ H ⟨_, _, _, _, rfl, rfl, ⟨x91, x92, lx91, lx92, rfl, rfl⟩, ⟨_, _, _, _, rfl, rfl, ⟨x85, x86, x87, x88, x89, x90, lx85, lx86, lx87, lx88, lx89, lx90, rfl, rfl⟩, ⟨_, rfl, ⟨rfl, rfl⟩⟩⟩⟩ s93
   simp only [zae, zao] at s93
   refine C7 (v := .agg [si v84.fLast, x91, x92]) rfl (C7 (v := .agg [si pv84.fType, sb pv84.fDup, si pv84.fQos, sb pv84.fRetain, si pv84.fId, ss pv84.fTopic, x85, ss pv84.fClient, si pv84.fLevel, sb pv84.fClean, si pv84.fKeep, sb pv84.fHasWill, ss pv84.fWTopic, x86, si pv84.fWQos, sb pv84.fWRetain, sb pv84.fHasUser, ss pv84.fUser, sb pv84.fHasPass, x87, si pv84.fCode, sb pv84.fPresent, x88, x89, x90]) rfl (C7 (v := sb zv84) rfl (C8 s93 fun i94 H s95 => C8 s95 fun i96 H s97 => Bo (cs' := [si v84.fLast, x91, x92]) s97 A7 (Ac (Aa rfl (Aa lx91 (Aa lx92 rfl)))) rfl (Bb rfl) rfl fun H s98 => Bo (cs' := [si pv84.fType, sb pv84.fDup, si pv84.fQos, sb pv84.fRetain, si pv84.fId, ss pv84.fTopic, x85, ss pv84.fClient, si pv84.fLevel, sb pv84.fClean, si pv84.fKeep, sb pv84.fHasWill, ss pv84.fWTopic, x86, si pv84.fWQos, sb pv84.fWRetain, sb pv84.fHasUser, ss pv84.fUser, sb pv84.fHasPass, x87, si pv84.fCode, sb pv84.fPresent, x88, x89, x90]) s98 A7 (Ac (Aa rfl (Aa rfl (Aa rfl (Aa rfl (Aa rfl (Aa rfl (Aa lx85 (Aa rfl (Aa rfl (Aa rfl (Aa rfl (Aa rfl (Aa rfl (Aa lx86 (Aa rfl (Aa rfl (Aa rfl (Aa rfl (Aa rfl (Aa lx87 (Aa rfl (Aa rfl (Aa lx88 (Aa lx89 (Aa lx90 rfl)))))))))))))))))))))))))) rfl (Bb rfl) rfl fun H s99 => Ah s99 A7 rfl (Aj (o' := 4) rfl (Au (c := si pv6.fId) s99 Ajq rfl ?_)))))
   obtain ⟨v100, pv100, zv100, ev100, bv100, ⟨lv100a, lv100b, lv100c⟩, tv100⟩ := Abj (n + 20) (by omega) v84 7 pv6.fId bv84
   have gv100 := Hl bv100
   refine Gx s99 rfl (.agg (.cons .sc (.cons (.own (by decide) D9) (.cons (.own (by decide) Ua) .nil))) (Hw .nil)) (tv100) rfl (Ey ⟨_, rfl, rfl⟩ (H6 _) (Ey ⟨_, rfl, rfl⟩ (Dr _) (Db Fz))) ?_
   rintro _ _ H ⟨_, _, _, _, rfl, rfl, ⟨x107, x108, lx107, lx108, rfl, rfl⟩, ⟨_, _, _, _, rfl, rfl, ⟨x101, x102, x103, x104, x105, x106, lx101, lx102, lx103, lx104, lx105, lx106, rfl, rfl⟩, ⟨_, rfl, ⟨rfl, rfl⟩⟩⟩⟩ s109
   simp only [zae, zao] at s109
   refine C7 (v := .agg [si v100.fLast, x107, x108]) rfl (C7 (v := .agg [si pv100.fType, sb pv100.fDup, si pv100.fQos, sb pv100.fRetain, si pv100.fId, ss pv100.fTopic, x101, ss pv100.fClient, si pv100.fLevel, sb pv100.fClean, si pv100.fKeep, sb pv100.fHasWill, ss pv100.fWTopic, x102, si pv100.fWQos, sb pv100.fWRetain, sb pv100.fHasUser, ss pv100.fUser, sb pv100.fHasPass, x103, si pv100.fCode, sb pv100.fPresent, x104, x105, x106]) rfl (C7 (v := sb zv100) rfl (C8 s109 fun i110 H s111 => C8 s111 fun i112 H s113 => Bo (cs' := [si v100.fLast, x107, x108]) s113 A7 (Ac (Aa rfl (Aa lx107 (Aa lx108 rfl)))) rfl (Bb rfl) rfl fun H s114 => Bo (cs' := [si pv100.fType, sb pv100.fDup, si pv100.fQos, sb pv100.fRetain, si pv100.fId, ss pv100.fTopic, x101, ss pv100.fClient, si pv100.fLevel, sb pv100.fClean, si pv100.fKeep, sb pv100.fHasWill, ss pv100.fWTopic, x102, si pv100.fWQos, sb pv100.fWRetain, sb pv100.fHasUser, ss pv100.fUser, sb pv100.fHasPass, x103, si pv100.fCode, sb pv100.fPresent, x104, x105, x106]) s114 A7 (Ac (Aa rfl (Aa rfl (Aa rfl (Aa rfl (Aa rfl (Aa rfl (Aa lx101 (Aa rfl (Aa rfl (Aa rfl (Aa rfl (Aa rfl (Aa rfl (Aa lx102 (Aa rfl (Aa rfl (Aa rfl (Aa rfl (Aa rfl (Aa lx103 (Aa rfl (Aa rfl (Aa lx104 (Aa lx105 (Aa lx106 rfl)))))))))))))))))))))))))) rfl (Bb rfl) rfl fun H s115 => Ah s115 Ajt rfl (Aj (o' := 4) rfl ?_))))
   refine Au (c := si pv6.fId) s115 Ajs rfl ?_
   obtain ⟨v116, pv116, zv116, ev116, bv116, ⟨lv116a, lv116b, lv116c⟩, tv116⟩ := Abj (n + 20) (by omega) v6 7 pv6.fId bv6
   have gv116 := Hl bv116
   refine Gx s115 rfl (.agg (.cons .sc (.cons (.own (by decide) Alt) (.cons (.own (by decide) Als) .nil))) (Hw .nil)) (tv116) rfl (Ey ⟨_, rfl, rfl⟩ (H6 _) (Ey ⟨_, rfl, rfl⟩ (Dr _) (Db Fz))) ?_
   rintro _ _ H ⟨_, _, _, _, rfl, rfl, ⟨x123, x124, lx123, lx124, rfl, rfl⟩, ⟨_, _, _, _, rfl, rfl, ⟨x117, x118, x119, x120, x121, x122, lx117, lx118, lx119, lx120, lx121, lx122, rfl, rfl⟩, ⟨_, rfl, ⟨rfl, rfl⟩⟩⟩⟩ s125
   simp only [zae, zao] at s125
   refine C7 (v := .agg [.sc (.int .i64 v116.fLast), x123, x124]) rfl (C7 (v := .agg [.sc (.int .i64 pv116.fType), .sc (.bool pv116.fDup), .sc (.int .i64 pv116.fQos), .sc (.bool pv116.fRetain), .sc (.int .i64 pv116.fId), .sc (.string pv116.fTopic), x117, .sc (.string pv116.fClient), .sc (.int .i64 pv116.fLevel), .sc (.bool pv116.fClean), .sc (.int .i64 pv116.fKeep), .sc (.bool pv116.fHasWill), .sc (.string pv116.fWTopic), x118, .sc (.int .i64 pv116.fWQos), .sc (.bool pv116.fWRetain), .sc (.bool pv116.fHasUser), .sc (.string pv116.fUser), .sc (.bool pv116.fHasPass), x119, .sc (.int .i64 pv116.fCode), .sc (.bool pv116.fPresent), x120, x121, x122]) rfl (C7 (v := .sc (.bool zv116)) rfl (C8 s125 fun i126 H s127 => C8 s127 fun i128 H s129 => Bo (cs' := [.sc (.int .i64 v116.fLast), x123, x124]) s129 A7 (Ac (Aa rfl (Aa lx123 (Aa lx124 rfl)))) rfl (Bb rfl) rfl fun H s130 => Bo (cs' := [.sc (.int .i64 pv116.fType), .sc (.bool pv116.fDup), .sc (.int .i64 pv116.fQos), .sc (.bool pv116.fRetain), .sc (.int .i64 pv116.fId), .sc (.string pv116.fTopic), x117, .sc (.string pv116.fClient), .sc (.int .i64 pv116.fLevel), .sc (.bool pv116.fClean), .sc (.int .i64 pv116.fKeep), .sc (.bool pv116.fHasWill), .sc (.string pv116.fWTopic), x118, .sc (.int .i64 pv116.fWQos), .sc (.bool pv116.fWRetain), .sc (.bool pv116.fHasUser), .sc (.string pv116.fUser), .sc (.bool pv116.fHasPass), x119, .sc (.int .i64 pv116.fCode), .sc (.bool pv116.fPresent), x120, x121, x122]) s130 A7 (Ac (Aa rfl (Aa rfl (Aa rfl (Aa rfl (Aa rfl (Aa rfl (Aa lx117 (Aa rfl (Aa rfl (Aa rfl (Aa rfl (Aa rfl (Aa rfl (Aa lx118 (Aa rfl (Aa rfl (Aa rfl (Aa rfl (Aa rfl (Aa lx119 (Aa rfl (Aa rfl (Aa lx120 (Aa lx121 (Aa lx122 rfl)))))))))))))))))))))))))) rfl (Bb rfl) rfl fun H s131 => Av (q2 ev6 fv6 h22 (by rw [(A8 h22 he25)]; exact Cm h22 (of_decide_eq_false h31) (of_decide_eq_false h35) (A8 h22 he25)) ev68).2.2 (Fe (q2 ev6 fv6 h22 (by rw [(A8 h22 he25)]; exact Cm h22 (of_decide_eq_false h31) (of_decide_eq_false h35) (A8 h22 he25)) ev68).2.2 (Av (q2b ev6 fv6 h22 (by rw [(A8 h22 he25)]; exact Cm h22 (of_decide_eq_false h31) (of_decide_eq_false h35) (A8 h22 he25)) ev68 ev84).2.2 ?_)))))
   refine Fe (q2b ev6 fv6 h22 (by rw [(A8 h22 he25)]; exact Cm h22 (of_decide_eq_false h31) (of_decide_eq_false h35) (A8 h22 he25)) ev68 ev84).2.2 (Av (q2c ev6 fv6 h22 (by rw [(A8 h22 he25)]; exact Cm h22 (of_decide_eq_false h31) (of_decide_eq_false h35) (A8 h22 he25)) ev68 ev84 ev100).2.2 (Av (q2c ev6 fv6 h22 (by rw [(A8 h22 he25)]; exact Cm h22 (of_decide_eq_false h31) (of_decide_eq_false h35) (A8 h22 he25)) ev68 ev84 ev100).2.2 (Gt (Fe (q2c ev6 fv6 h22 (by rw [(A8 h22 he25)]; exact Cm h22 (of_decide_eq_false h31) (of_decide_eq_false h35) (A8 h22 he25)) ev68 ev84 ev100).2.2 (Av (nT (q2d ev6 fv6 h22 (by rw [(A8 h22 he25)]; exact Cm h22 (of_decide_eq_false h31) (of_decide_eq_false h35) (A8 h22 he25)) ev116)) (Aj (o' := 0) rfl (Av (nT (q2d ev6 fv6 h22 (by rw [(A8 h22 he25)]; exact Cm h22 (of_decide_eq_false h31) (of_decide_eq_false h35) (A8 h22 he25)) ev116)) (Au (c := .sc (.int .i64 pv68.fType)) s131 Ajr rfl (Av (nT (q2d ev6 fv6 h22 (by rw [(A8 h22 he25)]; exact Cm h22 (of_decide_eq_false h31) (of_decide_eq_false h35) (A8 h22 he25)) ev116)) (Bh (Fe (nT (q2d ev6 fv6 h22 (by rw [(A8 h22 he25)]; exact Cm h22 (of_decide_eq_false h31) (of_decide_eq_false h35) (A8 h22 he25)) ev116)) (Av (decide_eq_true (by rw [(q2 ev6 fv6 h22 (by rw [(A8 h22 he25)]; exact Cm h22 (of_decide_eq_false h31) (of_decide_eq_false h35) (A8 h22 he25)) ev68).2.1, M5 h22]; rfl)) (Ah s131 Ajr rfl (Av (decide_eq_true (by rw [(q2 ev6 fv6 h22 (by rw [(A8 h22 he25)]; exact Cm h22 (of_decide_eq_false h31) (of_decide_eq_false h35) (A8 h22 he25)) ev68).2.1, M5 h22]; rfl)) (Ah s131 Alj rfl ?_)))))))))))))))
   refine Av (decide_eq_true (by rw [(q2 ev6 fv6 h22 (by rw [(A8 h22 he25)]; exact Cm h22 (of_decide_eq_false h31) (of_decide_eq_false h35) (A8 h22 he25)) ev68).2.1, M5 h22]; rfl)) ?_
   refine Cc (v := (.bool (Cn pv68 pv84))) s131 rfl (.agg (Gp (.cons (.own (by decide) Alr) (Gp (.cons (.own (by decide) Alq) (K5 (.cons (.own (by decide) Alp) (Hw (.cons (.own (by decide) Alo) (.cons (.own (by decide) Ajt) (.cons (.own (by decide) Ajs) .nil)))))))))) (.agg (Gp (.cons (.own (by decide) Aln) (Gp (.cons (.own (by decide) Alm) (K5 (.cons (.own (by decide) All) (Hw (.cons (.own (by decide) Alk) (.cons (.own (by decide) AkC) (.cons (.own (by decide) Ajq) .nil)))))))))) .nil)) (Fb (n + 31) (by omega) _ pv68 pv84 (by omega) (by omega) (by omega)) ?_
   refine Fe (decide_eq_true (by rw [(q2 ev6 fv6 h22 (by rw [(A8 h22 he25)]; exact Cm h22 (of_decide_eq_false h31) (of_decide_eq_false h35) (A8 h22 he25)) ev68).2.1, M5 h22]; rfl)) (Av (by rw [(q2 ev6 fv6 h22 (by rw [(A8 h22 he25)]; exact Cm h22 (of_decide_eq_false h31) (of_decide_eq_false h35) (A8 h22 he25)) ev68).2.1, (q2b ev6 fv6 h22 (by rw [(A8 h22 he25)]; exact Cm h22 (of_decide_eq_false h31) (of_decide_eq_false h35) (A8 h22 he25)) ev68 ev84).2.1]; exact Nl _) (Aj (o' := 4) rfl (Av (by rw [(q2 ev6 fv6 h22 (by rw [(A8 h22 he25)]; exact Cm h22 (of_decide_eq_false h31) (of_decide_eq_false h35) (A8 h22 he25)) ev68).2.1, (q2b ev6 fv6 h22 (by rw [(A8 h22 he25)]; exact Cm h22 (of_decide_eq_false h31) (of_decide_eq_false h35) (A8 h22 he25)) ev68 ev84).2.1]; exact Nl _) (Au (c := .sc (.int .i64 pv68.fId)) s131 Ajr rfl (Av (by rw [(q2 ev6 fv6 h22 (by rw [(A8 h22 he25)]; exact Cm h22 (of_decide_eq_false h31) (of_decide_eq_false h35) (A8 h22 he25)) ev68).2.1, (q2b ev6 fv6 h22 (by rw [(A8 h22 he25)]; exact Cm h22 (of_decide_eq_false h31) (of_decide_eq_false h35) (A8 h22 he25)) ev68 ev84).2.1]; exact Nl _) (Aj (o' := 4) rfl (Av (by rw [(q2 ev6 fv6 h22 (by rw [(A8 h22 he25)]; exact Cm h22 (of_decide_eq_false h31) (of_decide_eq_false h35) (A8 h22 he25)) ev68).2.1, (q2b ev6 fv6 h22 (by rw [(A8 h22 he25)]; exact Cm h22 (of_decide_eq_false h31) (of_decide_eq_false h35) (A8 h22 he25)) ev68 ev84).2.1]; exact Nl _) (Au (c := .sc (.int .i64 pv6.fId)) s131 Alu rfl ?_))))))))
   refine Av (by rw [(q2 ev6 fv6 h22 (by rw [(A8 h22 he25)]; exact Cm h22 (of_decide_eq_false h31) (of_decide_eq_false h35) (A8 h22 he25)) ev68).2.1, (q2b ev6 fv6 h22 (by rw [(A8 h22 he25)]; exact Cm h22 (of_decide_eq_false h31) (of_decide_eq_false h35) (A8 h22 he25)) ev68 ev84).2.1]; exact Nl _) (Bh (Fe (by rw [(q2 ev6 fv6 h22 (by rw [(A8 h22 he25)]; exact Cm h22 (of_decide_eq_false h31) (of_decide_eq_false h35) (A8 h22 he25)) ev68).2.1, (q2b ev6 fv6 h22 (by rw [(A8 h22 he25)]; exact Cm h22 (of_decide_eq_false h31) (of_decide_eq_false h35) (A8 h22 he25)) ev68 ev84).2.1]; exact Nl _) (Av (decide_eq_true (by rw [(q2 ev6 fv6 h22 (by rw [(A8 h22 he25)]; exact Cm h22 (of_decide_eq_false h31) (of_decide_eq_false h35) (A8 h22 he25)) ev68).2.1, M5 h22, Mi fv6 h22 (by rw [(A8 h22 he25)]; exact of_decide_eq_false h31)]; rfl)) (Aj (o' := 0) rfl (Av (decide_eq_true (by rw [(q2 ev6 fv6 h22 (by rw [(A8 h22 he25)]; exact Cm h22 (of_decide_eq_false h31) (of_decide_eq_false h35) (A8 h22 he25)) ev68).2.1, M5 h22, Mi fv6 h22 (by rw [(A8 h22 he25)]; exact of_decide_eq_false h31)]; rfl)) (Au (c := .sc (.int .i64 pv100.fType)) s131 Is rfl (Av (decide_eq_true (by rw [(q2 ev6 fv6 h22 (by rw [(A8 h22 he25)]; exact Cm h22 (of_decide_eq_false h31) (of_decide_eq_false h35) (A8 h22 he25)) ev68).2.1, M5 h22, Mi fv6 h22 (by rw [(A8 h22 he25)]; exact of_decide_eq_false h31)]; rfl)) (Bh (Fe (decide_eq_true (by rw [(q2 ev6 fv6 h22 (by rw [(A8 h22 he25)]; exact Cm h22 (of_decide_eq_false h31) (of_decide_eq_false h35) (A8 h22 he25)) ev68).2.1, M5 h22, Mi fv6 h22 (by rw [(A8 h22 he25)]; exact of_decide_eq_false h31)]; rfl)) (Av (decide_eq_true (by rw [(q2c ev6 fv6 h22 (by rw [(A8 h22 he25)]; exact Cm h22 (of_decide_eq_false h31) (of_decide_eq_false h35) (A8 h22 he25)) ev68 ev84 ev100).2.1]; rfl)) (Ah s131 It rfl (Av (decide_eq_true (by rw [(q2c ev6 fv6 h22 (by rw [(A8 h22 he25)]; exact Cm h22 (of_decide_eq_false h31) (of_decide_eq_false h35) (A8 h22 he25)) ev68 ev84 ev100).2.1]; rfl)) ?_))))))))))))
   refine Cc (v := (.bool (Dt v100))) s131 rfl (.agg (.cons .sc (.cons (.own (by decide) Aho) (.cons (.own (by decide) AkB) .nil))) .nil) (Lb (n + 23) (by omega) _ v100 (za1 bv100.wt (by decide))) (Fe (decide_eq_true (by rw [(q2c ev6 fv6 h22 (by rw [(A8 h22 he25)]; exact Cm h22 (of_decide_eq_false h31) (of_decide_eq_false h35) (A8 h22 he25)) ev68 ev84 ev100).2.1]; rfl)) (Av (by rw [(q2c ev6 fv6 h22 (by rw [(A8 h22 he25)]; exact Cm h22 (of_decide_eq_false h31) (of_decide_eq_false h35) (A8 h22 he25)) ev68 ev84 ev100).1]; exact Xn h22) (Aj (o' := 1) rfl (Av (by rw [(q2c ev6 fv6 h22 (by rw [(A8 h22 he25)]; exact Cm h22 (of_decide_eq_false h31) (of_decide_eq_false h35) (A8 h22 he25)) ev68 ev84 ev100).1]; exact Xn h22) (Au (c := x107) s131 It rfl (Av (by rw [(q2c ev6 fv6 h22 (by rw [(A8 h22 he25)]; exact Cm h22 (of_decide_eq_false h31) (of_decide_eq_false h35) (A8 h22 he25)) ev68 ev84 ev100).1]; exact Xn h22) (Hh s131 Aho (Av (by rw [(q2c ev6 fv6 h22 (by rw [(A8 h22 he25)]; exact Cm h22 (of_decide_eq_false h31) (of_decide_eq_false h35) (A8 h22 he25)) ev68 ev84 ev100).1]; exact Xn h22) (Aj (o' := 1) rfl (Av (by rw [(q2c ev6 fv6 h22 (by rw [(A8 h22 he25)]; exact Cm h22 (of_decide_eq_false h31) (of_decide_eq_false h35) (A8 h22 he25)) ev68 ev84 ev100).1]; exact Xn h22) ?_))))))))))
   exact Au (c := r1x1) s131 Alv rfl (Av (by rw [(q2c ev6 fv6 h22 (by rw [(A8 h22 he25)]; exact Cm h22 (of_decide_eq_false h31) (of_decide_eq_false h35) (A8 h22 he25)) ev68 ev84 ev100).1]; exact Xn h22) (Hh s131 Alw (Av (by rw [(q2c ev6 fv6 h22 (by rw [(A8 h22 he25)]; exact Cm h22 (of_decide_eq_false h31) (of_decide_eq_false h35) (A8 h22 he25)) ev68 ev84 ev100).1]; exact Xn h22) (Bh (Fe (by rw [(q2c ev6 fv6 h22 (by rw [(A8 h22 he25)]; exact Cm h22 (of_decide_eq_false h31) (of_decide_eq_false h35) (A8 h22 he25)) ev68 ev84 ev100).1]; exact Xn h22) (Dd rfl (congrArg (fun b => some (AV.sc (.bool b))) (decide_eq_true (by rw [(q2c ev6 fv6 h22 (by rw [(A8 h22 he25)]; exact Cm h22 (of_decide_eq_false h31) (of_decide_eq_false h35) (A8 h22 he25)) ev68 ev84 ev100).1]; rfl)))))))))
  | succ j ih =>
   intro m0 z  i h H hm hz   s0
   obtain ⟨m, rfl⟩ : ∃ m, m0 = m + 1 := ⟨m0 - 1, by omega⟩
   rw [Si]
   try simp only [Qx, Qw]
   refine Aj (o' := 1) rfl (Au (c := r1x1) s0 Qv rfl (Hh s0 Px (Mw (Co (decide_eq_true (by omega)) (Aj (o' := 1) rfl (Au (c := r1x1) s0 Qv rfl ?_))))))
   have s132 := s0.toShs Px
   obtain ⟨y133, he134⟩ : ∃ y, (r1.fFl)[(z).toNat]? = some y := ⟨_, zan (by first | omega | (simp at *; omega))⟩
   refine Sq (y := y133) s132 ⟨_, _, rfl, rfl, rfl, rfl⟩ (.here) (by omega) he134 Ba Ee rfl fun de134 oe134 raw hl hlf re134 hsc se134 => ?_
   obtain ⟨e134r2, le134r2, rfl⟩ := Ju hl hlf hsc
   clear hl hlf hsc
   refine Aj (o' := oe134 + 0) (by omega) (AiO (k := 0) re134 (by omega) rfl (Aj (o' := 4) rfl (Au (c := .sc (.int .i64 pv6.fId)) se134 C3 rfl (Bh (Bt (decide_eq_false (by rw [Mi fv6 h22 (by rw [(A8 h22 he25)]; exact of_decide_eq_false h31)]; exact (nid h22).2 _ (List.mem_of_getElem? he134))) (Hx (by omega) (by omega) ?_))))))
   have s135 := se134.ofShs (.here)
   exact ih m _  0 0 _ (by omega) (by omega)   (s135.sel (.cons A7 (.cons A7 (.cons A7 (.cons A7 (.cons A7 (.cons A7 (.cons A7 (.cons A7 (.cons A7 (.cons A7 (.cons A7 (.cons A7 (.cons A7 (.cons (.here) .nil)))))))))))))))
 exact lp34 (max (((r1.fFl.length : Nat) : Int)) 0 - 0).toNat _ _  0 0 _ (by omega) (by omega)   (s33.sel (.cons (.here) (.cons (.here) (.cons (.here) (.cons (.here) (.cons (.here) (.cons (.here) (.cons (.here) (.cons (.here) (.cons (.here) (.cons (.here) (.cons (.here) (.cons (.here) (.cons (.here) (.cons (.here) .nil)))))))))))))))
 exact Co (nT h22) (Aj (o' := 2) rfl (Au (c := x14) s21 A7 rfl (Hh s21 Ua (Aj (o' := 2) rfl (Au (c := r1x2) s21 Is rfl (Hh s21 Qv (Bh (Av (decide_eq_true (by rw [(Lh ev6 fv6 h22).1])) (Aj (o' := 1) rfl (Av (decide_eq_true (by rw [(Lh ev6 fv6 h22).1])) (Au (c := x13) s21 A7 rfl (Av (decide_eq_true (by rw [(Lh ev6 fv6 h22).1])) (Hh s21 D9 (Av (decide_eq_true (by rw [(Lh ev6 fv6 h22).1])) (Aj (o' := 1) rfl (Av (decide_eq_true (by rw [(Lh ev6 fv6 h22).1])) (Au (c := r1x1) s21 Is rfl (Av (decide_eq_true (by rw [(Lh ev6 fv6 h22).1])) (Hh s21 It (Av (decide_eq_true (by rw [(Lh ev6 fv6 h22).1])) (Bh (Fe (decide_eq_true (by rw [(Lh ev6 fv6 h22).1])) (Av (decide_eq_true (by rw [(Lh ev6 fv6 h22).1])) (Aj (o' := 0) rfl (Av (decide_eq_true (by rw [(Lh ev6 fv6 h22).1])) (Au (c := .sc (.int .i64 pv6.fType)) s21 (.here) rfl (Av (decide_eq_true (by rw [(Lh ev6 fv6 h22).1])) (Bh (Fe (decide_eq_true (by rw [(Lh ev6 fv6 h22).1])) (Dd rfl (congrArg (fun b => some (AV.sc (.bool b))) (decide_eq_true (by rw [(Lh ev6 fv6 h22).2]; rfl)))))))))))))))))))))))))))))))))
 exact Co (decide_eq_true (by omega)) (Dd rfl rfl)
end
end Go.Proofs.YtdofipeaomgbbaaGreatDoor.Abs
namespace Go.Proofs.YtdofipeaomgbbaaGreatDoor.Abs
open _root_.Option renaming bind_some → zab, getD_some → zaA, map_eq_some_iff → zaW
open _root_.List renaming getElem?_eq_some_iff → zac, replicate → zad, nil_append → zae, getElem?_append_right → zaf, length_append → zag, getElem?_append_left → zai, append_assoc → zak, append_nil → zam, getElem?_eq_getElem → zan, cons_append → zao, length_singleton → zap, mem_append_right → zar, mem_append_left → zas, length_cons → zat, length_nil → zau, mem_cons_of_mem → zav, map_cons → zax, flatten_append → zay, take_length → zaz, getElem?_set_ne → za0, mem_cons → za2, drop_zero → za4, forall_mem_append → za5, map_append → za6, all_eq_true → za7, mem_cons_self → za9, length_take → zaB, length_drop → zaC, replicate_append_replicate → zaE, nodup_cons → zaF, flatten_cons → zaH, mem_range'_1 → zaJ, not_mem_nil → zaK, mem_append → zaL, nodup_append → zaO, getElem?_set_self → zaR, nodup_range' → zaS, take_append_drop → zaU, drop_drop → zba, range' → zbg, any_cons → zbh, length_set → zbi, all_cons → zbk, take_of_length_le → zbn, set_eq_take_append_cons_drop → zbw, map_nil → zbx, headD_cons → zb3, length_map → zb4, mem_map → zb5, Perm → zb6, tail_cons → zb8, drop_take → zbJ, take_take → zbK, replicate_succ → zbN, mem_singleton → zbP, drop_left' → zbQ
open _root_.Bool renaming and_eq_true → zah, false_eq_true → zaj, or_eq_true → zb0, true_and → zbE, or_eq_false_iff → zbG
open _root_.Nat renaming le_refl → zal, zero_add → zaw, le_trans → za1, zero_le → za3, mul_le_mul_right → za8, add_le_add_right → zaD, add_le_add_left → zaG, min_eq_left → zaM, sub_self → zaN, add_mul → zaP, add_zero → zbf, one_mul → zbt
open _root_.Int renaming toNat_natCast → zbo
open Go
set_option linter.unusedVariables false
set_option linter.unusedSimpArgs false
end Go.Proofs.YtdofipeaomgbbaaGreatDoor.Abs
namespace Go.Proofs.YtdofipeaomgbbaaGreatDoor.fnOuts
open _root_.Option renaming map_eq_some_iff → zaW
open Go Go.Shelf Go.Lib Go.ChangeShapes Go.WideShapes Go.ChangeAt Go.RowKit
open Go.Proofs.YtdofipeaomgbbaaGreatDoor.Abs
set_option linter.unusedVariables false
theorem own : ownKnob Tryz.prog.godebug = none := by kernel_rfl
theorem AgI : laidOutB Tryz.prog = true := by kernel_rfl
theorem types : ([22].all (tyB Ap 14)) = true := by kernel_rfl
theorem Afp : ([22].all fun t => Tryz.prog.readableRec t && decide (t < Tryz.prog.types.size)) = true := by kernel_rfl
theorem Ak5 {xs : List AV} (h : AiY Ap 14 [22] xs) : ∃ n, Ct E0 n 4 6 xs = some (.sc (.bool true)) := by
 obtain ⟨y0, ys0, rfl, ⟨cs0, h0, rfl⟩, h⟩ := h
 obtain rfl := h
 obtain ⟨x0, rfl, k0⟩ := Z5 ⟨_, rfl, rfl, rfl, rfl, rfl, rfl⟩ h0
 exact ⟨_, Zv 1048577 (by omega) x0 k0⟩
def wArgs : Array Value := #[.slice none 0 0]
noncomputable def Ng (os : Os) : World :=
 let w0 := World.holding Tryz.prog os ⟨#[], #[], []⟩
 let put (h : Array Obj) (g : Nat) (cs : Array Value) : Array Obj := h.modify g fun
  | .cells _ t frozen => .cells cs t frozen
  | o => o
 let h1 := put w0.heap 0 (Lib.firstTab.map fun z => Value.int .u8 z).toArray
 let h2 := put h1 1 ((List.range 16).flatMap fun i => [Value.int .u8 (Lib.accLo i), Value.int .u8 (Lib.accHi i)]).toArray
 { w0 with heap := h2 }
theorem Afa (os : Os) (args : Array Value) : laidMet Tryz.prog Rows.fnOutsRow.laid ((Ng os).forCall (fun _ _ => 0) ⟨#[], args, []⟩).memory :=
 (LaidIn.of_run (l := Rows.fnOutsRow.laid) [0, 1] 8 (by kernel_rfl) (by kernel_rfl) (by kernel_rfl) (by kernel_rfl)).met
set_option maxRecDepth 100000 in
theorem Yg (os : Os) {H : Type} (enc : TypeId × Value → H) :
  (OpenSpec.ofChange Rows.fnOutsSpec).preRow enc Tryz.prog Tryz.f6 Rows.fnOutsRow.domain false Rows.fnOutsRow.laid ((Ng os).forCall (fun _ _ => 0) ⟨#[], wArgs, []⟩).memory wArgs := by
 have hw : ((DataW.whole enc Tryz.prog ((Ng os).forCall (fun _ _ => 0) ⟨#[], wArgs, []⟩).memory Tryz.f6.params.toList (OpenSpec.ofChange Rows.fnOutsSpec).vars false wArgs.toList 8).map (fun x => x.2.1)) = some [] := by kernel_rfl
 obtain ⟨⟨x1, x2, x3⟩, hx, hx1⟩ := zaW.1 hw
 simp only at hx1
 subst hx1
 exact OpenSpec.preRow_of_cond 8 hx rfl (fun k hk => by cases hk) rfl (Afa os _)
set_option maxRecDepth 100000 in
set_option maxHeartbeats 2000000 in
theorem lifted (os : Os) (started : os.Started) (H : Type) (enc : TypeId × Value → H) (F : Stop.Interp) :
  ReturnsInHanded {} Tryz.checked os 6 .any ((OpenSpec.ofChange Rows.fnOutsSpec).preRow enc Tryz.prog Tryz.f6 Rows.fnOutsRow.domain false Rows.fnOutsRow.laid) (((OpenSpec.ofChange Rows.fnOutsSpec).at F).post enc Tryz.prog Tryz.f6 false true false false) := by
 refine returnsInHanded_of_row (C := Tryz.checked) (s := OpenSpec.ofChange Rows.fnOutsSpec) own started (by kernel_rfl) Tryz.func6
  (witness_row_atRef (enc := enc) (C := Tryz.checked) false (Ng os) wArgs rfl (by kernel_rfl) (by kernel_rfl) (by kernel_rfl) (Yg os enc)) ?_
 intro W base args ds gs before hval0 hW _ _ _ hL hS _
 have hval : ∀ (j : Nat) t v, Tryz.f6.params[j]? = some t → args[j]? = some v → Value.okWide Tryz.prog W .any base t v := hval0
 have hW' := hW
 obtain ⟨p, q, hA0, hV, rfl, hfz, hnd⟩ := hW
 have hA : DataW.TrodAll enc Tryz.prog W 0 (fun _ => true) true Tryz.f6.params.toList args.toList ds p := hA0
 rw [Tryz.params6] at hA hval
 obtain ⟨xs, hok, hl, hx⟩ := R4 Aaj (n := 14) [22] args.toList ds p hA (fun j t v ht hv => hval j t v (by simpa using ht) (by simpa using hv)) types
 obtain ⟨m, hm⟩ := Ak5 hok
 have htab0 := utf8Tabs_of_readsT (U8Types.of196 Tryz.laysValid) ⟨by kernel_rfl, by kernel_rfl, by kernel_rfl, by kernel_rfl, by kernel_rfl, by kernel_rfl, by kernel_rfl⟩ (Pinned.utf8First_eq ▸ Lib.laidMet.reads hL (.tail _ (.head _))) (Lib.laidMet.reads hL (.head _))
 have htab : J0 W := ⟨htab0, cell_of_shapedOpen_int (zero := #[.int .i64 0]) hS (of_decide_eq_true (by kernel_rfl)) (by kernel_rfl) rfl (by kernel_rfl) (by kernel_rfl) Tryz.underlying3⟩
 have hc := AcH AkT hm (w := W) htab hl hx
 have hA1 := hA
 obtain ⟨v0, vs0, d0, ds0, p0, q0, hargs, rfl, rfl, g0, r0⟩ := trodAll_cons hA
 obtain ⟨rfl, rfl, rfl⟩ := trodAll_nil r0
 obtain ⟨rfl, rfl⟩ := trodVars_none hV
 have hc2 : Calls Tryz.prog 6 args W fun e W' => e = .returned (.bool true) ∧ Below W.heap.size W W' := by simpa using hc
 refine hc2.mono fun e W' ⟨he, bel⟩ => ?_
 subst he
 exact ⟨_, rfl, _, _, _, [], _, [], hW', trodAll_mk1 (shut_bool Tryz.underlying4 _), N1 AgI bel Afp hA1, rfl, bel.frame _, fun h => by cases h⟩
end Go.Proofs.YtdofipeaomgbbaaGreatDoor.fnOuts
