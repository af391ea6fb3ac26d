/- What the proof needs, part 5: a sound evaluator over trees, the program's functions on it, and what they come to. -/
import Derived.Test.YtdofipeaomgbbaaGreatDoorMpd
import Derived.Test.YtdofipeaomgbbaaGreatDoorRows
import Derived.Test.YtdofipeaomgbbaaGreatDoorTie
import Derived.Test.YtdofipeaomgbbaaGreatDoorCards
import Derived.Lib.LaidIn
import Derived.Lib.LaidU8T
import Derived.PinnedBridge
import Derived.SevenTiedAt
import Derived.Deep.DeepHandedRow
import Derived.Deep.DeepWitnessRowRef
import Derived.WalkKit
import Derived.ProofKit
import Derived.OpenShut
import Derived.ShutString
import Derived.ChangeOld
import Derived.Below
import Derived.SizedLaws
set_option linter.unusedVariables false
set_option linter.unusedSimpArgs false
set_option maxRecDepth 100000
set_option maxHeartbeats 32000000
namespace Go.Proofs.YtdofipeaomgbbaaGreatDoor.Abs
open _root_.Option renaming bind_some → zab, getD_some → za5, map_eq_some_iff → zaN
open _root_.List renaming replicate → zad, length_append → zae, getElem?_append_right → zaf, nil_append → zah, length_singleton → zal, append_nil → zam, length_cons → zao, mem_append_right → zaq, length_nil → zar, getElem?_eq_getElem → zas, mem_append_left → zat, cons_append → zau, mem_cons → zav, mem_cons_of_mem → zax, not_mem_nil → zay, forall_mem_append → zaz, drop_zero → za6, mem_cons_self → za7, mem_append → za9, all_eq_true → zaE, nodup_append → zaJ, mem_range'_1 → zaK, nodup_range' → zaP, all_cons → zaT, range' → zaW, take_of_length_le → zbi, mem_singleton → zbm, length_map → zbz, map_map → zbH
open _root_.Nat renaming le_refl → zai, zero_add → zaw, le_trans → za2, add_le_add_right → za8, add_le_add_left → zaC, sub_self → zaI, zero_le → zbu
open _root_.Bool renaming and_eq_true → zak, eq_iff_iff → zaM
open _root_.Int renaming toNat_natCast → zbf
section
open Go
theorem Fd {α : Type} (w : α → Nat) : ∀ (a b : List α), Fp w (a ++ b) = Fp w a + Fp w b
 | [], b => by
  show _ = 0 + _
  rw [zaw]
  rfl
 | x :: a, b => by
  show 1 + w x + Fp w (a ++ b) = 1 + w x + Fp w a + Fp w b
  rw [Fd w a b]
  omega
theorem Jf {α : Type} (w : α → Nat) : ∀ (l : List α) (i : Nat) (y y' : α), l[i]? = some y → Fp w (l.set i y') + w y = Fp w l + w y'
 | [], i, y, y', h => by simp at h
 | x :: l, 0, y, y', h => by
  have : x = y := by simpa using h
  subst this
  show 1 + w y' + Fp w l + w x = 1 + w x + Fp w l + w y'
  omega
 | x :: l, i + 1, y, y', h => by
  have := Jf w l i y y' (by simpa using h)
  show 1 + w x + Fp w (l.set i y') + w y = 1 + w x + Fp w l + w y'
  omega
theorem J7 {α : Type} {p : α → Prop} {l : List α} {i : Nat} {y' : α} (h : ∀ z ∈ l, p z) (hy : p y') : ∀ z ∈ l.set i y', p z := fun z hz => by
 rcases List.mem_or_eq_of_mem_set hz with h1 | rfl
 exact h z h1
 exact hy
theorem Ml {α : Type} {p : α → Prop} {l : List α} {i : Nat} {y : α} (h : ∀ z ∈ l, p z) (hy : l[i]? = some y) : p y := h y (List.mem_of_getElem? hy)
def OutB (b : Nat) (o : Bs) : Prop := (Do o.fLast ∧ (∀ z ∈ o.fFl, B3 z) ∧ ∀ z ∈ o.fQ, Ce z) ∧ Fp Au o.fFl + Fp Bc o.fQ ≤ b
theorem OutB.ok {b : Nat} {o : Bs} (h : OutB b o) (hb : b ≤ 1048576) : Qi o := by
 have h1 := I7 Au o.fFl
 have h2 := I7 Bc o.fQ
 have h3 := h.2
 exact ⟨h.1.1, ⟨by omega, h.1.2.1⟩, ⟨by omega, h.1.2.2⟩⟩
theorem OutB.wt {b : Nat} {o : Bs} (h : OutB b o) : D6 o ≤ b := by
 have h3 := h.2
 unfold D6
 omega
theorem OutB.of {b : Nat} {o : Bs} (h : Qi o) (hw : D6 o ≤ b) : OutB b o := by
 unfold D6 at hw
 exact ⟨⟨h.1, h.2.1.2, h.2.2.2⟩, by omega⟩
theorem W3 : ∀ (k : Nat) (u : List Int) (x : Int), Do x → Do (Km u k x).1
 | 0, u, x, h => by
  unfold Km
  first | exact h | (constructor <;> decide) | (constructor <;> simp)
 | k + 1, u, x, h => by
  rw [Km]
  have h2 : Do (nx x) := by
   unfold nx Do
   omega
  split
  exact W3 k u (nx x) h2
  exact h2
theorem Jq {b : Nat} {o : Bs} (h : OutB b o) : OutB b (Ae o) := by
 obtain ⟨⟨h1, h2, h3⟩, h4⟩ := h
 have ht : ∀ (q : List Br), Fp Bc q.tail ≤ Fp Bc q := by
  intro q
  cases q with
  | nil => exact zai _
  | cons m l => show Fp Bc l ≤ 1 + Bc m + Fp Bc l; omega
 have hq := ht o.fQ
 have h3' : ∀ z ∈ o.fQ.tail, Ce z := fun z hz => h3 z (List.mem_of_mem_tail hz)
 unfold Ae
 split
 rename_i hr
 split
 exact ⟨⟨h1, h2, h3'⟩, by show Fp Au o.fFl + Fp Bc o.fQ.tail ≤ b; omega⟩
 ·cases hc : o.fQ with
  | nil => simp [Ih, hc] at hr
  | cons m l =>
   rw [hc] at h3 h4
   have hm := h3 m (za7 ..)
   have hi : Do (Fw o) := by
    unfold Fw Cm
    split
    exact W3 _ _ _ h1
    constructor <;> decide
   have hf : B3 (⟨Fw o, m, m.fQos⟩ : Ah) := ⟨hi, hm, hm.2.2.1⟩
   refine ⟨⟨hi, ?_, fun z hz => h3 z (zax _ hz)⟩, ?_⟩
   exact Jl h2 hf
   show Fp Au (o.fFl ++ [(⟨Fw o, m, m.fQos⟩ : Ah)]) + Fp Bc l ≤ b
   rw [Hb]
   have e : Au (⟨Fw o, m, m.fQos⟩ : Ah) = Bc m + 0 := rfl
   have e2 : Fp Bc (m :: l) = 1 + Bc m + Fp Bc l := rfl
   omega
 exact ⟨⟨h1, h2, h3⟩, h4⟩
theorem Z8 {b : Nat} {kd d : Int} {o : Bs} (h : OutB b o) : ∀ (t pre : List Ah), o.fFl = pre ++ t → OutB b (Dx kd d o pre t).1
 | [], pre, he => h
 | f :: t, pre, he => by
  have ih := Z8 (kd := kd) (d := d) h t (pre ++ [f]) (by rw [he]; simp)
  obtain ⟨⟨h1, h2, h3⟩, h4⟩ := h
  rw [he] at h2 h4
  have e1 : Fp Au (pre ++ f :: t) = Fp Au pre + (1 + Au f + Fp Au t) := Fd _ _ _
  rw [Dx]
  split
  split
  refine ⟨⟨h1, fun z hz => h2 z ?_, h3⟩, ?_⟩
  rcases za9.1 hz with hz | hz
  exact zat _ hz
  exact zaq _ (zax _ hz)
  show Fp Au (pre ++ t) + Fp Bc o.fQ ≤ b
  rw [Fd]
  omega
  split
  have hf := h2 f (by simp)
  refine ⟨⟨h1, fun z hz => ?_, h3⟩, ?_⟩
  rcases za9.1 hz with hz | hz
  exact h2 z (zat _ hz)
  rcases zav.1 hz with rfl | hz
  exact ⟨hf.1, hf.2.1, (by decide : (-9223372036854775808 : Int) ≤ 3 ∧ (3 : Int) ≤ 9223372036854775807)⟩
  exact h2 z (zaq _ (zax _ hz))
  show Fp Au (pre ++ { f with fSt := 3 } :: t) + Fp Bc o.fQ ≤ b
  have e2 : Fp Au (pre ++ { f with fSt := 3 } :: t) = Fp Au pre + (1 + Au f + Fp Au t) := Fd _ _ _
  omega
  exact ih
  exact ih
theorem Z9 {b : Nat} {kd d : Int} {o : Bs} (h : OutB b o) : OutB b (F7 o kd d).1 := by
 unfold F7
 split
 exact Z8 h _ [] rfl
 exact h
theorem Vt {b : Nat} {o : Bs} {m : Br} (h : OutB b o) (hm : Ce m) : OutB (b + 1 + Bc m) (A1 o m) := by
 obtain ⟨⟨h1, h2, h3⟩, h4⟩ := h
 unfold A1
 split
 unfold Gf
 split
 refine ⟨⟨h1, h2, Jl h3 hm⟩, ?_⟩
 show Fp Au o.fFl + Fp Bc (o.fQ ++ [m]) ≤ _
 rw [Hb]
 omega
 exact ⟨⟨h1, h2, h3⟩, by show Fp Au o.fFl + Fp Bc o.fQ ≤ _; omega⟩
 exact ⟨⟨h1, h2, h3⟩, by omega⟩
theorem Mn {b : Nat} {o : Bs} (h : OutB b o) : o.fFl.length ≤ b ∧ o.fQ.length ≤ b := by
 have h1 := I7 Au o.fFl
 have h2 := I7 Bc o.fQ
 have h3 := h.2
 omega
theorem Aa6 {b : Nat} {o : Bs} (h : OutB b o) : o.fFl.length ≤ b := (Mn h).1
theorem Ez {b : Nat} {l : Int} {f : List Ah} {q : List Br} (h1 : Do l) (h2 : ∀ z ∈ f, B3 z) (h3 : ∀ z ∈ q, Ce z) (h4 : Fp Au f + Fp Bc q ≤ b) : OutB b ⟨l, f, q⟩ := ⟨⟨h1, h2, h3⟩, h4⟩
theorem OutB.mono {a b : Nat} {o : Bs} (h : OutB a o) (hab : a ≤ b) : OutB b o := ⟨h.1, za2 h.2 hab⟩
theorem R8 (n : Nat) (hn : 1048576 < n) (code : ByteArray) (hcode : code.size ≤ 1048576) (c i : Nat) (h : Int)   {β : Type} {r : Option β} {KH : KO β} {H : Aa} {L : List Ck} (s0 : Sep H (Cr c code i h :: L)) (hk : ∀ (r0 : Bs) (r0x1 : AV) (r0x2 : AV) (i' : Nat) (h' : Int) (H' : Aa), (Al r0x1 = true) → (Al r0x2 = true) → (OutB 110 r0) → Sep H' (.own r0x1 24 (Aj Aq r0.fFl) :: .own r0x2 25 (Aj Ag r0.fQ) :: Cr c code i' h' :: L) → Gd (· = r) (KH (.agg [.sc (.int .i64 r0.fLast), r0x1, r0x2]) H')) : Gd (· = r) (Dm E0 (n + 16) β 86 [.ptr c 0] H fun x H => KH x H) := by
 rw [Aiu, f86]
 try simp only [Cf, Ba, Bk, A9, Be]
 refine Dz s0 fun i1 H s2 => Bp (cs := [i0, i0, si 3, si 65534, si 65535]) rfl (Bw s2 fun i3 H s4 => Ds hcode (by omega) (by omega) rfl s4 Co (.here) fun z5a iq6 hq6 H mz5 sq6 => ?_)
 have s7 := (sq6.pick A8).tail
 obtain ⟨z5, rfl, hz5⟩ := Ax (l := [0, 0, 3, 65534, 65535]) (lo := 0) (hi := 65535) mz5 (by decide)
 refine Bp (cs := [si z5, .nl, .nl]) rfl (Dz s7 fun i8 H s9 => Bt (cs' := [si z5, .nl, .nl]) s9 (.here) (Ac rfl) rfl (Bd rfl) rfl fun H s10 => Gv rfl rfl (Ud _ (by omega) code hcode c iq6 hq6 6 (by omega) (s10.pick A8) fun r11 r11x iq12 hq12 H lr11x hr11 sq12 => ?_))
 obtain ⟨or11, wr11⟩ := hr11
 have gr11 := I7 Bc r11
 refine Am (o' := 2) rfl (C6 sq12 Co lr11x rfl fun H s13 => Fx (m := 6) hcode (by omega) s13 Co fun z14 iq15 hq15 H hz14 sq15 => ?_)
 replace hz14 : 0 ≤ z14 ∧ z14 < 6 := by omega
 have lp16 : ∀ (j m : Nat) (z : Int) (m2 : Bs) (m2x1 : AV) (m2x2 : AV) (i : Nat) (h : Int) (H : Aa), j < m → z = ((j : Nat) : Int) → Al m2x1 = true → Al m2x2 = true → (OutB 80 m2 ∧ j ≤ 5) → Sep H (.own m2x1 24 (Aj Aq m2.fFl) :: .own m2x2 25 (Aj Ag m2.fQ) :: Cr c code i h :: .blk i8 [si m2.fLast, m2x1, m2x2] true :: .blk i1 [i0, .nl, .nl] true :: L) → Gd (· = r) (As (PR ((n + 15)) β) ((n + 15)) (fun x H => KH x H) m (.ptr c 0) (.ptr i1 0) (.ptr i8 0) (si z) H) := by
  clear s0 s2 s4 sq6 s7 s9 s10 sq12 s13 sq15
  intro j
  induction j with
  | zero =>
   intro m0 z m2 m2x1 m2x2 i h H hm hz lm2x1 lm2x2 hinv s0
   obtain ⟨m, rfl⟩ : ∃ m, m0 = m + 1 := ⟨m0 - 1, by omega⟩
   have hnl : (Ae m2).fFl.length ≤ 80 := Aa6 (Jq hinv.1)
   rw [As]
   try simp only [Cf, Ba, Bk, A2, A9, A4, At, Bi, Pr.gT, Pr.gF, Pr.hT, Pr.hF, Pr.kT, Pr.kF, Bz, Bm, Bq, Be, J6]
   refine Mf (Cj (decide_eq_false (by omega)) (Fx (m := 4) hcode (by omega) s0 Co fun z17 iq18 hq18 H hz17 sq18 => ?_))
   replace hz17 : 0 ≤ z17 ∧ z17 < 4 := by omega
   have lp19 : ∀ (j m : Nat) (z : Int) (m2 : Bs) (m2x1 : AV) (m2x2 : AV) (i : Nat) (h : Int) (H : Aa), j < m → z = ((j : Nat) : Int) → Al m2x1 = true → Al m2x2 = true → (OutB (110 - 10 * j) m2 ∧ j ≤ 3) → Sep H (.own m2x1 24 (Aj Aq m2.fFl) :: .own m2x2 25 (Aj Ag m2.fQ) :: Cr c code i h :: .blk i8 [si m2.fLast, m2x1, m2x2] true :: .blk i1 [i0, .nl, .nl] true :: L) → Gd (· = r) (Me (PR ((n + 15)) β) ((n + 15)) (fun x H => KH x H) m (.ptr c 0) (.ptr i1 0) (.ptr i8 0) (si z) H) := by
    clear s0 sq18
    intro j
    induction j with
    | zero =>
     intro m0 z m2 m2x1 m2x2 i h H hm hz lm2x1 lm2x2 hinv s0
     obtain ⟨m, rfl⟩ : ∃ m, m0 = m + 1 := ⟨m0 - 1, by omega⟩
     rw [Me]
     try simp only [A2, A9, A4, At, J6]
     refine Mf (Cj (decide_eq_false (by omega)) (Af s0 C1 rfl (Bt (cs' := [si m2.fLast, m2x1, m2x2]) s0 Fq (Ac (Ab rfl (Ab lm2x1 (Ab lm2x2 rfl)))) rfl (Bd rfl) rfl fun H s20 => Af s20 (.here) rfl ?_)))
     have e21 : OutB 110 (m2 : Bs) := by
      exact hinv.1.mono (by omega)
     exact hk (m2 : Bs) m2x1 m2x2 i h _ lm2x1 lm2x2 e21 (s20.sel (.cons A8 (.cons A8 (.cons A8 Q8))))
    | succ j ih =>
     intro m0 z m2 m2x1 m2x2 i h H hm hz lm2x1 lm2x2 hinv s0
     obtain ⟨m, rfl⟩ : ∃ m, m0 = m + 1 := ⟨m0 - 1, by omega⟩
     rw [Me]
     try simp only [A2, A9, A4, At, J6]
     refine Mf (Dd (decide_eq_true (by omega)) (Gd.bothE ?_ ?_))
     refine Af s0 C1 rfl (Gv rfl rfl (Oh _ (by omega) code hcode c i h   (s0.pick Co) fun r22 r22x1 iq23 hq23 H lr22x1 hr22 sq23 => ?_))
     obtain ⟨or22, wr22⟩ := hr22
     have ur22 := or22
     have vr22 := wr22
     simp only [Ce, Bc, Hz, Do, and_true, true_and] at ur22 vr22
     have c24 := Ko (n + 4) (by omega) m2 r22 (hinv.1.ok (by omega)) (by assumption) (za2 hinv.1.wt (by omega)) (by omega)
     refine Im sq23 rfl (.agg (.cons .sc (.cons (.own (by decide) Co) (.cons (.own (by decide) C1) .nil))) (.agg (.cons .sc (.cons (.own (by decide) (.here)) (Mv .nil))) .nil)) (c24) rfl (Hy ⟨_, rfl, rfl⟩ (Mi _) (Dg Gl)) ?_
     rintro _ _ H ⟨_, _, _, _, rfl, rfl, ⟨x25, x26, lx25, lx26, rfl, rfl⟩, ⟨_, rfl, ⟨rfl, rfl⟩⟩⟩ s27
     simp only [zah, zau] at s27
     refine Es (v := .agg [si ((A1 m2 r22).fLast), x25, x26]) rfl (Es (v := si (En m2 r22)) rfl (Bt (cs' := [si ((A1 m2 r22).fLast), x25, x26]) s27 Tl (Ac (Ab rfl (Ab lx25 (Ab lx26 rfl)))) rfl (Bd rfl) rfl fun H s28 => T8 (by omega) (by omega) ?_))
     have e29 : OutB (110 - 10 * j) (⟨(A1 m2 r22).fLast, ((A1 m2 r22).fFl), ((A1 m2 r22).fQ)⟩ : Bs) ∧ j ≤ 3 := by
      refine ⟨?_, by omega⟩; first | exact OutB.mono hinv.1 (by omega) | exact OutB.mono (Vt hinv.1 (by assumption)) (by omega)
     exact ih m _ (⟨(A1 m2 r22).fLast, ((A1 m2 r22).fFl), ((A1 m2 r22).fQ)⟩ : Bs) x25 x26 iq23 hq23 _ (by omega) (by omega) lx25 lx26 e29 (s28.sel (.cons Co (.cons A8 (.cons Co (.cons (.here) (.cons C1 zS3))))))
     refine Gv rfl rfl (Oh _ (by omega) code hcode c i h   (s0.pick Co) fun r30 r30x1 iq31 hq31 H lr30x1 hr30 sq31 => ?_)
     obtain ⟨or30, wr30⟩ := hr30
     have ur30 := or30
     have vr30 := wr30
     simp only [Ce, Bc, Hz, Do, and_true, true_and] at ur30 vr30
     refine Af sq31 Fq rfl ?_
     have c32 := Ko (n + 4) (by omega) m2 r30 (hinv.1.ok (by omega)) (by assumption) (za2 hinv.1.wt (by omega)) (by omega)
     refine Im sq31 rfl (.agg (.cons .sc (.cons (.own (by decide) Co) (.cons (.own (by decide) C1) .nil))) (.agg (.cons .sc (.cons (.own (by decide) (.here)) (Mv .nil))) .nil)) (c32) rfl (Hy ⟨_, rfl, rfl⟩ (Mi _) (Dg Gl)) ?_
     rintro _ _ H ⟨_, _, _, _, rfl, rfl, ⟨x33, x34, lx33, lx34, rfl, rfl⟩, ⟨_, rfl, ⟨rfl, rfl⟩⟩⟩ s35
     simp only [zah, zau] at s35
     refine Es (v := .agg [si ((A1 m2 r30).fLast), x33, x34]) rfl (Es (v := si (En m2 r30)) rfl (Bt (cs' := [si ((A1 m2 r30).fLast), x33, x34]) s35 Tl (Ac (Ab rfl (Ab lx33 (Ab lx34 rfl)))) rfl (Bd rfl) rfl fun H s36 => T8 (by omega) (by omega) ?_))
     have e37 : OutB (110 - 10 * j) (⟨(A1 m2 r30).fLast, ((A1 m2 r30).fFl), ((A1 m2 r30).fQ)⟩ : Bs) ∧ j ≤ 3 := by
      refine ⟨?_, by omega⟩; first | exact OutB.mono hinv.1 (by omega) | exact OutB.mono (Vt hinv.1 (by assumption)) (by omega)
     exact ih m _ (⟨(A1 m2 r30).fLast, ((A1 m2 r30).fFl), ((A1 m2 r30).fQ)⟩ : Bs) x33 x34 iq31 hq31 _ (by omega) (by omega) lx33 lx34 e37 (s36.sel (.cons Co (.cons A8 (.cons Co (.cons (.here) (.cons C1 zS3))))))
   have e38 : OutB (110 - 10 * (z17).toNat) (m2 : Bs) ∧ (z17).toNat ≤ 3 := by
    refine ⟨?_, by omega⟩; first | exact OutB.mono hinv.1 (by omega) | exact OutB.mono (Vt hinv.1 (by assumption)) (by omega)
   exact lp19 (z17).toNat _ _ (m2 : Bs) m2x1 m2x2 iq18 hq18 _ (by omega) (by omega) lm2x1 lm2x2 e38 (sq18.sel (.cons A8 (.cons A8 (.cons (.here) (.cons (.here) (.cons (.here) .rest))))))
  | succ j ih =>
   intro m0 z m2 m2x1 m2x2 i h H hm hz lm2x1 lm2x2 hinv s0
   obtain ⟨m, rfl⟩ : ∃ m, m0 = m + 1 := ⟨m0 - 1, by omega⟩
   have hnl : (Ae m2).fFl.length ≤ 80 := Aa6 (Jq hinv.1)
   rw [As]
   try simp only [Cf, Ba, Bk, A2, A9, A4, At, Bi, Pr.gT, Pr.gF, Pr.hT, Pr.hF, Pr.kT, Pr.kF, Bz, Bm, Bq, Be, J6]
   have tl68 : ∀ (u69 : AV) (u70 : AV) (z71 : Int) (z72 : Int) (i : Nat) (h : Int) (H : Aa), Al u69 = true → Al u70 = true → Sep H (.own u69 24 (Aj Aq ((Ae m2).fFl)) :: .own u70 25 (Aj Ag ((Ae m2).fQ)) :: Cr c code i h :: .blk i8 [si ((Ae m2).fLast), u69, u70] true :: .blk i1 [i0, .nl, .nl] true :: L) → Gd (· = r) ((PR ((n + 15)) β).call 45 (.fn 16 [] []) [(.agg [si ((Ae m2).fLast), u69, u70]), (si z71), (si z72)] H fun t50 H => (PR ((n + 15)) β).extr t50 0 fun t51 => (PR ((n + 15)) β).extr t50 1 fun t52 => (PR ((n + 15)) β).extr t50 2 fun t53 => (PR ((n + 15)) β).store 3 (.ptr i8 0) t51 H fun H => (PR ((n + 15)) β).bin .sub (si z) (si 1) fun t19 => As (PR ((n + 15)) β) ((n + 15)) (fun x H => KH x H) m (.ptr c 0) (.ptr i1 0) (.ptr i8 0) t19 H) := by
    intro u69 u70 z71 z72 i h H lu69 lu70 s0
    try simp only [Ct, Cf, Ba, Bk, A2, A9, A4, C8, C7, Ea, At, Bi, Pr.gT, Pr.gF, Pr.hT, Pr.hF, Pr.kT, Pr.kF, Bz, Bm, C0, Bq, Dv, Cp, B8, Be, Dj, Cg, AeX, Df, AeY, Da, Z6, J6, X3, Acp, Ahq, Aco, AeZ]
    have c73 := AeI (n + 2) (by omega) (⟨(Ae m2).fLast, ((Ae m2).fFl), ((Ae m2).fQ)⟩) z71 z72 (za2 (Jq hinv.1).wt (by omega))
    refine Im s0 rfl (.agg (.cons .sc (.cons (.own (by decide) (.here)) (.cons (.own (by decide) A8) .nil))) (Mv .nil)) (c73) rfl (Hy ⟨_, rfl, rfl⟩ (Mi _) (Hy ⟨_, rfl, rfl⟩ (Hr _) (Dg Gl))) ?_
    rintro _ _ H ⟨_, _, _, _, rfl, rfl, ⟨x80, x81, lx80, lx81, rfl, rfl⟩, ⟨_, _, _, _, rfl, rfl, ⟨x74, x75, x76, x77, x78, x79, lx74, lx75, lx76, lx77, lx78, lx79, rfl, rfl⟩, ⟨_, rfl, ⟨rfl, rfl⟩⟩⟩⟩ s82
    simp only [zah, zau] at s82
    refine Es (v := .agg [.sc (.int .i64 ((F7 (⟨(Ae m2).fLast, ((Ae m2).fFl), ((Ae m2).fQ)⟩) z71 z72).1.fLast)), x80, x81]) rfl (Es (v := .agg [.sc (.int .i64 ((F7 (⟨(Ae m2).fLast, ((Ae m2).fFl), ((Ae m2).fQ)⟩) z71 z72).2.1.fType)), .sc (.bool (F7 (⟨(Ae m2).fLast, ((Ae m2).fFl), ((Ae m2).fQ)⟩) z71 z72).2.1.fDup), .sc (.int .i64 ((F7 (⟨(Ae m2).fLast, ((Ae m2).fFl), ((Ae m2).fQ)⟩) z71 z72).2.1.fQos)), .sc (.bool (F7 (⟨(Ae m2).fLast, ((Ae m2).fFl), ((Ae m2).fQ)⟩) z71 z72).2.1.fRetain), .sc (.int .i64 ((F7 (⟨(Ae m2).fLast, ((Ae m2).fFl), ((Ae m2).fQ)⟩) z71 z72).2.1.fId)), .sc (.string ((F7 (⟨(Ae m2).fLast, ((Ae m2).fFl), ((Ae m2).fQ)⟩) z71 z72).2.1.fTopic)), x74, .sc (.string ((F7 (⟨(Ae m2).fLast, ((Ae m2).fFl), ((Ae m2).fQ)⟩) z71 z72).2.1.fClient)), .sc (.int .i64 ((F7 (⟨(Ae m2).fLast, ((Ae m2).fFl), ((Ae m2).fQ)⟩) z71 z72).2.1.fLevel)), .sc (.bool (F7 (⟨(Ae m2).fLast, ((Ae m2).fFl), ((Ae m2).fQ)⟩) z71 z72).2.1.fClean), .sc (.int .i64 ((F7 (⟨(Ae m2).fLast, ((Ae m2).fFl), ((Ae m2).fQ)⟩) z71 z72).2.1.fKeep)), .sc (.bool (F7 (⟨(Ae m2).fLast, ((Ae m2).fFl), ((Ae m2).fQ)⟩) z71 z72).2.1.fHasWill), .sc (.string ((F7 (⟨(Ae m2).fLast, ((Ae m2).fFl), ((Ae m2).fQ)⟩) z71 z72).2.1.fWTopic)), x75, .sc (.int .i64 ((F7 (⟨(Ae m2).fLast, ((Ae m2).fFl), ((Ae m2).fQ)⟩) z71 z72).2.1.fWQos)), .sc (.bool (F7 (⟨(Ae m2).fLast, ((Ae m2).fFl), ((Ae m2).fQ)⟩) z71 z72).2.1.fWRetain), .sc (.bool (F7 (⟨(Ae m2).fLast, ((Ae m2).fFl), ((Ae m2).fQ)⟩) z71 z72).2.1.fHasUser), .sc (.string ((F7 (⟨(Ae m2).fLast, ((Ae m2).fFl), ((Ae m2).fQ)⟩) z71 z72).2.1.fUser)), .sc (.bool (F7 (⟨(Ae m2).fLast, ((Ae m2).fFl), ((Ae m2).fQ)⟩) z71 z72).2.1.fHasPass), x76, .sc (.int .i64 ((F7 (⟨(Ae m2).fLast, ((Ae m2).fFl), ((Ae m2).fQ)⟩) z71 z72).2.1.fCode)), .sc (.bool (F7 (⟨(Ae m2).fLast, ((Ae m2).fFl), ((Ae m2).fQ)⟩) z71 z72).2.1.fPresent), x77, x78, x79]) rfl (Es (v := .sc (.bool (F7 (⟨(Ae m2).fLast, ((Ae m2).fFl), ((Ae m2).fQ)⟩) z71 z72).2.2)) rfl ?_))
    refine Bt (cs' := [.sc (.int .i64 ((F7 (⟨(Ae m2).fLast, ((Ae m2).fFl), ((Ae m2).fQ)⟩) z71 z72).1.fLast)), x80, x81]) s82 K7 (Ac (Ab rfl (Ab lx80 (Ab lx81 rfl)))) rfl (Bd rfl) rfl fun H s83 => T8 (by omega) (by omega) ?_
    have e84 : OutB 80 (⟨(F7 (⟨(Ae m2).fLast, ((Ae m2).fFl), ((Ae m2).fQ)⟩) z71 z72).1.fLast, ((F7 (⟨(Ae m2).fLast, ((Ae m2).fFl), ((Ae m2).fQ)⟩) z71 z72).1.fFl), ((F7 (⟨(Ae m2).fLast, ((Ae m2).fFl), ((Ae m2).fQ)⟩) z71 z72).1.fQ)⟩ : Bs) ∧ j ≤ 5 := by
     refine ⟨?_, by omega⟩; first | exact hinv.1 | exact Jq hinv.1 | exact Z9 (Jq hinv.1) | (apply Ez <;> first | assumption | omega | (unfold Do; omega) | (intro z hz; cases hz; done) | (show 0 + _ ≤ _; omega))
    exact ih m _ (⟨(F7 (⟨(Ae m2).fLast, ((Ae m2).fFl), ((Ae m2).fQ)⟩) z71 z72).1.fLast, ((F7 (⟨(Ae m2).fLast, ((Ae m2).fFl), ((Ae m2).fQ)⟩) z71 z72).1.fFl), ((F7 (⟨(Ae m2).fLast, ((Ae m2).fFl), ((Ae m2).fQ)⟩) z71 z72).1.fQ)⟩ : Bs) x80 x81 i h _ (by omega) (by omega) lx80 lx81 e84 (s83.sel (.cons zP8 (.cons Qs (.cons D0 (.cons (.here) (.cons zP8 zS8))))))
   refine Mf (Dd (decide_eq_true (by omega)) (Af s0 C1 rfl ?_))
   have c39 := Tt (n + 2) (by omega) m2 (hinv.1.ok (by omega)) (za2 hinv.1.wt (by omega))
   refine Im s0 rfl (.agg (.cons .sc (.cons (.own (by decide) (.here)) (.cons (.own (by decide) A8) .nil))) .nil) (c39) rfl (Hy ⟨_, rfl, rfl⟩ (Mi _) (Hy ⟨_, rfl, rfl⟩ (Hr _) (Dg Gl))) ?_
   rintro _ _ H ⟨_, _, _, _, rfl, rfl, ⟨x46, x47, lx46, lx47, rfl, rfl⟩, ⟨_, _, _, _, rfl, rfl, ⟨x40, x41, x42, x43, x44, x45, lx40, lx41, lx42, lx43, lx44, lx45, rfl, rfl⟩, ⟨_, rfl, ⟨rfl, rfl⟩⟩⟩⟩ s48
   simp only [zah, zau] at s48
   refine Es (v := .agg [si ((Ae m2).fLast), x46, x47]) rfl (Es (v := .agg [si ((B7 m2).fType), .sc (.bool (B7 m2).fDup), si ((B7 m2).fQos), .sc (.bool (B7 m2).fRetain), si ((B7 m2).fId), ss ((B7 m2).fTopic), x40, ss ((B7 m2).fClient), si ((B7 m2).fLevel), .sc (.bool (B7 m2).fClean), si ((B7 m2).fKeep), .sc (.bool (B7 m2).fHasWill), ss ((B7 m2).fWTopic), x41, si ((B7 m2).fWQos), .sc (.bool (B7 m2).fWRetain), .sc (.bool (B7 m2).fHasUser), ss ((B7 m2).fUser), .sc (.bool (B7 m2).fHasPass), x42, si ((B7 m2).fCode), .sc (.bool (B7 m2).fPresent), x43, x44, x45]) rfl (Es (v := sb (Ih m2)) rfl (Bt (cs' := [si ((Ae m2).fLast), x46, x47]) s48 K7 (Ac (Ab rfl (Ab lx46 (Ab lx47 rfl)))) rfl (Bd rfl) rfl fun H s49 => Am (o' := 1) rfl (Bg (c := x46) s49 (.here) rfl (Ic s49 zP8 (Mf (Ad ((decide (0 < ((((Ae m2).fFl).length : Nat) : Int)))) (fun h50 => ?_) fun h50 => ?_)))))))
   refine B4 h50 (B4 h50 (Sj hcode (by omega) s49 K7 fun b51 iq52 hq52 H sq52 => It h50 (Ad (b51) (fun h53 => ?_) fun h53 => ?_)))
   refine Dd h53 (Am (o' := 1) rfl (Am (o' := 1) rfl (Bg (c := x46) sq52 A8 rfl (Ic sq52 D0 (Gd.bothE ?_ ?_)))))
   refine Bg (c := x46) sq52 A8 rfl (Gd.bothE ?_ ?_)
   refine Fx (m := ((((Ae m2).fFl).length : Nat) : Int)) hcode (by omega) sq52 (.here) fun z54 iq55 hq55 H hz54 sq55 => ?_
   have s56 := sq55.toShs D0
   obtain ⟨y57, he58⟩ : ∃ y, ((Ae m2).fFl)[(z54).toNat]? = some y := ⟨_, zas (by first | omega | (simp at *; omega))⟩
   refine T6 (y := y57) s56 ⟨_, _, rfl, rfl, rfl, rfl⟩ (.here) (by omega) he58 Bf Fg rfl fun de58 oe58 raw hl hlf re58 hsc se58 => ?_
   obtain ⟨e58r2, le58r2, rfl⟩ := Kw hl hlf hsc
   clear hl hlf hsc
   refine Pg re58 (Dz se58 fun i59 H s60 => Bt (cs' := [si y57.fId, ss y57.fM.fTopic, e58r2, si y57.fM.fQos, sb y57.fM.fRetain, si y57.fSt]) s60 (.here) (Ac (Ab rfl (Ab rfl (Ab le58r2 rfl)))) rfl (Bd rfl) rfl fun H s61 => Am (o' := 0) rfl (Gd.bothE ?_ ?_))
   refine Af s61 C1 rfl (Gd.bothE ?_ ?_)
   refine Bp (cs := [si 4, si 5, si 7]) rfl (Bw s61 fun i62 H s63 => Gd.bothE ?_ ?_)
   refine Ds hcode (by omega) (by omega) rfl s63 C1 (.here) fun z64a iq65 hq65 H mz64 sq65 => ?_
   have s66 := (sq65.pick A8).tail
   obtain ⟨z64, rfl, hz64⟩ := Ax (l := [4, 5, 7]) (lo := 4) (hi := 7) mz64 (by decide)
   refine Bg (c := si y57.fId) s66 A8 rfl ?_
   have s67 := s66.ofShs Co
   exact tl68 x46 x47 z64 y57.fId iq65 hq65 _ lx46 lx47 (s67.sel (.cons (.here) (.cons D0 (.cons (.here) (.cons A8 (.cons D0 Ij))))))
   refine Bg (c := si y57.fId) s63 A8 rfl (Ds hcode (by omega) (by omega) rfl s63 C1 (.here) fun z85a iq86 hq86 H mz85 sq86 => ?_)
   have s87 := (sq86.pick A8).tail
   obtain ⟨z85, rfl, hz85⟩ := Ax (l := [4, 5, 7]) (lo := 4) (hi := 7) mz85 (by decide)
   have s88 := s87.ofShs Co
   exact tl68 x46 x47 z85 y57.fId iq86 hq86 _ lx46 lx47 (s88.sel (.cons (.here) (.cons D0 (.cons (.here) (.cons A8 (.cons D0 Ij))))))
   refine Bg (c := si y57.fId) s61 (.here) rfl (Bp (cs := [si 4, si 5, si 7]) rfl (Bw s61 fun i89 H s90 => Ds hcode (by omega) (by omega) rfl s90 C1 (.here) fun z91a iq92 hq92 H mz91 sq92 => ?_))
   have s93 := (sq92.pick A8).tail
   obtain ⟨z91, rfl, hz91⟩ := Ax (l := [4, 5, 7]) (lo := 4) (hi := 7) mz91 (by decide)
   have s94 := s93.ofShs Co
   exact tl68 x46 x47 z91 y57.fId iq92 hq92 _ lx46 lx47 (s94.sel (.cons (.here) (.cons D0 (.cons (.here) (.cons A8 (.cons D0 Ij))))))
   refine Gd.bothE ?_ ?_
   refine Bp (cs := [si 4, si 5, si 7]) rfl (Bw s61 fun i95 H s96 => Gd.bothE ?_ ?_)
   refine Af s96 Fq rfl (Gd.bothE ?_ ?_)
   refine Ds hcode (by omega) (by omega) rfl s96 C1 (.here) fun z97a iq98 hq98 H mz97 sq98 => ?_
   have s99 := (sq98.pick A8).tail
   obtain ⟨z97, rfl, hz97⟩ := Ax (l := [4, 5, 7]) (lo := 4) (hi := 7) mz97 (by decide)
   refine Bg (c := si y57.fId) s99 A8 rfl ?_
   have s100 := s99.ofShs Co
   exact tl68 x46 x47 z97 y57.fId iq98 hq98 _ lx46 lx47 (s100.sel (.cons (.here) (.cons D0 (.cons (.here) (.cons A8 (.cons D0 Ij))))))
   refine Bg (c := si y57.fId) s96 A8 rfl (Ds hcode (by omega) (by omega) rfl s96 C1 (.here) fun z101a iq102 hq102 H mz101 sq102 => ?_)
   have s103 := (sq102.pick A8).tail
   obtain ⟨z101, rfl, hz101⟩ := Ax (l := [4, 5, 7]) (lo := 4) (hi := 7) mz101 (by decide)
   have s104 := s103.ofShs Co
   exact tl68 x46 x47 z101 y57.fId iq102 hq102 _ lx46 lx47 (s104.sel (.cons (.here) (.cons D0 (.cons (.here) (.cons A8 (.cons D0 Ij))))))
   refine Gd.bothE ?_ ?_
   refine Ds hcode (by omega) (by omega) rfl s96 C1 (.here) fun z105a iq106 hq106 H mz105 sq106 => ?_
   have s107 := (sq106.pick A8).tail
   obtain ⟨z105, rfl, hz105⟩ := Ax (l := [4, 5, 7]) (lo := 4) (hi := 7) mz105 (by decide)
   refine Af s107 C1 rfl (Bg (c := si y57.fId) s107 A8 rfl ?_)
   have s108 := s107.ofShs Co
   exact tl68 x46 x47 z105 y57.fId iq106 hq106 _ lx46 lx47 (s108.sel (.cons (.here) (.cons D0 (.cons (.here) (.cons A8 (.cons D0 Ij))))))
   refine Bg (c := si y57.fId) s96 A8 rfl (Gd.bothE ?_ ?_)
   refine Af s96 Fq rfl (Ds hcode (by omega) (by omega) rfl s96 C1 (.here) fun z109a iq110 hq110 H mz109 sq110 => ?_)
   have s111 := (sq110.pick A8).tail
   obtain ⟨z109, rfl, hz109⟩ := Ax (l := [4, 5, 7]) (lo := 4) (hi := 7) mz109 (by decide)
   have s112 := s111.ofShs Co
   exact tl68 x46 x47 z109 y57.fId iq110 hq110 _ lx46 lx47 (s112.sel (.cons (.here) (.cons D0 (.cons (.here) (.cons A8 (.cons D0 Ij))))))
   refine Ds hcode (by omega) (by omega) rfl s96 C1 (.here) fun z113a iq114 hq114 H mz113 sq114 => ?_
   have s115 := (sq114.pick A8).tail
   obtain ⟨z113, rfl, hz113⟩ := Ax (l := [4, 5, 7]) (lo := 4) (hi := 7) mz113 (by decide)
   refine Af s115 C1 rfl ?_
   have s116 := s115.ofShs Co
   exact tl68 x46 x47 z113 y57.fId iq114 hq114 _ lx46 lx47 (s116.sel (.cons (.here) (.cons D0 (.cons (.here) (.cons A8 (.cons D0 Ij))))))
   refine Bg (c := si y57.fId) s61 (.here) rfl (Gd.bothE ?_ ?_)
   refine Af s61 C1 rfl (Bp (cs := [si 4, si 5, si 7]) rfl (Bw s61 fun i117 H s118 => Ds hcode (by omega) (by omega) rfl s118 C1 (.here) fun z119a iq120 hq120 H mz119 sq120 => ?_))
   have s121 := (sq120.pick A8).tail
   obtain ⟨z119, rfl, hz119⟩ := Ax (l := [4, 5, 7]) (lo := 4) (hi := 7) mz119 (by decide)
   have s122 := s121.ofShs Co
   exact tl68 x46 x47 z119 y57.fId iq120 hq120 _ lx46 lx47 (s122.sel (.cons (.here) (.cons D0 (.cons (.here) (.cons A8 (.cons D0 Ij))))))
   refine Bp (cs := [si 4, si 5, si 7]) rfl (Bw s61 fun i123 H s124 => Gd.bothE ?_ ?_)
   refine Af s124 Fq rfl (Ds hcode (by omega) (by omega) rfl s124 C1 (.here) fun z125a iq126 hq126 H mz125 sq126 => ?_)
   have s127 := (sq126.pick A8).tail
   obtain ⟨z125, rfl, hz125⟩ := Ax (l := [4, 5, 7]) (lo := 4) (hi := 7) mz125 (by decide)
   have s128 := s127.ofShs Co
   exact tl68 x46 x47 z125 y57.fId iq126 hq126 _ lx46 lx47 (s128.sel (.cons (.here) (.cons D0 (.cons (.here) (.cons A8 (.cons D0 Ij))))))
   refine Ds hcode (by omega) (by omega) rfl s124 C1 (.here) fun z129a iq130 hq130 H mz129 sq130 => ?_
   have s131 := (sq130.pick A8).tail
   obtain ⟨z129, rfl, hz129⟩ := Ax (l := [4, 5, 7]) (lo := 4) (hi := 7) mz129 (by decide)
   refine Af s131 C1 rfl ?_
   have s132 := s131.ofShs Co
   exact tl68 x46 x47 z129 y57.fId iq130 hq130 _ lx46 lx47 (s132.sel (.cons (.here) (.cons D0 (.cons (.here) (.cons A8 (.cons D0 Ij))))))
   refine Dz sq52 fun i133 H s134 => Fx (m := ((((Ae m2).fFl).length : Nat) : Int)) hcode (by omega) s134 A8 fun z135 iq136 hq136 H hz135 sq136 => ?_
   have s137 := sq136.toShs Xx
   obtain ⟨y138, he139⟩ : ∃ y, ((Ae m2).fFl)[(z135).toNat]? = some y := ⟨_, zas (by first | omega | (simp at *; omega))⟩
   refine T6 (y := y138) s137 ⟨_, _, rfl, rfl, rfl, rfl⟩ (.here) (by omega) he139 Bf Fg rfl fun de139 oe139 raw hl hlf re139 hsc se139 => ?_
   obtain ⟨e139r2, le139r2, rfl⟩ := Kw hl hlf hsc
   clear hl hlf hsc
   refine Pg re139 (Bt (cs' := [si y138.fId, ss y138.fM.fTopic, e139r2, si y138.fM.fQos, sb y138.fM.fRetain, si y138.fSt]) se139 Co (Ac (Ab rfl (Ab rfl (Ab le139r2 rfl)))) rfl (Bd rfl) rfl fun H s140 => Am (o' := 0) rfl (Gd.bothE ?_ ?_))
   refine Af s140 C1 rfl (Gd.bothE ?_ ?_)
   refine Bp (cs := [si 4, si 5, si 7]) rfl (Bw s140 fun i141 H s142 => Gd.bothE ?_ ?_)
   refine Ds hcode (by omega) (by omega) rfl s142 C1 (.here) fun z143a iq144 hq144 H mz143 sq144 => ?_
   have s145 := (sq144.pick A8).tail
   obtain ⟨z143, rfl, hz143⟩ := Ax (l := [4, 5, 7]) (lo := 4) (hi := 7) mz143 (by decide)
   refine Bg (c := si y138.fId) s145 A8 rfl ?_
   have s146 := s145.ofShs Co
   exact tl68 x46 x47 z143 y138.fId iq144 hq144 _ lx46 lx47 (s146.sel (.cons (.here) (.cons D0 (.cons (.here) (.cons A8 (.cons D0 Ij))))))
   refine Bg (c := si y138.fId) s142 A8 rfl (Ds hcode (by omega) (by omega) rfl s142 C1 (.here) fun z147a iq148 hq148 H mz147 sq148 => ?_)
   have s149 := (sq148.pick A8).tail
   obtain ⟨z147, rfl, hz147⟩ := Ax (l := [4, 5, 7]) (lo := 4) (hi := 7) mz147 (by decide)
   have s150 := s149.ofShs Co
   exact tl68 x46 x47 z147 y138.fId iq148 hq148 _ lx46 lx47 (s150.sel (.cons (.here) (.cons D0 (.cons (.here) (.cons A8 (.cons D0 Ij))))))
   refine Bg (c := si y138.fId) s140 (.here) rfl (Bp (cs := [si 4, si 5, si 7]) rfl (Bw s140 fun i151 H s152 => Ds hcode (by omega) (by omega) rfl s152 C1 (.here) fun z153a iq154 hq154 H mz153 sq154 => ?_))
   have s155 := (sq154.pick A8).tail
   obtain ⟨z153, rfl, hz153⟩ := Ax (l := [4, 5, 7]) (lo := 4) (hi := 7) mz153 (by decide)
   have s156 := s155.ofShs Co
   exact tl68 x46 x47 z153 y138.fId iq154 hq154 _ lx46 lx47 (s156.sel (.cons (.here) (.cons D0 (.cons (.here) (.cons A8 (.cons D0 Ij))))))
   refine Gd.bothE ?_ ?_
   refine Bp (cs := [si 4, si 5, si 7]) rfl (Bw s140 fun i157 H s158 => Gd.bothE ?_ ?_)
   refine Af s158 Fq rfl (Gd.bothE ?_ ?_)
   refine Ds hcode (by omega) (by omega) rfl s158 C1 (.here) fun z159a iq160 hq160 H mz159 sq160 => ?_
   have s161 := (sq160.pick A8).tail
   obtain ⟨z159, rfl, hz159⟩ := Ax (l := [4, 5, 7]) (lo := 4) (hi := 7) mz159 (by decide)
   refine Bg (c := si y138.fId) s161 A8 rfl ?_
   have s162 := s161.ofShs Co
   exact tl68 x46 x47 z159 y138.fId iq160 hq160 _ lx46 lx47 (s162.sel (.cons (.here) (.cons D0 (.cons (.here) (.cons A8 (.cons D0 Ij))))))
   refine Bg (c := si y138.fId) s158 A8 rfl (Ds hcode (by omega) (by omega) rfl s158 C1 (.here) fun z163a iq164 hq164 H mz163 sq164 => ?_)
   have s165 := (sq164.pick A8).tail
   obtain ⟨z163, rfl, hz163⟩ := Ax (l := [4, 5, 7]) (lo := 4) (hi := 7) mz163 (by decide)
   have s166 := s165.ofShs Co
   exact tl68 x46 x47 z163 y138.fId iq164 hq164 _ lx46 lx47 (s166.sel (.cons (.here) (.cons D0 (.cons (.here) (.cons A8 (.cons D0 Ij))))))
   refine Gd.bothE ?_ ?_
   refine Ds hcode (by omega) (by omega) rfl s158 C1 (.here) fun z167a iq168 hq168 H mz167 sq168 => ?_
   have s169 := (sq168.pick A8).tail
   obtain ⟨z167, rfl, hz167⟩ := Ax (l := [4, 5, 7]) (lo := 4) (hi := 7) mz167 (by decide)
   refine Af s169 C1 rfl (Bg (c := si y138.fId) s169 A8 rfl ?_)
   have s170 := s169.ofShs Co
   exact tl68 x46 x47 z167 y138.fId iq168 hq168 _ lx46 lx47 (s170.sel (.cons (.here) (.cons D0 (.cons (.here) (.cons A8 (.cons D0 Ij))))))
   refine Bg (c := si y138.fId) s158 A8 rfl (Gd.bothE ?_ ?_)
   refine Af s158 Fq rfl (Ds hcode (by omega) (by omega) rfl s158 C1 (.here) fun z171a iq172 hq172 H mz171 sq172 => ?_)
   have s173 := (sq172.pick A8).tail
   obtain ⟨z171, rfl, hz171⟩ := Ax (l := [4, 5, 7]) (lo := 4) (hi := 7) mz171 (by decide)
   have s174 := s173.ofShs Co
   exact tl68 x46 x47 z171 y138.fId iq172 hq172 _ lx46 lx47 (s174.sel (.cons (.here) (.cons D0 (.cons (.here) (.cons A8 (.cons D0 Ij))))))
   refine Ds hcode (by omega) (by omega) rfl s158 C1 (.here) fun z175a iq176 hq176 H mz175 sq176 => ?_
   have s177 := (sq176.pick A8).tail
   obtain ⟨z175, rfl, hz175⟩ := Ax (l := [4, 5, 7]) (lo := 4) (hi := 7) mz175 (by decide)
   refine Af s177 C1 rfl ?_
   have s178 := s177.ofShs Co
   exact tl68 x46 x47 z175 y138.fId iq176 hq176 _ lx46 lx47 (s178.sel (.cons (.here) (.cons D0 (.cons (.here) (.cons A8 (.cons D0 Ij))))))
   refine Bg (c := si y138.fId) s140 (.here) rfl (Gd.bothE ?_ ?_)
   refine Af s140 C1 rfl (Bp (cs := [si 4, si 5, si 7]) rfl (Bw s140 fun i179 H s180 => Ds hcode (by omega) (by omega) rfl s180 C1 (.here) fun z181a iq182 hq182 H mz181 sq182 => ?_))
   have s183 := (sq182.pick A8).tail
   obtain ⟨z181, rfl, hz181⟩ := Ax (l := [4, 5, 7]) (lo := 4) (hi := 7) mz181 (by decide)
   have s184 := s183.ofShs Co
   exact tl68 x46 x47 z181 y138.fId iq182 hq182 _ lx46 lx47 (s184.sel (.cons (.here) (.cons D0 (.cons (.here) (.cons A8 (.cons D0 Ij))))))
   refine Bp (cs := [si 4, si 5, si 7]) rfl (Bw s140 fun i185 H s186 => Gd.bothE ?_ ?_)
   refine Af s186 Fq rfl (Ds hcode (by omega) (by omega) rfl s186 C1 (.here) fun z187a iq188 hq188 H mz187 sq188 => ?_)
   have s189 := (sq188.pick A8).tail
   obtain ⟨z187, rfl, hz187⟩ := Ax (l := [4, 5, 7]) (lo := 4) (hi := 7) mz187 (by decide)
   have s190 := s189.ofShs Co
   exact tl68 x46 x47 z187 y138.fId iq188 hq188 _ lx46 lx47 (s190.sel (.cons (.here) (.cons D0 (.cons (.here) (.cons A8 (.cons D0 Ij))))))
   refine Ds hcode (by omega) (by omega) rfl s186 C1 (.here) fun z191a iq192 hq192 H mz191 sq192 => ?_
   have s193 := (sq192.pick A8).tail
   obtain ⟨z191, rfl, hz191⟩ := Ax (l := [4, 5, 7]) (lo := 4) (hi := 7) mz191 (by decide)
   refine Af s193 C1 rfl ?_
   have s194 := s193.ofShs Co
   exact tl68 x46 x47 z191 y138.fId iq192 hq192 _ lx46 lx47 (s194.sel (.cons (.here) (.cons D0 (.cons (.here) (.cons A8 (.cons D0 Ij))))))
   refine Gd.bothE ?_ ?_
   refine Fx (m := ((((Ae m2).fFl).length : Nat) : Int)) hcode (by omega) sq52 (.here) fun z195 iq196 hq196 H hz195 sq196 => Bg (c := x46) sq196 A8 rfl ?_
   have s197 := sq196.toShs D0
   obtain ⟨y198, he199⟩ : ∃ y, ((Ae m2).fFl)[(z195).toNat]? = some y := ⟨_, zas (by first | omega | (simp at *; omega))⟩
   refine T6 (y := y198) s197 ⟨_, _, rfl, rfl, rfl, rfl⟩ (.here) (by omega) he199 Bf Fg rfl fun de199 oe199 raw hl hlf re199 hsc se199 => ?_
   obtain ⟨e199r2, le199r2, rfl⟩ := Kw hl hlf hsc
   clear hl hlf hsc
   refine Pg re199 (Dz se199 fun i200 H s201 => Bt (cs' := [si y198.fId, ss y198.fM.fTopic, e199r2, si y198.fM.fQos, sb y198.fM.fRetain, si y198.fSt]) s201 (.here) (Ac (Ab rfl (Ab rfl (Ab le199r2 rfl)))) rfl (Bd rfl) rfl fun H s202 => Am (o' := 0) rfl (Gd.bothE ?_ ?_))
   refine Af s202 C1 rfl (Gd.bothE ?_ ?_)
   refine Bp (cs := [si 4, si 5, si 7]) rfl (Bw s202 fun i203 H s204 => Gd.bothE ?_ ?_)
   refine Ds hcode (by omega) (by omega) rfl s204 C1 (.here) fun z205a iq206 hq206 H mz205 sq206 => ?_
   have s207 := (sq206.pick A8).tail
   obtain ⟨z205, rfl, hz205⟩ := Ax (l := [4, 5, 7]) (lo := 4) (hi := 7) mz205 (by decide)
   refine Bg (c := si y198.fId) s207 A8 rfl ?_
   have s208 := s207.ofShs Co
   exact tl68 x46 x47 z205 y198.fId iq206 hq206 _ lx46 lx47 (s208.sel (.cons (.here) (.cons D0 (.cons (.here) (.cons A8 (.cons D0 Ij))))))
   refine Bg (c := si y198.fId) s204 A8 rfl (Ds hcode (by omega) (by omega) rfl s204 C1 (.here) fun z209a iq210 hq210 H mz209 sq210 => ?_)
   have s211 := (sq210.pick A8).tail
   obtain ⟨z209, rfl, hz209⟩ := Ax (l := [4, 5, 7]) (lo := 4) (hi := 7) mz209 (by decide)
   have s212 := s211.ofShs Co
   exact tl68 x46 x47 z209 y198.fId iq210 hq210 _ lx46 lx47 (s212.sel (.cons (.here) (.cons D0 (.cons (.here) (.cons A8 (.cons D0 Ij))))))
   refine Bg (c := si y198.fId) s202 (.here) rfl (Bp (cs := [si 4, si 5, si 7]) rfl (Bw s202 fun i213 H s214 => Ds hcode (by omega) (by omega) rfl s214 C1 (.here) fun z215a iq216 hq216 H mz215 sq216 => ?_))
   have s217 := (sq216.pick A8).tail
   obtain ⟨z215, rfl, hz215⟩ := Ax (l := [4, 5, 7]) (lo := 4) (hi := 7) mz215 (by decide)
   have s218 := s217.ofShs Co
   exact tl68 x46 x47 z215 y198.fId iq216 hq216 _ lx46 lx47 (s218.sel (.cons (.here) (.cons D0 (.cons (.here) (.cons A8 (.cons D0 Ij))))))
   refine Gd.bothE ?_ ?_
   refine Bp (cs := [si 4, si 5, si 7]) rfl (Bw s202 fun i219 H s220 => Gd.bothE ?_ ?_)
   refine Af s220 Fq rfl (Gd.bothE ?_ ?_)
   refine Ds hcode (by omega) (by omega) rfl s220 C1 (.here) fun z221a iq222 hq222 H mz221 sq222 => ?_
   have s223 := (sq222.pick A8).tail
   obtain ⟨z221, rfl, hz221⟩ := Ax (l := [4, 5, 7]) (lo := 4) (hi := 7) mz221 (by decide)
   refine Bg (c := si y198.fId) s223 A8 rfl ?_
   have s224 := s223.ofShs Co
   exact tl68 x46 x47 z221 y198.fId iq222 hq222 _ lx46 lx47 (s224.sel (.cons (.here) (.cons D0 (.cons (.here) (.cons A8 (.cons D0 Ij))))))
   refine Bg (c := si y198.fId) s220 A8 rfl (Ds hcode (by omega) (by omega) rfl s220 C1 (.here) fun z225a iq226 hq226 H mz225 sq226 => ?_)
   have s227 := (sq226.pick A8).tail
   obtain ⟨z225, rfl, hz225⟩ := Ax (l := [4, 5, 7]) (lo := 4) (hi := 7) mz225 (by decide)
   have s228 := s227.ofShs Co
   exact tl68 x46 x47 z225 y198.fId iq226 hq226 _ lx46 lx47 (s228.sel (.cons (.here) (.cons D0 (.cons (.here) (.cons A8 (.cons D0 Ij))))))
   refine Gd.bothE ?_ ?_
   refine Ds hcode (by omega) (by omega) rfl s220 C1 (.here) fun z229a iq230 hq230 H mz229 sq230 => ?_
   have s231 := (sq230.pick A8).tail
   obtain ⟨z229, rfl, hz229⟩ := Ax (l := [4, 5, 7]) (lo := 4) (hi := 7) mz229 (by decide)
   refine Af s231 C1 rfl (Bg (c := si y198.fId) s231 A8 rfl ?_)
   have s232 := s231.ofShs Co
   exact tl68 x46 x47 z229 y198.fId iq230 hq230 _ lx46 lx47 (s232.sel (.cons (.here) (.cons D0 (.cons (.here) (.cons A8 (.cons D0 Ij))))))
   refine Bg (c := si y198.fId) s220 A8 rfl (Gd.bothE ?_ ?_)
   refine Af s220 Fq rfl (Ds hcode (by omega) (by omega) rfl s220 C1 (.here) fun z233a iq234 hq234 H mz233 sq234 => ?_)
   have s235 := (sq234.pick A8).tail
   obtain ⟨z233, rfl, hz233⟩ := Ax (l := [4, 5, 7]) (lo := 4) (hi := 7) mz233 (by decide)
   have s236 := s235.ofShs Co
   exact tl68 x46 x47 z233 y198.fId iq234 hq234 _ lx46 lx47 (s236.sel (.cons (.here) (.cons D0 (.cons (.here) (.cons A8 (.cons D0 Ij))))))
   refine Ds hcode (by omega) (by omega) rfl s220 C1 (.here) fun z237a iq238 hq238 H mz237 sq238 => ?_
   have s239 := (sq238.pick A8).tail
   obtain ⟨z237, rfl, hz237⟩ := Ax (l := [4, 5, 7]) (lo := 4) (hi := 7) mz237 (by decide)
   refine Af s239 C1 rfl ?_
   have s240 := s239.ofShs Co
   exact tl68 x46 x47 z237 y198.fId iq238 hq238 _ lx46 lx47 (s240.sel (.cons (.here) (.cons D0 (.cons (.here) (.cons A8 (.cons D0 Ij))))))
   refine Bg (c := si y198.fId) s202 (.here) rfl (Gd.bothE ?_ ?_)
   refine Af s202 C1 rfl (Bp (cs := [si 4, si 5, si 7]) rfl (Bw s202 fun i241 H s242 => Ds hcode (by omega) (by omega) rfl s242 C1 (.here) fun z243a iq244 hq244 H mz243 sq244 => ?_))
   have s245 := (sq244.pick A8).tail
   obtain ⟨z243, rfl, hz243⟩ := Ax (l := [4, 5, 7]) (lo := 4) (hi := 7) mz243 (by decide)
   have s246 := s245.ofShs Co
   exact tl68 x46 x47 z243 y198.fId iq244 hq244 _ lx46 lx47 (s246.sel (.cons (.here) (.cons D0 (.cons (.here) (.cons A8 (.cons D0 Ij))))))
   refine Bp (cs := [si 4, si 5, si 7]) rfl (Bw s202 fun i247 H s248 => Gd.bothE ?_ ?_)
   refine Af s248 Fq rfl (Ds hcode (by omega) (by omega) rfl s248 C1 (.here) fun z249a iq250 hq250 H mz249 sq250 => ?_)
   have s251 := (sq250.pick A8).tail
   obtain ⟨z249, rfl, hz249⟩ := Ax (l := [4, 5, 7]) (lo := 4) (hi := 7) mz249 (by decide)
   have s252 := s251.ofShs Co
   exact tl68 x46 x47 z249 y198.fId iq250 hq250 _ lx46 lx47 (s252.sel (.cons (.here) (.cons D0 (.cons (.here) (.cons A8 (.cons D0 Ij))))))
   refine Ds hcode (by omega) (by omega) rfl s248 C1 (.here) fun z253a iq254 hq254 H mz253 sq254 => ?_
   have s255 := (sq254.pick A8).tail
   obtain ⟨z253, rfl, hz253⟩ := Ax (l := [4, 5, 7]) (lo := 4) (hi := 7) mz253 (by decide)
   refine Af s255 C1 rfl ?_
   have s256 := s255.ofShs Co
   exact tl68 x46 x47 z253 y198.fId iq254 hq254 _ lx46 lx47 (s256.sel (.cons (.here) (.cons D0 (.cons (.here) (.cons A8 (.cons D0 Ij))))))
   refine Dz sq52 fun i257 H s258 => Gd.bothE ?_ ?_
   refine Bg (c := x46) s258 Co rfl (Fx (m := ((((Ae m2).fFl).length : Nat) : Int)) hcode (by omega) s258 A8 fun z259 iq260 hq260 H hz259 sq260 => ?_)
   have s261 := sq260.toShs Xx
   obtain ⟨y262, he263⟩ : ∃ y, ((Ae m2).fFl)[(z259).toNat]? = some y := ⟨_, zas (by first | omega | (simp at *; omega))⟩
   refine T6 (y := y262) s261 ⟨_, _, rfl, rfl, rfl, rfl⟩ (.here) (by omega) he263 Bf Fg rfl fun de263 oe263 raw hl hlf re263 hsc se263 => ?_
   obtain ⟨e263r2, le263r2, rfl⟩ := Kw hl hlf hsc
   clear hl hlf hsc
   refine Pg re263 (Bt (cs' := [si y262.fId, ss y262.fM.fTopic, e263r2, si y262.fM.fQos, sb y262.fM.fRetain, si y262.fSt]) se263 Co (Ac (Ab rfl (Ab rfl (Ab le263r2 rfl)))) rfl (Bd rfl) rfl fun H s264 => Am (o' := 0) rfl (Gd.bothE ?_ ?_))
   refine Af s264 C1 rfl (Gd.bothE ?_ ?_)
   refine Bp (cs := [si 4, si 5, si 7]) rfl (Bw s264 fun i265 H s266 => Gd.bothE ?_ ?_)
   refine Ds hcode (by omega) (by omega) rfl s266 C1 (.here) fun z267a iq268 hq268 H mz267 sq268 => ?_
   have s269 := (sq268.pick A8).tail
   obtain ⟨z267, rfl, hz267⟩ := Ax (l := [4, 5, 7]) (lo := 4) (hi := 7) mz267 (by decide)
   refine Bg (c := si y262.fId) s269 A8 rfl ?_
   have s270 := s269.ofShs Co
   exact tl68 x46 x47 z267 y262.fId iq268 hq268 _ lx46 lx47 (s270.sel (.cons (.here) (.cons D0 (.cons (.here) (.cons A8 (.cons D0 Ij))))))
   refine Bg (c := si y262.fId) s266 A8 rfl (Ds hcode (by omega) (by omega) rfl s266 C1 (.here) fun z271a iq272 hq272 H mz271 sq272 => ?_)
   have s273 := (sq272.pick A8).tail
   obtain ⟨z271, rfl, hz271⟩ := Ax (l := [4, 5, 7]) (lo := 4) (hi := 7) mz271 (by decide)
   have s274 := s273.ofShs Co
   exact tl68 x46 x47 z271 y262.fId iq272 hq272 _ lx46 lx47 (s274.sel (.cons (.here) (.cons D0 (.cons (.here) (.cons A8 (.cons D0 Ij))))))
   refine Bg (c := si y262.fId) s264 (.here) rfl (Bp (cs := [si 4, si 5, si 7]) rfl (Bw s264 fun i275 H s276 => Ds hcode (by omega) (by omega) rfl s276 C1 (.here) fun z277a iq278 hq278 H mz277 sq278 => ?_))
   have s279 := (sq278.pick A8).tail
   obtain ⟨z277, rfl, hz277⟩ := Ax (l := [4, 5, 7]) (lo := 4) (hi := 7) mz277 (by decide)
   have s280 := s279.ofShs Co
   exact tl68 x46 x47 z277 y262.fId iq278 hq278 _ lx46 lx47 (s280.sel (.cons (.here) (.cons D0 (.cons (.here) (.cons A8 (.cons D0 Ij))))))
   refine Gd.bothE ?_ ?_
   refine Bp (cs := [si 4, si 5, si 7]) rfl (Bw s264 fun i281 H s282 => Gd.bothE ?_ ?_)
   refine Af s282 Fq rfl (Gd.bothE ?_ ?_)
   refine Ds hcode (by omega) (by omega) rfl s282 C1 (.here) fun z283a iq284 hq284 H mz283 sq284 => ?_
   have s285 := (sq284.pick A8).tail
   obtain ⟨z283, rfl, hz283⟩ := Ax (l := [4, 5, 7]) (lo := 4) (hi := 7) mz283 (by decide)
   refine Bg (c := si y262.fId) s285 A8 rfl ?_
   have s286 := s285.ofShs Co
   exact tl68 x46 x47 z283 y262.fId iq284 hq284 _ lx46 lx47 (s286.sel (.cons (.here) (.cons D0 (.cons (.here) (.cons A8 (.cons D0 Ij))))))
   refine Bg (c := si y262.fId) s282 A8 rfl (Ds hcode (by omega) (by omega) rfl s282 C1 (.here) fun z287a iq288 hq288 H mz287 sq288 => ?_)
   have s289 := (sq288.pick A8).tail
   obtain ⟨z287, rfl, hz287⟩ := Ax (l := [4, 5, 7]) (lo := 4) (hi := 7) mz287 (by decide)
   have s290 := s289.ofShs Co
   exact tl68 x46 x47 z287 y262.fId iq288 hq288 _ lx46 lx47 (s290.sel (.cons (.here) (.cons D0 (.cons (.here) (.cons A8 (.cons D0 Ij))))))
   refine Gd.bothE ?_ ?_
   refine Ds hcode (by omega) (by omega) rfl s282 C1 (.here) fun z291a iq292 hq292 H mz291 sq292 => ?_
   have s293 := (sq292.pick A8).tail
   obtain ⟨z291, rfl, hz291⟩ := Ax (l := [4, 5, 7]) (lo := 4) (hi := 7) mz291 (by decide)
   refine Af s293 C1 rfl (Bg (c := si y262.fId) s293 A8 rfl ?_)
   have s294 := s293.ofShs Co
   exact tl68 x46 x47 z291 y262.fId iq292 hq292 _ lx46 lx47 (s294.sel (.cons (.here) (.cons D0 (.cons (.here) (.cons A8 (.cons D0 Ij))))))
   refine Bg (c := si y262.fId) s282 A8 rfl (Gd.bothE ?_ ?_)
   refine Af s282 Fq rfl (Ds hcode (by omega) (by omega) rfl s282 C1 (.here) fun z295a iq296 hq296 H mz295 sq296 => ?_)
   have s297 := (sq296.pick A8).tail
   obtain ⟨z295, rfl, hz295⟩ := Ax (l := [4, 5, 7]) (lo := 4) (hi := 7) mz295 (by decide)
   have s298 := s297.ofShs Co
   exact tl68 x46 x47 z295 y262.fId iq296 hq296 _ lx46 lx47 (s298.sel (.cons (.here) (.cons D0 (.cons (.here) (.cons A8 (.cons D0 Ij))))))
   refine Ds hcode (by omega) (by omega) rfl s282 C1 (.here) fun z299a iq300 hq300 H mz299 sq300 => ?_
   have s301 := (sq300.pick A8).tail
   obtain ⟨z299, rfl, hz299⟩ := Ax (l := [4, 5, 7]) (lo := 4) (hi := 7) mz299 (by decide)
   refine Af s301 C1 rfl ?_
   have s302 := s301.ofShs Co
   exact tl68 x46 x47 z299 y262.fId iq300 hq300 _ lx46 lx47 (s302.sel (.cons (.here) (.cons D0 (.cons (.here) (.cons A8 (.cons D0 Ij))))))
   refine Bg (c := si y262.fId) s264 (.here) rfl (Gd.bothE ?_ ?_)
   refine Af s264 C1 rfl (Bp (cs := [si 4, si 5, si 7]) rfl (Bw s264 fun i303 H s304 => Ds hcode (by omega) (by omega) rfl s304 C1 (.here) fun z305a iq306 hq306 H mz305 sq306 => ?_))
   have s307 := (sq306.pick A8).tail
   obtain ⟨z305, rfl, hz305⟩ := Ax (l := [4, 5, 7]) (lo := 4) (hi := 7) mz305 (by decide)
   have s308 := s307.ofShs Co
   exact tl68 x46 x47 z305 y262.fId iq306 hq306 _ lx46 lx47 (s308.sel (.cons (.here) (.cons D0 (.cons (.here) (.cons A8 (.cons D0 Ij))))))
   refine Bp (cs := [si 4, si 5, si 7]) rfl (Bw s264 fun i309 H s310 => Gd.bothE ?_ ?_)
   refine Af s310 Fq rfl (Ds hcode (by omega) (by omega) rfl s310 C1 (.here) fun z311a iq312 hq312 H mz311 sq312 => ?_)
   have s313 := (sq312.pick A8).tail
   obtain ⟨z311, rfl, hz311⟩ := Ax (l := [4, 5, 7]) (lo := 4) (hi := 7) mz311 (by decide)
   have s314 := s313.ofShs Co
   exact tl68 x46 x47 z311 y262.fId iq312 hq312 _ lx46 lx47 (s314.sel (.cons (.here) (.cons D0 (.cons (.here) (.cons A8 (.cons D0 Ij))))))
   refine Ds hcode (by omega) (by omega) rfl s310 C1 (.here) fun z315a iq316 hq316 H mz315 sq316 => ?_
   have s317 := (sq316.pick A8).tail
   obtain ⟨z315, rfl, hz315⟩ := Ax (l := [4, 5, 7]) (lo := 4) (hi := 7) mz315 (by decide)
   refine Af s317 C1 rfl ?_
   have s318 := s317.ofShs Co
   exact tl68 x46 x47 z315 y262.fId iq316 hq316 _ lx46 lx47 (s318.sel (.cons (.here) (.cons D0 (.cons (.here) (.cons A8 (.cons D0 Ij))))))
   refine Fx (m := ((((Ae m2).fFl).length : Nat) : Int)) hcode (by omega) s258 A8 fun z319 iq320 hq320 H hz319 sq320 => Bg (c := x46) sq320 Co rfl ?_
   have s321 := sq320.toShs Xx
   obtain ⟨y322, he323⟩ : ∃ y, ((Ae m2).fFl)[(z319).toNat]? = some y := ⟨_, zas (by first | omega | (simp at *; omega))⟩
   refine T6 (y := y322) s321 ⟨_, _, rfl, rfl, rfl, rfl⟩ (.here) (by omega) he323 Bf Fg rfl fun de323 oe323 raw hl hlf re323 hsc se323 => ?_
   obtain ⟨e323r2, le323r2, rfl⟩ := Kw hl hlf hsc
   clear hl hlf hsc
   refine Pg re323 (Bt (cs' := [si y322.fId, ss y322.fM.fTopic, e323r2, si y322.fM.fQos, sb y322.fM.fRetain, si y322.fSt]) se323 Co (Ac (Ab rfl (Ab rfl (Ab le323r2 rfl)))) rfl (Bd rfl) rfl fun H s324 => Am (o' := 0) rfl (Gd.bothE ?_ ?_))
   refine Af s324 C1 rfl (Gd.bothE ?_ ?_)
   refine Bp (cs := [si 4, si 5, si 7]) rfl (Bw s324 fun i325 H s326 => Gd.bothE ?_ ?_)
   refine Ds hcode (by omega) (by omega) rfl s326 C1 (.here) fun z327a iq328 hq328 H mz327 sq328 => ?_
   have s329 := (sq328.pick A8).tail
   obtain ⟨z327, rfl, hz327⟩ := Ax (l := [4, 5, 7]) (lo := 4) (hi := 7) mz327 (by decide)
   refine Bg (c := si y322.fId) s329 A8 rfl ?_
   have s330 := s329.ofShs Co
   exact tl68 x46 x47 z327 y322.fId iq328 hq328 _ lx46 lx47 (s330.sel (.cons (.here) (.cons D0 (.cons (.here) (.cons A8 (.cons D0 Ij))))))
   refine Bg (c := si y322.fId) s326 A8 rfl (Ds hcode (by omega) (by omega) rfl s326 C1 (.here) fun z331a iq332 hq332 H mz331 sq332 => ?_)
   have s333 := (sq332.pick A8).tail
   obtain ⟨z331, rfl, hz331⟩ := Ax (l := [4, 5, 7]) (lo := 4) (hi := 7) mz331 (by decide)
   have s334 := s333.ofShs Co
   exact tl68 x46 x47 z331 y322.fId iq332 hq332 _ lx46 lx47 (s334.sel (.cons (.here) (.cons D0 (.cons (.here) (.cons A8 (.cons D0 Ij))))))
   refine Bg (c := si y322.fId) s324 (.here) rfl (Bp (cs := [si 4, si 5, si 7]) rfl (Bw s324 fun i335 H s336 => Ds hcode (by omega) (by omega) rfl s336 C1 (.here) fun z337a iq338 hq338 H mz337 sq338 => ?_))
   have s339 := (sq338.pick A8).tail
   obtain ⟨z337, rfl, hz337⟩ := Ax (l := [4, 5, 7]) (lo := 4) (hi := 7) mz337 (by decide)
   have s340 := s339.ofShs Co
   exact tl68 x46 x47 z337 y322.fId iq338 hq338 _ lx46 lx47 (s340.sel (.cons (.here) (.cons D0 (.cons (.here) (.cons A8 (.cons D0 Ij))))))
   refine Gd.bothE ?_ ?_
   refine Bp (cs := [si 4, si 5, si 7]) rfl (Bw s324 fun i341 H s342 => Gd.bothE ?_ ?_)
   refine Af s342 Fq rfl (Gd.bothE ?_ ?_)
   refine Ds hcode (by omega) (by omega) rfl s342 C1 (.here) fun z343a iq344 hq344 H mz343 sq344 => ?_
   have s345 := (sq344.pick A8).tail
   obtain ⟨z343, rfl, hz343⟩ := Ax (l := [4, 5, 7]) (lo := 4) (hi := 7) mz343 (by decide)
   refine Bg (c := si y322.fId) s345 A8 rfl ?_
   have s346 := s345.ofShs Co
   exact tl68 x46 x47 z343 y322.fId iq344 hq344 _ lx46 lx47 (s346.sel (.cons (.here) (.cons D0 (.cons (.here) (.cons A8 (.cons D0 Ij))))))
   refine Bg (c := si y322.fId) s342 A8 rfl (Ds hcode (by omega) (by omega) rfl s342 C1 (.here) fun z347a iq348 hq348 H mz347 sq348 => ?_)
   have s349 := (sq348.pick A8).tail
   obtain ⟨z347, rfl, hz347⟩ := Ax (l := [4, 5, 7]) (lo := 4) (hi := 7) mz347 (by decide)
   have s350 := s349.ofShs Co
   exact tl68 x46 x47 z347 y322.fId iq348 hq348 _ lx46 lx47 (s350.sel (.cons (.here) (.cons D0 (.cons (.here) (.cons A8 (.cons D0 Ij))))))
   refine Gd.bothE ?_ ?_
   refine Ds hcode (by omega) (by omega) rfl s342 C1 (.here) fun z351a iq352 hq352 H mz351 sq352 => ?_
   have s353 := (sq352.pick A8).tail
   obtain ⟨z351, rfl, hz351⟩ := Ax (l := [4, 5, 7]) (lo := 4) (hi := 7) mz351 (by decide)
   refine Af s353 C1 rfl (Bg (c := si y322.fId) s353 A8 rfl ?_)
   have s354 := s353.ofShs Co
   exact tl68 x46 x47 z351 y322.fId iq352 hq352 _ lx46 lx47 (s354.sel (.cons (.here) (.cons D0 (.cons (.here) (.cons A8 (.cons D0 Ij))))))
   refine Bg (c := si y322.fId) s342 A8 rfl (Gd.bothE ?_ ?_)
   refine Af s342 Fq rfl (Ds hcode (by omega) (by omega) rfl s342 C1 (.here) fun z355a iq356 hq356 H mz355 sq356 => ?_)
   have s357 := (sq356.pick A8).tail
   obtain ⟨z355, rfl, hz355⟩ := Ax (l := [4, 5, 7]) (lo := 4) (hi := 7) mz355 (by decide)
   have s358 := s357.ofShs Co
   exact tl68 x46 x47 z355 y322.fId iq356 hq356 _ lx46 lx47 (s358.sel (.cons (.here) (.cons D0 (.cons (.here) (.cons A8 (.cons D0 Ij))))))
   refine Ds hcode (by omega) (by omega) rfl s342 C1 (.here) fun z359a iq360 hq360 H mz359 sq360 => ?_
   have s361 := (sq360.pick A8).tail
   obtain ⟨z359, rfl, hz359⟩ := Ax (l := [4, 5, 7]) (lo := 4) (hi := 7) mz359 (by decide)
   refine Af s361 C1 rfl ?_
   have s362 := s361.ofShs Co
   exact tl68 x46 x47 z359 y322.fId iq360 hq360 _ lx46 lx47 (s362.sel (.cons (.here) (.cons D0 (.cons (.here) (.cons A8 (.cons D0 Ij))))))
   refine Bg (c := si y322.fId) s324 (.here) rfl (Gd.bothE ?_ ?_)
   refine Af s324 C1 rfl (Bp (cs := [si 4, si 5, si 7]) rfl (Bw s324 fun i363 H s364 => Ds hcode (by omega) (by omega) rfl s364 C1 (.here) fun z365a iq366 hq366 H mz365 sq366 => ?_))
   have s367 := (sq366.pick A8).tail
   obtain ⟨z365, rfl, hz365⟩ := Ax (l := [4, 5, 7]) (lo := 4) (hi := 7) mz365 (by decide)
   have s368 := s367.ofShs Co
   exact tl68 x46 x47 z365 y322.fId iq366 hq366 _ lx46 lx47 (s368.sel (.cons (.here) (.cons D0 (.cons (.here) (.cons A8 (.cons D0 Ij))))))
   refine Bp (cs := [si 4, si 5, si 7]) rfl (Bw s324 fun i369 H s370 => Gd.bothE ?_ ?_)
   refine Af s370 Fq rfl (Ds hcode (by omega) (by omega) rfl s370 C1 (.here) fun z371a iq372 hq372 H mz371 sq372 => ?_)
   have s373 := (sq372.pick A8).tail
   obtain ⟨z371, rfl, hz371⟩ := Ax (l := [4, 5, 7]) (lo := 4) (hi := 7) mz371 (by decide)
   have s374 := s373.ofShs Co
   exact tl68 x46 x47 z371 y322.fId iq372 hq372 _ lx46 lx47 (s374.sel (.cons (.here) (.cons D0 (.cons (.here) (.cons A8 (.cons D0 Ij))))))
   refine Ds hcode (by omega) (by omega) rfl s370 C1 (.here) fun z375a iq376 hq376 H mz375 sq376 => ?_
   have s377 := (sq376.pick A8).tail
   obtain ⟨z375, rfl, hz375⟩ := Ax (l := [4, 5, 7]) (lo := 4) (hi := 7) mz375 (by decide)
   refine Af s377 C1 rfl ?_
   have s378 := s377.ofShs Co
   exact tl68 x46 x47 z375 y322.fId iq376 hq376 _ lx46 lx47 (s378.sel (.cons (.here) (.cons D0 (.cons (.here) (.cons A8 (.cons D0 Ij))))))
   refine Cj h53 (T8 (by omega) (by omega) ?_)
   have e379 : OutB 80 (⟨(Ae m2).fLast, ((Ae m2).fFl), ((Ae m2).fQ)⟩ : Bs) ∧ j ≤ 5 := by
    refine ⟨?_, by omega⟩; first | exact hinv.1 | exact Jq hinv.1 | exact Z9 (Jq hinv.1) | (apply Ez <;> first | assumption | omega | (unfold Do; omega) | (intro z hz; cases hz; done) | (show 0 + _ ≤ _; omega))
   exact ih m _ (⟨(Ae m2).fLast, ((Ae m2).fFl), ((Ae m2).fQ)⟩ : Bs) x46 x47 iq52 hq52 _ (by omega) (by omega) lx46 lx47 e379 (sq52.sel (.cons D0 (.cons zP8 (.cons (.here) (.cons (.here) (.cons zP8 zS8))))))
   refine D9 h50 (D9 h50 (Is h50 (Cj rfl (T8 (by omega) (by omega) ?_))))
   have e380 : OutB 80 (⟨(Ae m2).fLast, ((Ae m2).fFl), ((Ae m2).fQ)⟩ : Bs) ∧ j ≤ 5 := by
    refine ⟨?_, by omega⟩; first | exact hinv.1 | exact Jq hinv.1 | exact Z9 (Jq hinv.1) | (apply Ez <;> first | assumption | omega | (unfold Do; omega) | (intro z hz; cases hz; done) | (show 0 + _ ≤ _; omega))
   exact ih m _ (⟨(Ae m2).fLast, ((Ae m2).fFl), ((Ae m2).fQ)⟩ : Bs) x46 x47 i h _ (by omega) (by omega) lx46 lx47 e380 (s49.sel (.cons zP8 (.cons Qs (.cons D0 (.cons (.here) (.cons zP8 zS8))))))
 have s381 := sq15.nl (ty := 24) ⟨_, _, rfl, rfl⟩
 have e382 : OutB 80 (⟨z5, [], r11⟩ : Bs) ∧ (z14).toNat ≤ 5 := by
  refine ⟨?_, by omega⟩; first | exact hinv.1 | exact Jq hinv.1 | exact Z9 (Jq hinv.1) | (apply Ez <;> first | assumption | omega | (unfold Do; omega) | (intro z hz; cases hz; done) | (show 0 + _ ≤ _; omega))
 exact lp16 (z14).toNat _ _ (⟨z5, [], r11⟩ : Bs) .nl r11x iq15 hq15 _ (by omega) (by omega) rfl lr11x e382 (s381.sel (.cons (.here) (.cons Co (.cons (.here) (.cons (.here) (.cons (.here) .rest))))))
theorem Agi (n : Nat) (hn : 1048576 < n) (code : ByteArray) (hcode : code.size ≤ 1048576) (c i : Nat) (h : Int)   {β : Type} {r : Option β} {KH : KO β} {H : Aa} {L : List Ck} (s0 : Sep H (Cr c code i h :: L)) (hk : ∀ (r0 : Bs) (r0x1 : AV) (r0x2 : AV) (i' : Nat) (h' : Int) (H' : Aa), (Al r0x1 = true) → (Al r0x2 = true) → (OutB 400 r0) → Sep H' (.own r0x1 24 (Aj Aq r0.fFl) :: .own r0x2 25 (Aj Ag r0.fQ) :: Cr c code i' h' :: L) → Gd (· = r) (KH (.agg [.sc (.int .i64 r0.fLast), r0x1, r0x2]) H')) : Gd (· = r) (Dm E0 (n + 18) β 41 [.ptr c 0] H fun x H => KH x H) := by
 rw [AhO, f41]
 try simp only [Cf, Ba, Bk, A2, A9, A4, At, Bm, Bq, Be, Cg]
 refine Dz s0 fun i1 H s2 => Gv rfl rfl (R8 _ (by omega) code hcode c i h   (s2.pick A8) fun r3 r3x1 r3x2 iq4 hq4 H lr3x1 lr3x2 hr3 sq4 => ?_)
 have kr3 := hr3
 obtain ⟨⟨oar3, obr3, ocr3⟩, wr3⟩ := kr3
 have gr3 := Mn hr3
 refine Dz sq4 fun i5 H s6 => Bt (cs' := [si r3.fLast, r3x1, r3x2]) s6 (.here) (Ac (Ab rfl (Ab lr3x1 (Ab lr3x2 rfl)))) rfl (Bd rfl) rfl fun H s7 => Fx (m := 14) hcode (by omega) s7 C1 fun z8 iq9 hq9 H hz8 sq9 => ?_
 replace hz8 : 0 ≤ z8 ∧ z8 < 14 := by omega
 refine Cb (Ad ((decide (z8 = 0))) (fun h10 => ?_) fun h10 => ?_)
 refine Dd h10 (Bp (cs := [si (-1), si 65536]) rfl (Bw sq9 fun i11 H s12 => Ds hcode (by omega) (by omega) rfl s12 A8 (.here) fun z13a iq14 hq14 H mz13 sq14 => ?_))
 have s15 := (sq14.pick A8).tail
 obtain ⟨z13, rfl, hz13⟩ := Ax (l := [(-1), 65536]) (lo := -1) (hi := 65536) mz13 (by decide)
 refine Am (o' := 0) rfl (C6 s15 A8 rfl rfl fun H s16 => Af s16 (.here) rfl (Bt (cs' := [si z13, r3x1, r3x2]) s16 Fq (Ac (Ab rfl (Ab lr3x1 (Ab lr3x2 rfl)))) rfl (Bd rfl) rfl fun H s17 => Af s17 (.here) rfl ?_))
 have e18 : OutB 400 (⟨z13, r3.fFl, r3.fQ⟩ : Bs) := by
  apply Ez <;> first | assumption | omega | (unfold Do; omega) | (refine zaz.2 ⟨by assumption, ?_⟩; intro z hz; simp only [zav, zay, or_false] at hz; rcases hz with rfl | rfl <;> (simp only [B3, Ce, Hz, Do]; decide)) | (rw [Fd]; exact za2 (za8 (zaC (by decide : Fp Au _ ≤ 4) _) _) (by omega))
 exact hk (⟨z13, r3.fFl, r3.fQ⟩ : Bs) r3x1 r3x2 iq14 hq14 _ lr3x1 lr3x2 e18 (s17.sel (.cons C1 (.cons C1 (.cons Co Q8))))
 refine Cj h10 (Cb (Ad ((decide (z8 = 1))) (fun h19 => ?_) fun h19 => ?_))
 refine Dd h19 (Gv rfl rfl (AbU _ (by omega) code hcode c iq9 hq9   (sq9.pick (.here)) fun r20 r20x iq21 hq21 H lr20x hr20 sq21 => ?_))
 obtain ⟨or20, wr20⟩ := hr20
 have gr20 := I7 Bc r20
 refine Am (o' := 2) rfl (C6 sq21 Co lr20x rfl fun H s22 => Af s22 (.here) rfl (Bt (cs' := [si r3.fLast, r3x1, r20x]) s22 Jg (Ac (Ab rfl (Ab lr3x1 (Ab lr20x rfl)))) rfl (Bd rfl) rfl fun H s23 => Af s23 (.here) rfl ?_))
 have e24 : OutB 400 (⟨r3.fLast, r3.fFl, r20⟩ : Bs) := by
  apply Ez <;> first | assumption | omega | (unfold Do; omega) | (refine zaz.2 ⟨by assumption, ?_⟩; intro z hz; simp only [zav, zay, or_false] at hz; rcases hz with rfl | rfl <;> (simp only [B3, Ce, Hz, Do]; decide)) | (rw [Fd]; exact za2 (za8 (zaC (by decide : Fp Au _ ≤ 4) _) _) (by omega))
 exact hk (⟨r3.fLast, r3.fFl, r20⟩ : Bs) r3x1 r20x iq21 hq21 _ lr3x1 lr20x e24 (s23.sel (.cons Fq (.cons Co (.cons Co zS3))))
 refine Cj h19 (Cb (Ad ((decide (z8 = 2))) (fun h25 => ?_) fun h25 => ?_))
 refine Dd h25 (Am (o' := 1) rfl (Bg (c := r3x1) sq9 A8 rfl (Ic sq9 Co (Mf (Ad ((decide (0 < ((r3.fFl.length : Nat) : Int)))) (fun h26 => ?_) fun h26 => ?_)))))
 refine Dd h26 (Am (o' := 1) rfl (Gd.bothE ?_ ?_))
 refine Bg (c := r3x1) sq9 A8 rfl (Bp (cs := [i0, si 1, si 2, si 65536]) rfl (Bw sq9 fun i27 H s28 => Ds hcode (by omega) (by omega) rfl s28 A8 (.here) fun z29a iq30 hq30 H mz29 sq30 => ?_))
 have s31 := (sq30.pick A8).tail
 obtain ⟨z29, rfl, hz29⟩ := Ax (l := [0, 1, 2, 65536]) (lo := 0) (hi := 65536) mz29 (by decide)
 obtain ⟨y33, he32⟩ : ∃ y, (r3.fFl)[(0 : Int).toNat]? = some y := ⟨_, zas (by first | omega | (simp at *; omega))⟩
 refine Kh (y := y33) (y' := ({ y33 with fId := z29 } : Ah)) (k := 0) (v := (.int .i64 y33.fId)) s31 ⟨_, _, rfl, rfl, rfl, rfl⟩ Co (by omega) he32 Bf (by omega) rfl rfl rfl fun H s34 => ?_
 have he32sy := Ml (p := B3) obr3 he32
 have he32sw := Jf Au (r3.fFl) (0 : Int).toNat y33 ({ y33 with fId := z29 } : Ah) he32
 have he32sv : Au ({ y33 with fId := z29 } : Ah) = Au y33 ∨ Au ({ y33 with fId := z29 } : Ah) ≤ 102 := by first | exact .inl rfl | (right; show Bc _ + 0 ≤ 102; omega)
 have he32so : B3 ({ y33 with fId := z29 } : Ah) := ⟨by first | exact he32sy.1 | (simp only [Do]; omega), by first | exact he32sy.2.1 | assumption, by first | exact he32sy.2.2 | (simp only [Do]; omega)⟩
 have he32sa := J7 (p := B3) (i := (0 : Int).toNat) obr3 he32so
 refine Af s34 Co rfl (Bt (cs' := [si r3.fLast, r3x1, r3x2]) s34 Fq (Ac (Ab rfl (Ab lr3x1 (Ab lr3x2 rfl)))) rfl (Bd rfl) rfl fun H s35 => Af s35 (.here) rfl ?_)
 have e36 : OutB 400 (⟨r3.fLast, (r3.fFl.set (0 : Int).toNat ({ y33 with fId := z29 } : Ah)), r3.fQ⟩ : Bs) := by
  apply Ez <;> first | assumption | omega | (unfold Do; omega) | (refine zaz.2 ⟨by assumption, ?_⟩; intro z hz; simp only [zav, zay, or_false] at hz; rcases hz with rfl | rfl <;> (simp only [B3, Ce, Hz, Do]; decide)) | (rw [Fd]; exact za2 (za8 (zaC (by decide : Fp Au _ ≤ 4) _) _) (by omega))
 exact hk (⟨r3.fLast, (r3.fFl.set (0 : Int).toNat ({ y33 with fId := z29 } : Ah)), r3.fQ⟩ : Bs) r3x1 r3x2 iq30 hq30 _ lr3x1 lr3x2 e36 (s35.sel (.cons A8 (.cons C1 (.cons A8 Q8))))
 refine Bp (cs := [i0, si 1, si 2, si 65536]) rfl (Bw sq9 fun i37 H s38 => Gd.bothE ?_ ?_)
 refine Bg (c := r3x1) s38 Co rfl (Ds hcode (by omega) (by omega) rfl s38 A8 (.here) fun z39a iq40 hq40 H mz39 sq40 => ?_)
 have s41 := (sq40.pick A8).tail
 obtain ⟨z39, rfl, hz39⟩ := Ax (l := [0, 1, 2, 65536]) (lo := 0) (hi := 65536) mz39 (by decide)
 obtain ⟨y43, he42⟩ : ∃ y, (r3.fFl)[(0 : Int).toNat]? = some y := ⟨_, zas (by first | omega | (simp at *; omega))⟩
 refine Kh (y := y43) (y' := ({ y43 with fId := z39 } : Ah)) (k := 0) (v := (.int .i64 y43.fId)) s41 ⟨_, _, rfl, rfl, rfl, rfl⟩ Co (by omega) he42 Bf (by omega) rfl rfl rfl fun H s44 => ?_
 have he42sy := Ml (p := B3) obr3 he42
 have he42sw := Jf Au (r3.fFl) (0 : Int).toNat y43 ({ y43 with fId := z39 } : Ah) he42
 have he42sv : Au ({ y43 with fId := z39 } : Ah) = Au y43 ∨ Au ({ y43 with fId := z39 } : Ah) ≤ 102 := by first | exact .inl rfl | (right; show Bc _ + 0 ≤ 102; omega)
 have he42so : B3 ({ y43 with fId := z39 } : Ah) := ⟨by first | exact he42sy.1 | (simp only [Do]; omega), by first | exact he42sy.2.1 | assumption, by first | exact he42sy.2.2 | (simp only [Do]; omega)⟩
 have he42sa := J7 (p := B3) (i := (0 : Int).toNat) obr3 he42so
 refine Af s44 Co rfl (Bt (cs' := [si r3.fLast, r3x1, r3x2]) s44 Fq (Ac (Ab rfl (Ab lr3x1 (Ab lr3x2 rfl)))) rfl (Bd rfl) rfl fun H s45 => Af s45 (.here) rfl ?_)
 have e46 : OutB 400 (⟨r3.fLast, (r3.fFl.set (0 : Int).toNat ({ y43 with fId := z39 } : Ah)), r3.fQ⟩ : Bs) := by
  apply Ez <;> first | assumption | omega | (unfold Do; omega) | (refine zaz.2 ⟨by assumption, ?_⟩; intro z hz; simp only [zav, zay, or_false] at hz; rcases hz with rfl | rfl <;> (simp only [B3, Ce, Hz, Do]; decide)) | (rw [Fd]; exact za2 (za8 (zaC (by decide : Fp Au _ ≤ 4) _) _) (by omega))
 exact hk (⟨r3.fLast, (r3.fFl.set (0 : Int).toNat ({ y43 with fId := z39 } : Ah)), r3.fQ⟩ : Bs) r3x1 r3x2 iq40 hq40 _ lr3x1 lr3x2 e46 (s45.sel (.cons A8 (.cons C1 (.cons A8 Q8))))
 refine Ds hcode (by omega) (by omega) rfl s38 A8 (.here) fun z47a iq48 hq48 H mz47 sq48 => ?_
 have s49 := (sq48.pick A8).tail
 obtain ⟨z47, rfl, hz47⟩ := Ax (l := [0, 1, 2, 65536]) (lo := 0) (hi := 65536) mz47 (by decide)
 refine Bg (c := r3x1) s49 A8 rfl ?_
 obtain ⟨y51, he50⟩ : ∃ y, (r3.fFl)[(0 : Int).toNat]? = some y := ⟨_, zas (by first | omega | (simp at *; omega))⟩
 refine Kh (y := y51) (y' := ({ y51 with fId := z47 } : Ah)) (k := 0) (v := (.int .i64 y51.fId)) s49 ⟨_, _, rfl, rfl, rfl, rfl⟩ Co (by omega) he50 Bf (by omega) rfl rfl rfl fun H s52 => ?_
 have he50sy := Ml (p := B3) obr3 he50
 have he50sw := Jf Au (r3.fFl) (0 : Int).toNat y51 ({ y51 with fId := z47 } : Ah) he50
 have he50sv : Au ({ y51 with fId := z47 } : Ah) = Au y51 ∨ Au ({ y51 with fId := z47 } : Ah) ≤ 102 := by first | exact .inl rfl | (right; show Bc _ + 0 ≤ 102; omega)
 have he50so : B3 ({ y51 with fId := z47 } : Ah) := ⟨by first | exact he50sy.1 | (simp only [Do]; omega), by first | exact he50sy.2.1 | assumption, by first | exact he50sy.2.2 | (simp only [Do]; omega)⟩
 have he50sa := J7 (p := B3) (i := (0 : Int).toNat) obr3 he50so
 refine Af s52 Co rfl (Bt (cs' := [si r3.fLast, r3x1, r3x2]) s52 Fq (Ac (Ab rfl (Ab lr3x1 (Ab lr3x2 rfl)))) rfl (Bd rfl) rfl fun H s53 => Af s53 (.here) rfl ?_)
 have e54 : OutB 400 (⟨r3.fLast, (r3.fFl.set (0 : Int).toNat ({ y51 with fId := z47 } : Ah)), r3.fQ⟩ : Bs) := by
  apply Ez <;> first | assumption | omega | (unfold Do; omega) | (refine zaz.2 ⟨by assumption, ?_⟩; intro z hz; simp only [zav, zay, or_false] at hz; rcases hz with rfl | rfl <;> (simp only [B3, Ce, Hz, Do]; decide)) | (rw [Fd]; exact za2 (za8 (zaC (by decide : Fp Au _ ≤ 4) _) _) (by omega))
 exact hk (⟨r3.fLast, (r3.fFl.set (0 : Int).toNat ({ y51 with fId := z47 } : Ah)), r3.fQ⟩ : Bs) r3x1 r3x2 iq48 hq48 _ lr3x1 lr3x2 e54 (s53.sel (.cons A8 (.cons C1 (.cons A8 Q8))))
 refine Cj h26 (Af sq9 A8 rfl (Bt (cs' := [si r3.fLast, r3x1, r3x2]) sq9 Fq (Ac (Ab rfl (Ab lr3x1 (Ab lr3x2 rfl)))) rfl (Bd rfl) rfl fun H s55 => Af s55 (.here) rfl ?_))
 have e56 : OutB 400 (r3 : Bs) := by
  apply Ez <;> first | assumption | omega | (unfold Do; omega) | (refine zaz.2 ⟨by assumption, ?_⟩; intro z hz; simp only [zav, zay, or_false] at hz; rcases hz with rfl | rfl <;> (simp only [B3, Ce, Hz, Do]; decide)) | (rw [Fd]; exact za2 (za8 (zaC (by decide : Fp Au _ ≤ 4) _) _) (by omega))
 exact hk (r3 : Bs) r3x1 r3x2 iq9 hq9 _ lr3x1 lr3x2 e56 (s55.sel (.cons C1 (.cons C1 (.cons A8 Q8))))
 refine Cj h25 (Cb (Ad ((decide (z8 = 3))) (fun h57 => ?_) fun h57 => ?_))
 refine Dd h57 (Am (o' := 1) rfl (Bg (c := r3x1) sq9 A8 rfl (Ic sq9 Co (Mf (Ad ((decide (0 < ((r3.fFl.length : Nat) : Int)))) (fun h58 => ?_) fun h58 => ?_)))))
 refine Dd h58 (Am (o' := 1) rfl (Gd.bothE ?_ ?_))
 refine Bg (c := r3x1) sq9 A8 rfl (Bp (cs := [i0, si 1, si 2, si 3, si 4]) rfl (Bw sq9 fun i59 H s60 => Ds hcode (by omega) (by omega) rfl s60 A8 (.here) fun z61a iq62 hq62 H mz61 sq62 => ?_))
 have s63 := (sq62.pick A8).tail
 obtain ⟨z61, rfl, hz61⟩ := Ax (l := [0, 1, 2, 3, 4]) (lo := 0) (hi := 4) mz61 (by decide)
 obtain ⟨y65, he64⟩ : ∃ y, (r3.fFl)[(0 : Int).toNat]? = some y := ⟨_, zas (by first | omega | (simp at *; omega))⟩
 refine Kh (y := y65) (y' := ({ y65 with fSt := z61 } : Ah)) (k := 5) (v := (.int .i64 y65.fSt)) s63 ⟨_, _, rfl, rfl, rfl, rfl⟩ Co (by omega) he64 Bf (by omega) rfl rfl rfl fun H s66 => ?_
 have he64sy := Ml (p := B3) obr3 he64
 have he64sw := Jf Au (r3.fFl) (0 : Int).toNat y65 ({ y65 with fSt := z61 } : Ah) he64
 have he64sv : Au ({ y65 with fSt := z61 } : Ah) = Au y65 ∨ Au ({ y65 with fSt := z61 } : Ah) ≤ 102 := by first | exact .inl rfl | (right; show Bc _ + 0 ≤ 102; omega)
 have he64so : B3 ({ y65 with fSt := z61 } : Ah) := ⟨by first | exact he64sy.1 | (simp only [Do]; omega), by first | exact he64sy.2.1 | assumption, by first | exact he64sy.2.2 | (simp only [Do]; omega)⟩
 have he64sa := J7 (p := B3) (i := (0 : Int).toNat) obr3 he64so
 refine Af s66 Co rfl (Bt (cs' := [si r3.fLast, r3x1, r3x2]) s66 Fq (Ac (Ab rfl (Ab lr3x1 (Ab lr3x2 rfl)))) rfl (Bd rfl) rfl fun H s67 => Af s67 (.here) rfl ?_)
 have e68 : OutB 400 (⟨r3.fLast, (r3.fFl.set (0 : Int).toNat ({ y65 with fSt := z61 } : Ah)), r3.fQ⟩ : Bs) := by
  apply Ez <;> first | assumption | omega | (unfold Do; omega) | (refine zaz.2 ⟨by assumption, ?_⟩; intro z hz; simp only [zav, zay, or_false] at hz; rcases hz with rfl | rfl <;> (simp only [B3, Ce, Hz, Do]; decide)) | (rw [Fd]; exact za2 (za8 (zaC (by decide : Fp Au _ ≤ 4) _) _) (by omega))
 exact hk (⟨r3.fLast, (r3.fFl.set (0 : Int).toNat ({ y65 with fSt := z61 } : Ah)), r3.fQ⟩ : Bs) r3x1 r3x2 iq62 hq62 _ lr3x1 lr3x2 e68 (s67.sel (.cons A8 (.cons C1 (.cons A8 Q8))))
 refine Bp (cs := [i0, si 1, si 2, si 3, si 4]) rfl (Bw sq9 fun i69 H s70 => Gd.bothE ?_ ?_)
 refine Bg (c := r3x1) s70 Co rfl (Ds hcode (by omega) (by omega) rfl s70 A8 (.here) fun z71a iq72 hq72 H mz71 sq72 => ?_)
 have s73 := (sq72.pick A8).tail
 obtain ⟨z71, rfl, hz71⟩ := Ax (l := [0, 1, 2, 3, 4]) (lo := 0) (hi := 4) mz71 (by decide)
 obtain ⟨y75, he74⟩ : ∃ y, (r3.fFl)[(0 : Int).toNat]? = some y := ⟨_, zas (by first | omega | (simp at *; omega))⟩
 refine Kh (y := y75) (y' := ({ y75 with fSt := z71 } : Ah)) (k := 5) (v := (.int .i64 y75.fSt)) s73 ⟨_, _, rfl, rfl, rfl, rfl⟩ Co (by omega) he74 Bf (by omega) rfl rfl rfl fun H s76 => ?_
 have he74sy := Ml (p := B3) obr3 he74
 have he74sw := Jf Au (r3.fFl) (0 : Int).toNat y75 ({ y75 with fSt := z71 } : Ah) he74
 have he74sv : Au ({ y75 with fSt := z71 } : Ah) = Au y75 ∨ Au ({ y75 with fSt := z71 } : Ah) ≤ 102 := by first | exact .inl rfl | (right; show Bc _ + 0 ≤ 102; omega)
 have he74so : B3 ({ y75 with fSt := z71 } : Ah) := ⟨by first | exact he74sy.1 | (simp only [Do]; omega), by first | exact he74sy.2.1 | assumption, by first | exact he74sy.2.2 | (simp only [Do]; omega)⟩
 have he74sa := J7 (p := B3) (i := (0 : Int).toNat) obr3 he74so
 refine Af s76 Co rfl (Bt (cs' := [si r3.fLast, r3x1, r3x2]) s76 Fq (Ac (Ab rfl (Ab lr3x1 (Ab lr3x2 rfl)))) rfl (Bd rfl) rfl fun H s77 => Af s77 (.here) rfl ?_)
 have e78 : OutB 400 (⟨r3.fLast, (r3.fFl.set (0 : Int).toNat ({ y75 with fSt := z71 } : Ah)), r3.fQ⟩ : Bs) := by
  apply Ez <;> first | assumption | omega | (unfold Do; omega) | (refine zaz.2 ⟨by assumption, ?_⟩; intro z hz; simp only [zav, zay, or_false] at hz; rcases hz with rfl | rfl <;> (simp only [B3, Ce, Hz, Do]; decide)) | (rw [Fd]; exact za2 (za8 (zaC (by decide : Fp Au _ ≤ 4) _) _) (by omega))
 exact hk (⟨r3.fLast, (r3.fFl.set (0 : Int).toNat ({ y75 with fSt := z71 } : Ah)), r3.fQ⟩ : Bs) r3x1 r3x2 iq72 hq72 _ lr3x1 lr3x2 e78 (s77.sel (.cons A8 (.cons C1 (.cons A8 Q8))))
 refine Ds hcode (by omega) (by omega) rfl s70 A8 (.here) fun z79a iq80 hq80 H mz79 sq80 => ?_
 have s81 := (sq80.pick A8).tail
 obtain ⟨z79, rfl, hz79⟩ := Ax (l := [0, 1, 2, 3, 4]) (lo := 0) (hi := 4) mz79 (by decide)
 refine Bg (c := r3x1) s81 A8 rfl ?_
 obtain ⟨y83, he82⟩ : ∃ y, (r3.fFl)[(0 : Int).toNat]? = some y := ⟨_, zas (by first | omega | (simp at *; omega))⟩
 refine Kh (y := y83) (y' := ({ y83 with fSt := z79 } : Ah)) (k := 5) (v := (.int .i64 y83.fSt)) s81 ⟨_, _, rfl, rfl, rfl, rfl⟩ Co (by omega) he82 Bf (by omega) rfl rfl rfl fun H s84 => ?_
 have he82sy := Ml (p := B3) obr3 he82
 have he82sw := Jf Au (r3.fFl) (0 : Int).toNat y83 ({ y83 with fSt := z79 } : Ah) he82
 have he82sv : Au ({ y83 with fSt := z79 } : Ah) = Au y83 ∨ Au ({ y83 with fSt := z79 } : Ah) ≤ 102 := by first | exact .inl rfl | (right; show Bc _ + 0 ≤ 102; omega)
 have he82so : B3 ({ y83 with fSt := z79 } : Ah) := ⟨by first | exact he82sy.1 | (simp only [Do]; omega), by first | exact he82sy.2.1 | assumption, by first | exact he82sy.2.2 | (simp only [Do]; omega)⟩
 have he82sa := J7 (p := B3) (i := (0 : Int).toNat) obr3 he82so
 refine Af s84 Co rfl (Bt (cs' := [si r3.fLast, r3x1, r3x2]) s84 Fq (Ac (Ab rfl (Ab lr3x1 (Ab lr3x2 rfl)))) rfl (Bd rfl) rfl fun H s85 => Af s85 (.here) rfl ?_)
 have e86 : OutB 400 (⟨r3.fLast, (r3.fFl.set (0 : Int).toNat ({ y83 with fSt := z79 } : Ah)), r3.fQ⟩ : Bs) := by
  apply Ez <;> first | assumption | omega | (unfold Do; omega) | (refine zaz.2 ⟨by assumption, ?_⟩; intro z hz; simp only [zav, zay, or_false] at hz; rcases hz with rfl | rfl <;> (simp only [B3, Ce, Hz, Do]; decide)) | (rw [Fd]; exact za2 (za8 (zaC (by decide : Fp Au _ ≤ 4) _) _) (by omega))
 exact hk (⟨r3.fLast, (r3.fFl.set (0 : Int).toNat ({ y83 with fSt := z79 } : Ah)), r3.fQ⟩ : Bs) r3x1 r3x2 iq80 hq80 _ lr3x1 lr3x2 e86 (s85.sel (.cons A8 (.cons C1 (.cons A8 Q8))))
 refine Cj h58 (Af sq9 A8 rfl (Bt (cs' := [si r3.fLast, r3x1, r3x2]) sq9 Fq (Ac (Ab rfl (Ab lr3x1 (Ab lr3x2 rfl)))) rfl (Bd rfl) rfl fun H s87 => Af s87 (.here) rfl ?_))
 have e88 : OutB 400 (r3 : Bs) := by
  apply Ez <;> first | assumption | omega | (unfold Do; omega) | (refine zaz.2 ⟨by assumption, ?_⟩; intro z hz; simp only [zav, zay, or_false] at hz; rcases hz with rfl | rfl <;> (simp only [B3, Ce, Hz, Do]; decide)) | (rw [Fd]; exact za2 (za8 (zaC (by decide : Fp Au _ ≤ 4) _) _) (by omega))
 exact hk (r3 : Bs) r3x1 r3x2 iq9 hq9 _ lr3x1 lr3x2 e88 (s87.sel (.cons C1 (.cons C1 (.cons A8 Q8))))
 refine Cj h57 (Cb (Ad ((decide (z8 = 4))) (fun h89 => ?_) fun h89 => ?_))
 refine Dd h89 (Am (o' := 1) rfl (Bg (c := r3x1) sq9 A8 rfl (Ic sq9 Co (Mf (Ad ((decide (0 < ((r3.fFl.length : Nat) : Int)))) (fun h90 => ?_) fun h90 => ?_)))))
 refine Dd h90 (Am (o' := 1) rfl (Gd.bothE ?_ ?_))
 refine Bg (c := r3x1) sq9 A8 rfl (Gv rfl rfl (Lo _ (by omega) code hcode c iq9 hq9   (sq9.pick (.here)) fun r91 r91x1 iq92 hq92 H lr91x1 hr91 sq92 => ?_))
 obtain ⟨or91, wr91⟩ := hr91
 have ur91 := or91
 have vr91 := wr91
 simp only [Ce, Bc, Hz, Do, and_true, true_and] at ur91 vr91
 obtain ⟨y94, he93⟩ : ∃ y, (r3.fFl)[(0 : Int).toNat]? = some y := ⟨_, zas (by first | omega | (simp at *; omega))⟩
 refine Aef (y := y94) (y' := ({ y94 with fM := r91 } : Ah)) (k := 1) (v := 4) (cty := F1) sq92 ⟨_, _, rfl, rfl, rfl, rfl⟩ rfl C1 (.sc (.own (.here) (.sc (.sc .nil)))) ⟨trivial, ⟨(Aez r91.fBody), (Tk trivial)⟩⟩ (by omega) he93 Bf (by omega) (Ac (Ab rfl (Ab lr91x1 rfl))) rfl rfl rfl fun H s95 => ?_
 have he93sy := Ml (p := B3) obr3 he93
 have he93sw := Jf Au (r3.fFl) (0 : Int).toNat y94 ({ y94 with fM := r91 } : Ah) he93
 have he93sv : Au ({ y94 with fM := r91 } : Ah) = Au y94 ∨ Au ({ y94 with fM := r91 } : Ah) ≤ 102 := by first | exact .inl rfl | (right; show Bc _ + 0 ≤ 102; omega)
 have he93so : B3 ({ y94 with fM := r91 } : Ah) := ⟨by first | exact he93sy.1 | (simp only [Do]; omega), by first | exact he93sy.2.1 | assumption, by first | exact he93sy.2.2 | (simp only [Do]; omega)⟩
 have he93sa := J7 (p := B3) (i := (0 : Int).toNat) obr3 he93so
 refine Af s95 Co rfl (Bt (cs' := [si r3.fLast, r3x1, r3x2]) s95 Fq (Ac (Ab rfl (Ab lr3x1 (Ab lr3x2 rfl)))) rfl (Bd rfl) rfl fun H s96 => Af s96 (.here) rfl ?_)
 have e97 : OutB 400 (⟨r3.fLast, (r3.fFl.set (0 : Int).toNat ({ y94 with fM := r91 } : Ah)), r3.fQ⟩ : Bs) := by
  apply Ez <;> first | assumption | omega | (unfold Do; omega) | (refine zaz.2 ⟨by assumption, ?_⟩; intro z hz; simp only [zav, zay, or_false] at hz; rcases hz with rfl | rfl <;> (simp only [B3, Ce, Hz, Do]; decide)) | (rw [Fd]; exact za2 (za8 (zaC (by decide : Fp Au _ ≤ 4) _) _) (by omega))
 exact hk (⟨r3.fLast, (r3.fFl.set (0 : Int).toNat ({ y94 with fM := r91 } : Ah)), r3.fQ⟩ : Bs) r3x1 r3x2 iq92 hq92 _ lr3x1 lr3x2 e97 (s96.sel (.cons A8 (.cons C1 (.cons A8 Q8))))
 refine Gv rfl rfl (Lo _ (by omega) code hcode c iq9 hq9   (sq9.pick (.here)) fun r98 r98x1 iq99 hq99 H lr98x1 hr98 sq99 => ?_)
 obtain ⟨or98, wr98⟩ := hr98
 have ur98 := or98
 have vr98 := wr98
 simp only [Ce, Bc, Hz, Do, and_true, true_and] at ur98 vr98
 refine Bg (c := r3x1) sq99 Co rfl ?_
 obtain ⟨y101, he100⟩ : ∃ y, (r3.fFl)[(0 : Int).toNat]? = some y := ⟨_, zas (by first | omega | (simp at *; omega))⟩
 refine Aef (y := y101) (y' := ({ y101 with fM := r98 } : Ah)) (k := 1) (v := 4) (cty := F1) sq99 ⟨_, _, rfl, rfl, rfl, rfl⟩ rfl C1 (.sc (.own (.here) (.sc (.sc .nil)))) ⟨trivial, ⟨(Aez r98.fBody), (Tk trivial)⟩⟩ (by omega) he100 Bf (by omega) (Ac (Ab rfl (Ab lr98x1 rfl))) rfl rfl rfl fun H s102 => ?_
 have he100sy := Ml (p := B3) obr3 he100
 have he100sw := Jf Au (r3.fFl) (0 : Int).toNat y101 ({ y101 with fM := r98 } : Ah) he100
 have he100sv : Au ({ y101 with fM := r98 } : Ah) = Au y101 ∨ Au ({ y101 with fM := r98 } : Ah) ≤ 102 := by first | exact .inl rfl | (right; show Bc _ + 0 ≤ 102; omega)
 have he100so : B3 ({ y101 with fM := r98 } : Ah) := ⟨by first | exact he100sy.1 | (simp only [Do]; omega), by first | exact he100sy.2.1 | assumption, by first | exact he100sy.2.2 | (simp only [Do]; omega)⟩
 have he100sa := J7 (p := B3) (i := (0 : Int).toNat) obr3 he100so
 refine Af s102 Co rfl (Bt (cs' := [si r3.fLast, r3x1, r3x2]) s102 Fq (Ac (Ab rfl (Ab lr3x1 (Ab lr3x2 rfl)))) rfl (Bd rfl) rfl fun H s103 => Af s103 (.here) rfl ?_)
 have e104 : OutB 400 (⟨r3.fLast, (r3.fFl.set (0 : Int).toNat ({ y101 with fM := r98 } : Ah)), r3.fQ⟩ : Bs) := by
  apply Ez <;> first | assumption | omega | (unfold Do; omega) | (refine zaz.2 ⟨by assumption, ?_⟩; intro z hz; simp only [zav, zay, or_false] at hz; rcases hz with rfl | rfl <;> (simp only [B3, Ce, Hz, Do]; decide)) | (rw [Fd]; exact za2 (za8 (zaC (by decide : Fp Au _ ≤ 4) _) _) (by omega))
 exact hk (⟨r3.fLast, (r3.fFl.set (0 : Int).toNat ({ y101 with fM := r98 } : Ah)), r3.fQ⟩ : Bs) r3x1 r3x2 iq99 hq99 _ lr3x1 lr3x2 e104 (s103.sel (.cons A8 (.cons C1 (.cons A8 Q8))))
 refine Cj h90 (Af sq9 A8 rfl (Bt (cs' := [si r3.fLast, r3x1, r3x2]) sq9 Fq (Ac (Ab rfl (Ab lr3x1 (Ab lr3x2 rfl)))) rfl (Bd rfl) rfl fun H s105 => Af s105 (.here) rfl ?_))
 have e106 : OutB 400 (r3 : Bs) := by
  apply Ez <;> first | assumption | omega | (unfold Do; omega) | (refine zaz.2 ⟨by assumption, ?_⟩; intro z hz; simp only [zav, zay, or_false] at hz; rcases hz with rfl | rfl <;> (simp only [B3, Ce, Hz, Do]; decide)) | (rw [Fd]; exact za2 (za8 (zaC (by decide : Fp Au _ ≤ 4) _) _) (by omega))
 exact hk (r3 : Bs) r3x1 r3x2 iq9 hq9 _ lr3x1 lr3x2 e106 (s105.sel (.cons C1 (.cons C1 (.cons A8 Q8))))
 refine Cj h89 (Cb (Ad ((decide (z8 = 5))) (fun h107 => ?_) fun h107 => ?_))
 refine Dd h107 (Am (o' := 1) rfl (Bg (c := r3x1) sq9 A8 rfl (Bp (cs := [.sc (.string (⟨#[97]⟩)), .nl, .sc (.int .i64 1), .sc (.bool false)]) rfl (Bp (cs := [.sc (.int .i64 9), .sc (.string (⟨#[97]⟩)), .nl, .sc (.int .i64 1), .sc (.bool false), .sc (.int .i64 1)]) rfl (Bp (cs := [.sc (.string (⟨#[97]⟩)), .nl, .sc (.int .i64 2), .sc (.bool false)]) rfl (Bp (cs := [.sc (.int .i64 10), .sc (.string (⟨#[97]⟩)), .nl, .sc (.int .i64 2), .sc (.bool false), .sc (.int .i64 3)]) rfl (Bp (cs := [.sc (.int .i64 9), .sc (.string (⟨#[97]⟩)), .nl, .sc (.int .i64 1), .sc (.bool false), .sc (.int .i64 1), .sc (.int .i64 10), .sc (.string (⟨#[97]⟩)), .nl, .sc (.int .i64 2), .sc (.bool false), .sc (.int .i64 3)]) rfl (Bw sq9 fun i108 H s109 => Ai5 (q := [(⟨9, ⟨⟨#[97]⟩, ⟨#[]⟩, 1, false⟩, 1⟩ : Ah), (⟨10, ⟨⟨#[97]⟩, ⟨#[]⟩, 2, false⟩, 3⟩ : Ah)]) (cty := [3, 9, 22, 3, 4, 3]) s109 ⟨_, _, rfl, rfl, rfl, rfl⟩ C1 (O1 (.here) rfl rfl (.sc (.sc (.nl (W0 (.nl (oS3 .nil)))))) (Tk ⟨H5, (Vz ⟨H5, (tK3 trivial)⟩)⟩)) (Tk ⟨H5, (Vz ⟨H5, (tK3 trivial)⟩)⟩) (by simp only [zao, zar]; omega) fun x110 H lx110 s111 => Am (o' := 1) rfl (C6 s111 Co lx110 rfl fun H s112 => Af s112 (.here) rfl (Bt (cs' := [.sc (.int .i64 r3.fLast), x110, r3x2]) s112 Fq (Ac (Ab rfl (Ab lx110 (Ab lr3x2 rfl)))) rfl (Bd rfl) rfl fun H s113 => Af s113 (.here) rfl ?_))))))))))
 have e114 : OutB 400 (⟨r3.fLast, (r3.fFl ++ [(⟨9, ⟨⟨#[97]⟩, ⟨#[]⟩, 1, false⟩, 1⟩ : Ah), (⟨10, ⟨⟨#[97]⟩, ⟨#[]⟩, 2, false⟩, 3⟩ : Ah)]), r3.fQ⟩ : Bs) := by
  apply Ez <;> first | assumption | omega | (unfold Do; omega) | (refine zaz.2 ⟨by assumption, ?_⟩; intro z hz; simp only [zav, zay, or_false] at hz; rcases hz with rfl | rfl <;> (simp only [B3, Ce, Hz, Do]; decide)) | (rw [Fd]; exact za2 (za8 (zaC (by decide : Fp Au _ ≤ 4) _) _) (by omega))
 exact hk (⟨r3.fLast, (r3.fFl ++ [(⟨9, ⟨⟨#[97]⟩, ⟨#[]⟩, 1, false⟩, 1⟩ : Ah), (⟨10, ⟨⟨#[97]⟩, ⟨#[]⟩, 2, false⟩, 3⟩ : Ah)]), r3.fQ⟩ : Bs) x110 r3x2 iq9 hq9 _ lx110 lr3x2 e114 (s113.sel (.cons Co (.cons C1 (.cons Co Q8))))
 refine Cj h107 (Af sq9 A8 rfl (Bt (cs' := [si r3.fLast, r3x1, r3x2]) sq9 Fq (Ac (Ab rfl (Ab lr3x1 (Ab lr3x2 rfl)))) rfl (Bd rfl) rfl fun H s115 => Af s115 (.here) rfl ?_))
 have e116 : OutB 400 (r3 : Bs) := by
  apply Ez <;> first | assumption | omega | (unfold Do; omega) | (refine zaz.2 ⟨by assumption, ?_⟩; intro z hz; simp only [zav, zay, or_false] at hz; rcases hz with rfl | rfl <;> (simp only [B3, Ce, Hz, Do]; decide)) | (rw [Fd]; exact za2 (za8 (zaC (by decide : Fp Au _ ≤ 4) _) _) (by omega))
 exact hk (r3 : Bs) r3x1 r3x2 iq9 hq9 _ lr3x1 lr3x2 e116 (s115.sel (.cons C1 (.cons C1 (.cons A8 Q8))))
end
section
open Go
theorem Aew (x : Int) : (Qt x).length = 1 := rfl
theorem AaG {α β : Type} {r : Option β} {w : Nat} {enc : α → List AV} {l pre t : List α} {d : α} {K : AV → Option β} (hw : ∀ x, (enc x).length = w) (h0 : 0 < w) (hp : decide ((pre.length : Int) > 0) = true) (hl : l = pre ++ t) (hlen : l.length ≤ 1048576) (h : K (.rp (enc (pre.getLastD d) ++ (t.map enc).flatten)) = r) : Eu w (Aj enc l) (.sc (.int .i64 (IntKind.i64.wrap ((pre.length : Int) - 1)))) (fun t => K t) = r := by
 refine AgL hw h0 hp hl hlen fun y hy => ?_
 rw [show pre.getLastD d = y from by rw [List.getLastD_eq_getLast?, hy]; rfl] at h
 exact h
def Qu (l : List Int) : List Int → List Int → Bool
 | pre, [] => decide ((l.length : Int) ≤ 4)
 | pre, x :: r => (Ge x 1 65535 && !(decide ((pre.length : Int) > 0) && decide ((pre.getLastD 0) ≥ x))) && Qu l (pre ++ [x]) r
theorem Qq (n : Nat) (hn : 1048576 < n) (ty : Nat) (l : List Int) (hlen : l.length ≤ 1048576) : ∀ (r pre : List Int) (m : Nat) (H : Aa), l = pre ++ r → r.length < m → Rq (PR (n + 3) AV) (n + 3) (fun x H => A0 An E0.tp ty H x) m (Aj Qt l) (.sc (.int .i64 pre.length)) H = some (.sc (.bool (Qu l pre r)))
 | [], pre, m + 1, H, hl, hm => by
  have hlt : decide ((pre.length : Int) < (l.length : Int)) = false := by
   rw [hl]
   simp
  show (PR (n + 3) AV).len _ _ = _
  simp only [Ct, Cf, Bk, A2, A9, A4, C8, C7, Ea, At, Bi, Pr.gT, Pr.gF, Pr.hT, Pr.hF, Pr.kT, Pr.kF, Bz, Bm, C0, Bq, Dv, Cp, B8, Ba, Be, Dj, Cg, Df, Da]
  exact Dh (Av (v := .sc (.bool (decide ((pre.length : Int) < (l.length : Int))))) (fun k => rfl) (E7 hlt (Dh (Av (v := .sc (.bool (decide ((l.length : Int) ≤ 4)))) (fun k => rfl) (Dp (by (try clear ih); (try clear hlt); (try clear hix); (try clear hm); (try clear hmem); (try clear hpl); (try clear hsl); (try clear hlen); (try clear hqn); (try clear hqs); (try clear hs); (try clear B); (try clear B1); (try clear B2); (try clear hl); subst_vars; rw [Qu]; first | done | (cases h1 : Ge x 1 65535 <;> cases h2 : decide ((pre.length : Int) > 0) <;> cases h3 : decide ((pre.getLastD 0) ≥ x) <;> simp [h1, h2, h3] at * <;> first | omega | (simp_all; done) | (simp_all; omega))))))))
 | x :: r, pre, m + 1, H, hl, hm => by
  have hpl : pre.length < l.length := by rw [hl]; simp
  have hlt : decide ((pre.length : Int) < (l.length : Int)) = true := by simpa using hpl
  have hmem : x ∈ l := by rw [hl]; simp
  have hix : IntKind.i64.wrap ((pre.length : Int) + 1) = (((pre ++ [x]).length : Nat) : Int) := by
   rw [Fl _ (by omega) (by omega), zae, zal]
   rfl
  show (PR (n + 3) AV).len _ _ = _
  simp only [Ct, Cf, Bk, A2, A9, A4, C8, C7, Ea, At, Bi, Pr.gT, Pr.gF, Pr.hT, Pr.hF, Pr.kT, Pr.kF, Bz, Bm, C0, Bq, Dv, Cp, B8, Ba, Be, Dj, Cg, Df, Da]
  refine Dh (Av (v := sb (decide ((pre.length : Int) < (l.length : Int)))) (fun k => rfl) (Ey hlt (Hi Aew (by decide) hl (Hj (c := si x) rfl (De rfl (A6 (Cv _ _) (A6 (Cv _ _) (A6 (Cv _ _) Dl))) (Mj (n + 2) _ x 1 65535) (Gg ?_))))))
  apply A3 ((!(Ge x 1 65535)) || ((decide ((pre.length : Int) > 0)) && (decide ((pre.getLastD 0) ≥ x))))
  intro b1 q1
  refine Ad ((Ge x 1 65535)) (fun h1 => ?_) fun h1 => ?_
  refine Cz (nF h1) (Cz (nF h1) (Av (v := sb (decide ((pre.length : Int) > 0))) (fun k => rfl) (Cz (nF h1) ?_)))
  apply A3 ((decide ((pre.length : Int) > 0)) && (decide ((pre.getLastD 0) ≥ x)))
  intro b2 q2
  refine Ad ((decide ((pre.length : Int) > 0))) (fun h2 => ?_) fun h2 => ?_
  exact Ao h2 (Ao h2 (Ao h2 (Av (v := si (IntKind.i64.wrap ((pre.length : Int) - 1))) (fun k => rfl) (Ao h2 (AaG (d := 0) Aew (by decide) h2 hl hlen (Ao h2 (Hj (c := si (pre.getLastD 0)) rfl (Ao h2 (Ao h2 (Ao h2 (Hi Aew (by decide) hl (Ao h2 (Hj (c := si x) rfl (Ao h2 (Av (v := sb (decide ((pre.getLastD 0) ≥ x))) (fun k => rfl) (Cz (nF h1) (Ca h2 (He q2 h2) rfl)))))))))))))))))
  exact Ap h2 (Ap h2 (Ap h2 (Ap h2 (Ap h2 (Ap h2 (Ap h2 (Ap h2 (Ap h2 (Ap h2 (Cz (nF h1) (B9 h2 (Hd q2 h2) rfl)))))))))))
  intro b2 q2
  exact B9 (nF h1) (by subst q2; exact mOF q1 (nF h1)) rfl
  exact C5 (nT h1) (C5 (nT h1) (C5 (nT h1) (P3 (P3 (P3 (P3 (P3 (P3 (P3 (P3 (P3 (P3 (C5 (nT h1) (Ca (nT h1) (mOT q1 (nT h1)) rfl))))))))))))))
  intro b1 q1
  refine Ad (b1) (fun h3 => ?_) fun h3 => ?_
  ·exact Ey h3 (Dp (by (try clear ih); (try clear hlt); (try clear hix); (try clear hm); (try clear hmem); (try clear hpl); (try clear hsl); (try clear hlen); (try clear hqn); (try clear hqs); (try clear hs); (try clear B); (try clear B1); (try clear B2); (try clear hl); subst_vars; rw [Qu]; first | done | (cases h1 : Ge x 1 65535 <;> cases h2 : decide ((pre.length : Int) > 0) <;> cases h3 : decide ((pre.getLastD 0) ≥ x) <;> simp [h1, h2, h3] at * <;> first | omega | (simp_all; done) | (simp_all; omega))))
  ·refine E7 h3 (Av (v := si (IntKind.i64.wrap ((pre.length : Int) + 1))) (fun k => rfl) ?_)
   rw [hix]
   refine (Qq n hn ty l hlen r (pre ++ [x]) m _  (by rw [hl]; simp) (by simpa using hm)).trans (congrArg (fun b => some (AV.sc (Value.bool b))) ?_)
   (try clear ih); (try clear hlt); (try clear hix); (try clear hm); (try clear hmem); (try clear hpl); (try clear hsl); (try clear hlen); (try clear hqn); (try clear hqs); (try clear hs); (try clear B); (try clear B1); (try clear B2); (try clear hl); subst_vars; rw [Qu]; first | done | (cases h1 : Ge x 1 65535 <;> cases h2 : decide ((pre.length : Int) > 0) <;> cases h3 : decide ((pre.getLastD 0) ≥ x) <;> simp [h1, h2, h3] at * <;> first | omega | (simp_all; done) | (simp_all; omega))
theorem Qe (n : Nat) (hn : 1048576 < n) (ty : Nat) (l : List Int) (hlen : l.length ≤ 1048576) : ∀ (r pre : List Int) (m : Nat) (H : Aa), l = pre ++ r → r.length < m → Rp (PR (n + 3) AV) (n + 3) (fun x H => A0 An E0.tp ty H x) m (Aj Qt l) (Aj Qt l) (.sc (.int .i64 (l.length : Int))) (.sc (.int .i64 pre.length)) H = some (.sc (.bool (Qu l pre r)))
 | [], pre, m + 1, H, hl, hm => by
  have hlt : decide ((pre.length : Int) < (l.length : Int)) = false := by
   rw [hl]
   simp
  show (PR (n + 3) AV).bin _ _ _ _ = _
  simp only [Ct, Cf, Bk, A2, A9, A4, C8, C7, Ea, At, Bi, Pr.gT, Pr.gF, Pr.hT, Pr.hF, Pr.kT, Pr.kF, Bz, Bm, C0, Bq, Dv, Cp, B8, Ba, Be, Dj, Cg, Df, Da]
  exact Av (v := .sc (.bool (decide ((pre.length : Int) < (l.length : Int))))) (fun k => rfl) (E7 hlt (Dh (Av (v := .sc (.bool (decide ((l.length : Int) ≤ 4)))) (fun k => rfl) (Dp (by (try clear ih); (try clear hlt); (try clear hix); (try clear hm); (try clear hmem); (try clear hpl); (try clear hsl); (try clear hlen); (try clear hqn); (try clear hqs); (try clear hs); (try clear B); (try clear B1); (try clear B2); (try clear hl); subst_vars; rw [Qu]; first | done | (cases h1 : Ge x 1 65535 <;> cases h2 : decide ((pre.length : Int) > 0) <;> cases h3 : decide ((pre.getLastD 0) ≥ x) <;> simp [h1, h2, h3] at * <;> first | omega | (simp_all; done) | (simp_all; omega)))))))
 | x :: r, pre, m + 1, H, hl, hm => by
  have hpl : pre.length < l.length := by rw [hl]; simp
  have hlt : decide ((pre.length : Int) < (l.length : Int)) = true := by simpa using hpl
  have hmem : x ∈ l := by rw [hl]; simp
  have hix : IntKind.i64.wrap ((pre.length : Int) + 1) = (((pre ++ [x]).length : Nat) : Int) := by
   rw [Fl _ (by omega) (by omega), zae, zal]
   rfl
  show (PR (n + 3) AV).bin _ _ _ _ = _
  simp only [Ct, Cf, Bk, A2, A9, A4, C8, C7, Ea, At, Bi, Pr.gT, Pr.gF, Pr.hT, Pr.hF, Pr.kT, Pr.kF, Bz, Bm, C0, Bq, Dv, Cp, B8, Ba, Be, Dj, Cg, Df, Da]
  refine Av (v := sb (decide ((pre.length : Int) < (l.length : Int)))) (fun k => rfl) (Ey hlt (Hi Aew (by decide) hl (Hj (c := si x) rfl (De rfl (A6 (Cv _ _) Dl) (Ahh (n + 1) _ x) (Gg ?_)))))
  apply A3 ((!(Ge x 1 65535)) || ((decide ((pre.length : Int) > 0)) && (decide ((pre.getLastD 0) ≥ x))))
  intro b1 q1
  refine Ad ((Ge x 1 65535)) (fun h1 => ?_) fun h1 => ?_
  refine Cz (nF h1) (Cz (nF h1) (Av (v := sb (decide ((pre.length : Int) > 0))) (fun k => rfl) (Cz (nF h1) ?_)))
  apply A3 ((decide ((pre.length : Int) > 0)) && (decide ((pre.getLastD 0) ≥ x)))
  intro b2 q2
  refine Ad ((decide ((pre.length : Int) > 0))) (fun h2 => ?_) fun h2 => ?_
  exact Ao h2 (Ao h2 (Ao h2 (Av (v := si (IntKind.i64.wrap ((pre.length : Int) - 1))) (fun k => rfl) (Ao h2 (AaG (d := 0) Aew (by decide) h2 hl hlen (Ao h2 (Hj (c := si (pre.getLastD 0)) rfl (Ao h2 (Ao h2 (Av (v := sb (decide ((pre.getLastD 0) ≥ x))) (fun k => rfl) (Cz (nF h1) (Ca h2 (He q2 h2) rfl))))))))))))
  exact Ap h2 (Ap h2 (Ap h2 (Ap h2 (Ap h2 (Ap h2 (Ap h2 (Cz (nF h1) (B9 h2 (Hd q2 h2) rfl))))))))
  intro b2 q2
  exact B9 (nF h1) (by subst q2; exact mOF q1 (nF h1)) rfl
  exact C5 (nT h1) (C5 (nT h1) (C5 (nT h1) (P3 (P3 (P3 (P3 (P3 (P3 (P3 (C5 (nT h1) (Ca (nT h1) (mOT q1 (nT h1)) rfl)))))))))))
  intro b1 q1
  refine Ad (b1) (fun h3 => ?_) fun h3 => ?_
  ·exact Ey h3 (Dp (by (try clear ih); (try clear hlt); (try clear hix); (try clear hm); (try clear hmem); (try clear hpl); (try clear hsl); (try clear hlen); (try clear hqn); (try clear hqs); (try clear hs); (try clear B); (try clear B1); (try clear B2); (try clear hl); subst_vars; rw [Qu]; first | done | (cases h1 : Ge x 1 65535 <;> cases h2 : decide ((pre.length : Int) > 0) <;> cases h3 : decide ((pre.getLastD 0) ≥ x) <;> simp [h1, h2, h3] at * <;> first | omega | (simp_all; done) | (simp_all; omega))))
  ·refine E7 h3 (Av (v := si (IntKind.i64.wrap ((pre.length : Int) + 1))) (fun k => rfl) ?_)
   rw [hix]
   refine (Qe n hn ty l hlen r (pre ++ [x]) m _  (by rw [hl]; simp) (by simpa using hm)).trans (congrArg (fun b => some (AV.sc (Value.bool b))) ?_)
   (try clear ih); (try clear hlt); (try clear hix); (try clear hm); (try clear hmem); (try clear hpl); (try clear hsl); (try clear hlen); (try clear hqn); (try clear hqs); (try clear hs); (try clear B); (try clear B1); (try clear B2); (try clear hl); subst_vars; rw [Qu]; first | done | (cases h1 : Ge x 1 65535 <;> cases h2 : decide ((pre.length : Int) > 0) <;> cases h3 : decide ((pre.getLastD 0) ≥ x) <;> simp [h1, h2, h3] at * <;> first | omega | (simp_all; done) | (simp_all; omega))
def Te (l : List Int) : Bool := Qu l [] l
theorem AgE (n : Nat) (hn : 1048576 < n) (ty : Nat) (l : List Int) (hlen : l.length ≤ 1048576) : Cy E0 (n + 4) ty 83 [Dr l] = some (.sc (.bool (Te l))) := by
 rw [Az, Ait, f83, Ji]
 exact Qq n hn ty l hlen l [] (n + 3) [] rfl (by omega)
theorem Age (n : Nat) (hn : 1048576 < n) (ty : Nat) (l : List Int) (hlen : l.length ≤ 1048576) : Cy E0 (n + 4) ty 78 [Dr l] = some (.sc (.bool (Te l))) := by
 rw [Az, Aip, f78, Ji]
 simp only [Bm]
 exact Dh (Qe n hn ty l hlen l [] (n + 3) [] rfl (by omega))
def Nu (clean : Bool) (conn gen : Int) : Bool := if conn == -1 then (!clean && gen == 0) else (Ge conn 0 3 && decide (gen ≥ 0))
def Tf (s : ByteArray) : Bool := D8 s && !(s.toList == (⟨#[]⟩ : ByteArray).toList)
def Dc (s : B5) : Bool := Tf s.fClient && decide (s.fBorn ≥ 0) && Nu s.fClean s.fConn s.fGen && F5 s.fO && Te s.fIn
theorem E6 (s : B5) (b0 : J3 s ≤ 1048576) : s.fClient.size ≤ 1048576 ∧ D6 s.fO ≤ 1048576 ∧ s.fIn.length ≤ 1048576 := by
 unfold J3 at b0
 omega
theorem Ags (n : Nat) (ty : Nat) (s : ByteArray) (hs : s.size ≤ 1048576) : Cy E0 (n + 2) ty 76 [.sc (.string s)] = some (.sc (.bool (Tf s))) := by
 rw [Az, Ain, f76]
 try simp only [Ct, Cf, Bk, A2, A9, A4, C8, C7, Ea, At, Bi, Pr.gT, Pr.gF, Pr.hT, Pr.hF, Pr.kT, Pr.kF, Bz, Bm, C0, Bq, Dv, Cp, B8, Ba, Be, Dj, Cg, Df, Da]
 refine Zk rfl (A6 (Cv _ _) Dl) (Ua _ s (Ae0 hs)) ?_
 apply A3 ((D8 s) && (!(s.toList == (⟨#[]⟩ : ByteArray).toList)))
 intro b1 q1
 refine Ad ((D8 s)) (fun h1 => ?_) fun h1 => ?_
 exact Ao h1 (Ao h1 (Av (v := sb (!(s.toList == (⟨#[]⟩ : ByteArray).toList))) (fun k => rfl) (Ca h1 (He q1 h1) rfl)))
 exact Ap h1 (Ap h1 (B9 h1 (Hd q1 h1) rfl))
 intro b1 q1
 exact Dp (by subst_vars; rfl)
theorem AeA (n : Nat) (ty : Nat) (clean : Bool) (conn : Int) (gen : Int) : Cy E0 (n + 2) ty 77 [.sc (.bool clean), .sc (.int .i64 conn), .sc (.int .i64 gen)] = some (.sc (.bool (Nu clean conn gen))) := by
 rw [Az, Aio, f77]
 try simp only [Ct, Cf, Bk, A2, A9, A4, C8, C7, Ea, At, Bi, Pr.gT, Pr.gF, Pr.hT, Pr.hF, Pr.kT, Pr.kF, Bz, Bm, C0, Bq, Dv, Cp, B8, Ba, Be, Dj, Cg, Df, Da]
 refine Av (v := sb (conn == (-1))) (fun k => rfl) (Ad ((conn == (-1))) (fun h1 => ?_) fun h1 => ?_)
 refine Ey h1 (Gg ?_)
 apply A3 ((!clean) && (gen == 0))
 intro b2 q2
 refine Ad (clean) (fun h2 => ?_) fun h2 => ?_
 exact Ap (nF h2) (Ap (nF h2) (B9 (nF h2) (Hd q2 (nF h2)) rfl))
 exact Ao (nT h2) (Ao (nT h2) (Av (v := sb (gen == 0)) (fun k => rfl) (Ca (nT h2) (He q2 (nT h2)) rfl)))
 intro b2 q2
 exact Dp (by subst_vars; unfold Nu; simp_all)
 refine E7 h1 (De rfl (A6 (Cv _ _) (A6 (Cv _ _) (A6 (Cv _ _) Dl))) (O5 (n + 0) _ conn 0 3) ?_)
 apply A3 ((Ge conn 0 3) && (decide (gen ≥ 0)))
 intro b3 q3
 refine Ad ((Ge conn 0 3)) (fun h3 => ?_) fun h3 => ?_
 exact Ao h3 (Ao h3 (Av (v := sb (decide (gen ≥ 0))) (fun k => rfl) (Ca h3 (He q3 h3) rfl)))
 exact Ap h3 (Ap h3 (B9 h3 (Hd q3 h3) rfl))
 intro b3 q3
 exact Dp (by subst_vars; unfold Nu; simp_all)
theorem Ph (n : Nat) (hn : 1048576 < n) (ty : Nat) (s : B5) (hs : s.fClient.size ≤ 1048576) (hwo : D6 s.fO ≤ 1048576) (hin : s.fIn.length ≤ 1048576) : Cy E0 (n + 11) ty 24 [.agg (Bn s)] = some (.sc (.bool (Dc s))) := by
 rw [Az, AhH, f24]
 try simp only [Ct, Cf, Bk, A2, A9, A4, C8, C7, Ea, At, Bi, Pr.gT, Pr.gF, Pr.hT, Pr.hF, Pr.kT, Pr.kF, Bz, Bm, C0, Bq, Dv, Cp, B8, Ba, Be, Dj, Cg, Df, Da]
 refine Jv (Hw _) fun iB1 eB1 B1 => Ai (Bo (c := ss s.fClient) B1 (Bd rfl) rfl (De rfl (A6 (Cv _ _) Dl) (Ags (n + 8) _ s.fClient hs) ?_))
 apply A3 ((Tf s.fClient) && (decide (s.fBorn ≥ 0)))
 intro b2 q2
 refine Ad ((Tf s.fClient)) (fun h2 => ?_) fun h2 => ?_
 exact Ao h2 (Ai (Ao h2 (Bo (c := si s.fBorn) B1 (Bd rfl) rfl (Ao h2 (Av (v := sb (decide (s.fBorn ≥ 0))) (fun k => rfl) (Ca h2 (He q2 h2) rfl))))))
 exact Ap h2 (Ap h2 (Ap h2 (B9 h2 (Hd q2 h2) rfl)))
 intro b2 q2
 apply A3 (b2 && (Nu s.fClean s.fConn s.fGen))
 intro b3 q3
 refine Ad (b2) (fun h3 => ?_) fun h3 => ?_
 exact Ao h3 (Ai (Ao h3 (Bo (c := sb s.fClean) B1 (Bd rfl) rfl (Ao h3 (Ai (Ao h3 (Bo (c := si s.fConn) B1 (Bd rfl) rfl (Ao h3 (Ai (Ao h3 (Bo (c := si s.fGen) B1 (Bd rfl) rfl (Ao h3 (De rfl (A6 (Cv _ _) (A6 (Cv _ _) (A6 (Cv _ _) Dl))) (AeA (n + 8) _ s.fClean s.fConn s.fGen) (Ca h3 (He q3 h3) rfl))))))))))))))
 exact Ap h3 (Ap h3 (Ap h3 (Ap h3 (Ap h3 (Ap h3 (Ap h3 (B9 h3 (Hd q3 h3) rfl)))))))
 intro b3 q3
 apply A3 (b3 && (F5 s.fO))
 intro b4 q4
 refine Ad (b3) (fun h4 => ?_) fun h4 => ?_
 exact Ao h4 (Ai (Ao h4 (F6 (ds := A5 s.fO) B1 (Bd rfl) rfl (Ao h4 (De rfl (A6 (E1 _ (Gs _)) Dl) (Wt (n + 0) (by omega) _ s.fO hwo) (Ca h4 (He q4 h4) rfl))))))
 exact Ap h4 (Ap h4 (Ap h4 (B9 h4 (Hd q4 h4) rfl)))
 intro b4 q4
 apply A3 (b4 && (Te s.fIn))
 intro b5 q5
 refine Ad (b4) (fun h5 => ?_) fun h5 => ?_
 exact Ao h5 (Ai (Ao h5 (Bo (c := Dr s.fIn) B1 (Bd rfl) rfl (Ao h5 (De rfl (A6 (Ff _ _ _) Dl) (Age (n + 6) (by omega) _ s.fIn hin) (Ca h5 (He q5 h5) rfl))))))
 exact Ap h5 (Ap h5 (Ap h5 (B9 h5 (Hd q5 h5) rfl)))
 intro b5 q5
 exact Dp (by subst_vars; rfl)
theorem Py (n : Nat) (hn : 1048576 < n) (ty : Nat) (s : B5) (hs : s.fClient.size ≤ 1048576) (hwo : D6 s.fO ≤ 1048576) (hin : s.fIn.length ≤ 1048576) : Cy E0 (n + 11) ty 32 [.agg (Bn s)] = some (.sc (.bool (Dc s))) := by
 rw [Az, AhK, f32]
 try simp only [Ct, Cf, Bk, A2, A9, A4, C8, C7, Ea, At, Bi, Pr.gT, Pr.gF, Pr.hT, Pr.hF, Pr.kT, Pr.kF, Bz, Bm, C0, Bq, Dv, Cp, B8, Ba, Be, Dj, Cg, Df, Da]
 refine Jv (Hw _) fun iB1 eB1 B1 => Ai (Bo (c := si s.fConn) B1 (Bd rfl) rfl (Av (v := sb (s.fConn == (-1))) (fun k => rfl) ?_))
 apply A3 ((s.fConn == (-1)) && (s.fClean || (s.fGen != 0)))
 intro b2 q2
 refine Ad ((s.fConn == (-1))) (fun h2 => ?_) fun h2 => ?_
 refine Ao h2 (Ai (Ao h2 (Bo (c := sb s.fClean) B1 (Bd rfl) rfl (Ao h2 ?_))))
 apply A3 (s.fClean || (s.fGen != 0))
 intro b3 q3
 refine Ad (s.fClean) (fun h3 => ?_) fun h3 => ?_
 exact C5 h3 (C5 h3 (C5 h3 (Ao h2 (Ca h3 (mOT q3 h3) rfl))))
 exact Cz h3 (Ai (Cz h3 (Bo (c := si s.fGen) B1 (Bd rfl) rfl (Cz h3 (Av (v := sb (s.fGen != 0)) (fun k => rfl) (Ao h2 (B9 h3 (mOF q3 h3) rfl)))))))
 intro b3 q3
 exact Ca h2 (by subst q3; exact He q2 h2) rfl
 exact Ap h2 (Ap h2 (Ap h2 (P3 (P3 (P3 (Ap h2 (B9 h2 (Hd q2 h2) rfl)))))))
 intro b2 q2
 refine Ad (b2) (fun h4 => ?_) fun h4 => ?_
 ·exact Ey h4 (Dp (by (try clear B1); (try clear hs); (try clear hwo); (try clear hin); subst_vars; unfold Dc Tf Nu Ge; generalize F5 s.fO = o1 at *; generalize Te s.fIn = o2 at *; generalize D8 s.fClient = o3 at *; generalize (s.fClient.toList == (⟨#[]⟩ : ByteArray).toList) = o4 at *; generalize s.fClean = cl at *; generalize s.fConn = c at *; generalize s.fGen = g at *; generalize s.fBorn = bo at *; cases o1 <;> cases o2 <;> cases o3 <;> cases o4 <;> cases cl <;> (try simp) <;> (try simp at *) <;> first | done | omega | (rw [zaM]; simp; omega) | (simp_all; omega) | (by_cases hc : c = -1 <;> simp [hc] at h4 ⊢ <;> first | done | (intros; omega) | (rw [zaM]; simp; omega) | (simp_all; done) | (simp_all; omega))))
 ·refine E7 h4 (Ai (Bo (c := ss s.fClient) B1 (Bd rfl) rfl (De rfl (A6 (Cv _ _) Dl) (Uz (n + 6) (by omega) _ s.fClient) ?_)))
  apply A3 ((D8 s.fClient) && (!(s.fClient.toList == (⟨#[]⟩ : ByteArray).toList)))
  intro b5 q5
  refine Ad ((D8 s.fClient)) (fun h5 => ?_) fun h5 => ?_
  exact Ao h5 (Ai (Ao h5 (Bo (c := ss s.fClient) B1 (Bd rfl) rfl (Ao h5 (Av (v := sb (!(s.fClient.toList == (⟨#[]⟩ : ByteArray).toList))) (fun k => rfl) (Ca h5 (He q5 h5) rfl))))))
  exact Ap h5 (Ap h5 (Ap h5 (B9 h5 (Hd q5 h5) rfl)))
  intro b5 q5
  apply A3 (b5 && (decide (s.fBorn ≥ 0)))
  intro b6 q6
  refine Ad (b5) (fun h6 => ?_) fun h6 => ?_
  exact Ao h6 (Ai (Ao h6 (Bo (c := si s.fBorn) B1 (Bd rfl) rfl (Ao h6 (Av (v := sb (decide (s.fBorn ≥ 0))) (fun k => rfl) (Ca h6 (He q6 h6) rfl))))))
  exact Ap h6 (Ap h6 (Ap h6 (B9 h6 (Hd q6 h6) rfl)))
  intro b6 q6
  apply A3 (b6 && (Ge s.fConn (-1) 3))
  intro b7 q7
  refine Ad (b6) (fun h7 => ?_) fun h7 => ?_
  exact Ao h7 (Ai (Ao h7 (Bo (c := si s.fConn) B1 (Bd rfl) rfl (Ao h7 (De rfl (A6 (Cv _ _) (A6 (Cv _ _) (A6 (Cv _ _) Dl))) (Mj (n + 9) _ s.fConn (-1) 3) (Ca h7 (He q7 h7) rfl))))))
  exact Ap h7 (Ap h7 (Ap h7 (B9 h7 (Hd q7 h7) rfl)))
  intro b7 q7
  apply A3 (b7 && (decide (s.fGen ≥ 0)))
  intro b8 q8
  refine Ad (b7) (fun h8 => ?_) fun h8 => ?_
  exact Ao h8 (Ai (Ao h8 (Bo (c := si s.fGen) B1 (Bd rfl) rfl (Ao h8 (Av (v := sb (decide (s.fGen ≥ 0))) (fun k => rfl) (Ca h8 (He q8 h8) rfl))))))
  exact Ap h8 (Ap h8 (Ap h8 (B9 h8 (Hd q8 h8) rfl)))
  intro b8 q8
  apply A3 (b8 && (F5 s.fO))
  intro b9 q9
  refine Ad (b8) (fun h9 => ?_) fun h9 => ?_
  exact Ao h9 (Ai (Ao h9 (F6 (ds := A5 s.fO) B1 (Bd rfl) rfl (Ao h9 (De rfl (A6 (E1 _ (Gs _)) Dl) (Oy (n + 0) (by omega) _ s.fO hwo) (Ca h9 (He q9 h9) rfl))))))
  exact Ap h9 (Ap h9 (Ap h9 (B9 h9 (Hd q9 h9) rfl)))
  intro b9 q9
  apply A3 (b9 && (Te s.fIn))
  intro b10 q10
  refine Ad (b9) (fun h10 => ?_) fun h10 => ?_
  exact Ao h10 (Ai (Ao h10 (Bo (c := Dr s.fIn) B1 (Bd rfl) rfl (Ao h10 (De rfl (A6 (Ff _ _ _) Dl) (AgE (n + 6) (by omega) _ s.fIn hin) (Ca h10 (He q10 h10) rfl))))))
  exact Ap h10 (Ap h10 (Ap h10 (B9 h10 (Hd q10 h10) rfl)))
  intro b10 q10
  exact Dp (by (try clear B1); (try clear hs); (try clear hwo); (try clear hin); subst_vars; unfold Dc Tf Nu Ge; generalize F5 s.fO = o1 at *; generalize Te s.fIn = o2 at *; generalize D8 s.fClient = o3 at *; generalize (s.fClient.toList == (⟨#[]⟩ : ByteArray).toList) = o4 at *; generalize s.fClean = cl at *; generalize s.fConn = c at *; generalize s.fGen = g at *; generalize s.fBorn = bo at *; cases o1 <;> cases o2 <;> cases o3 <;> cases o4 <;> cases cl <;> (try simp) <;> (try simp at *) <;> first | done | omega | (rw [zaM]; simp; omega) | (simp_all; omega) | (by_cases hc : c = -1 <;> simp [hc] at h4 ⊢ <;> first | done | (intros; omega) | (rw [zaM]; simp; omega) | (simp_all; done) | (simp_all; omega)))
end
section
open Go
variable {β : Type} {n : Nat} {r : Option β}
def iv (l : List Int) : List Value := l.map fun z => .int .i64 z
theorem R6 (l : List Int) : (l.map fun z => AV.sc (.int .i64 z)) = (iv l).map AV.sc := by rw [iv, zbH]; rfl
theorem V9 (l : List Int) (hs : l.length ≤ 1048576) (H : Aa) (K : KO β) : Ha 1 8 .nl (Dr l) H K = K (.sl H.length 0 l.length 1) (H ++ [⟨l.map fun z => .sc (.int .i64 z), true, true⟩]) := by
 have e1 : Cw H 1 (Dr l) = some (l.map fun z => si z) := by
  show (if (l.map fun z => AV.sc (.int .i64 z)).length = l.length * 1 then some (l.map fun z => AV.sc (.int .i64 z)) else none) = _
  rw [if_pos (by simp)]
 have e2 : Cw H 1 .nl = some [] := rfl
 have e3 : Gn (Dr l) = some l.length := rfl
 simp only [Ha, Gn, e1, e2, L8, zab, e3]
 rw [if_pos (by omega), if_pos (by simp [Al, Kz])]
 simp only [Fi, zaw, zah]
theorem W9 {H : Aa} {id d : Nat} {l : List Int} (h : H[id]? = some ⟨l.map fun z => .sc (.int .i64 z), true, true⟩) : Bx An E0.tp H (d + 2) 39 (.sl id 0 l.length 1) = some (Dr l, [id]) := by
 rw [Ft]
 have ha : Fh H id = true := by simp only [Fh, h]
 have hr : Aw H id 0 (l.length * 1) = some (l.map fun z => si z) := by
  simp only [Aw, h, if_true, zaw, Nat.mul_one, zbz, zai, za6]
  congr 1
  exact zbi (by simp)
 obtain ⟨i, j, h1, h2, h3, h4⟩ := Z2
 simp only [h1, h2, zab, h3, if_true, ha, hr]
 have ho := Vs (ti := An) (tp := E0.tp) (H := H) (d := d) (zad l.length j.cty).flatten (iv l) (by simp [iv, h4])
 rw [R6, ho, zab, ← R6]
theorem AbP (N : Nat) (l : List Int) : Bh An E0.tp N 39 (Dr l) = (.sl N 0 l.length 1, [⟨l.map fun z => .sc (.int .i64 z), true, true⟩]) := by
 obtain ⟨i, j, h1, h2, h3, h4⟩ := Z2
 show Bh An E0.tp N 39 (.ro l.length (l.map fun z => .sc (.int .i64 z))) = _
 simp only [Bh, h1, zab, h2, za5, h3, R6, Oe]
theorem AaT (n : Nat) (l : List Int) (hs : l.length ≤ 1048576) : Cy E0 (n + 1) 39 109 [Dr l] = some (Dr l) := by
 rw [Az, Afq, f109]
 simp only [Cg]
 rw [V9 l hs, A0, W9 (d := 6) (l := l) rfl]
 rfl
def Vy (s : B5) : Prop := Ms s.fO ∧ s.fIn.length ≤ 1048576
theorem Xc {H : Aa} {s : B5} {ys : List AV} {N1 N2 m : Nat} (h1 : Cc (Bx An E0.tp H 7) Gj ys = some (A5 s.fO, zaW N1 m)) (hl : ys.length = 3) (h2 : H[N2]? = some ⟨s.fIn.map fun z => .sc (.int .i64 z), true, true⟩) (hd : N1 + m ≤ N2) :
  A0 An E0.tp 53 H (.agg ([ss s.fClient, si s.fBorn, sb s.fClean, si s.fConn, si s.fGen] ++ (ys ++ [.sl N2 0 s.fIn.length 1]))) = some (.agg (Bn s)) := by
 obtain ⟨i, hi, hc⟩ := AeN
 have h3 := W9 (d := 5) h2
 have e1 : Cc (Bx An E0.tp H 7) [39] [.sl N2 0 s.fIn.length 1] = some ([Dr s.fIn], [N2]) := by
  simp only [Cc, h3, zab, zam]
 have e2 := F8 h1 e1
 have e3 : Cc (Bx An E0.tp H 7) [9, 3, 4, 3, 3] [ss s.fClient, si s.fBorn, sb s.fClean, si s.fConn, si s.fGen] = some ([ss s.fClient, si s.fBorn, sb s.fClean, si s.fConn, si s.fGen], []) := by
  simp only [Cc, Hf, zab, zam]
 have e4 := F8 e3 e2
 have hcy : U6 = [9, 3, 4, 3, 3] ++ (Gj ++ [39]) := rfl
 rw [A0, Ek, hi, zab, hc, hcy, e4]
 simp only [zab, zah]
 rw [if_pos]
 rfl
 rw [zaJ]
 refine ⟨zaP, by simp, fun a ha b hb => ?_⟩
 rw [zaK] at ha
 rw [zbm] at hb
 omega
theorem ys3 {ys : List AV} (h : ys.length = 3) : ∃ a b c, ys = [a, b, c] := by
 match ys, h with
 | [a, b, c], _ => exact ⟨a, b, c, rfl⟩
theorem AaU (n : Nat) (hn : 1048576 < n) (s : B5) (hs : Vy s) : Cy E0 (n + 5) 53 74 [.agg (Bn s)] = some (.agg (Bn s)) := by
 rw [Az, Ail, f74]
 simp only [Ct, Cf, Bk, A2, A9, Iw]
 rw [Lc _ _ _ (Hw s)]
 simp only [zar, zah, zao, zaw]
 have hz : ([⟨[sE, i0, bF, i0, i0, i0, .nl, .nl, .nl], true, true⟩] : Aa) = [⟨Gk, true, true⟩] := rfl
 rw [hz]
 have hH : ([⟨Bn s, true, true⟩] ++ [⟨Gk, true, true⟩] : Aa)[0]? = some ⟨Bn s, true, true⟩ := rfl
 refine Ai (F6 (ds := A5 s.fO) hH (Bd rfl) rfl (Ai (Bo (c := Dr s.fIn) hH (Bd rfl) rfl ?_)))
 rw [E8 (vs := [.agg (A5 s.fO)]) rfl (A6 (E1 _ (Gs _)) Dl) (Wj n hn s.fO hs.1)]
 obtain ⟨i, hi, hc⟩ := Xv
 rw [Gi, hi, za5, hc]
 simp only
 generalize hB : Bu An E0.tp ([⟨Bn s, true, true⟩] ++ [⟨Gk, true, true⟩] : Aa).length Gj (A5 s.fO) = B
 have hBl : B.1.length = 3 := by rw [← hB, Jh]; rfl
 have hBf : B.1.all Al = true := by rw [← hB]; exact Jp _ _ _ (Gs _)
 refine Ai ?_
 rw [E8 (vs := [Dr s.fIn]) rfl (A6 (Ff _ _ _) Dl) (AaT (n + 3) s.fIn hs.2), AbP]
 simp only
 have hN : ([⟨Bn s, true, true⟩] ++ [⟨Gk, true, true⟩] ++ B.2 : Aa).length = 2 + B.2.length := by simp; omega
 rw [hN]
 obtain ⟨a, b, c, habc⟩ := ys3 hBl
 have hBc : Cq (.agg B.1) = some [a, b, c] := by
  show (if _ then _ else none) = _
  rw [if_pos hBf, habc]
 rw [Fv 3 0 (0 + 5) (.agg B.1) ⟨Bn s, true, true⟩ [a, b, c] _ _ rfl hBc rfl (Bd rfl) rfl]
 refine Ai ?_
 rw [Fv 1 0 (0 + 8) (.sl (2 + B.2.length) 0 s.fIn.length 1) ⟨Cd (Bn s) (0 + 5) [a, b, c], true, true⟩ [.sl (2 + B.2.length) 0 s.fIn.length 1] _ _ rfl rfl rfl (Bd rfl) rfl]
 refine F6 (ds := [ss s.fClient, si s.fBorn, sb s.fClean, si s.fConn, si s.fGen, a, b, c, .sl (2 + B.2.length) 0 s.fIn.length 1]) (cs := [ss s.fClient, si s.fBorn, sb s.fClean, si s.fConn, si s.fGen, a, b, c, .sl (2 + B.2.length) 0 s.fIn.length 1]) rfl (Bd rfl) rfl ?_
 have hlf : [AV.sc (.string s.fClient), si s.fBorn, sb s.fClean, si s.fConn, si s.fGen, a, b, c, .sl (2 + B.2.length) 0 s.fIn.length 1].all Al = true := by
  rw [habc] at hBf
  simp only [zaT, List.all_nil, Bool.and_true, zak] at hBf
  simp [Al, Kz] at hBf ⊢
  exact hBf
 have hcc : Cq (.agg [ss s.fClient, si s.fBorn, sb s.fClean, si s.fConn, si s.fGen, a, b, c, .sl (2 + B.2.length) 0 s.fIn.length 1]) = some [ss s.fClient, si s.fBorn, sb s.fClean, si s.fConn, si s.fGen, a, b, c, .sl (2 + B.2.length) 0 s.fIn.length 1] := by
  show (if _ then _ else none) = _
  rw [if_pos hlf]
 rw [Fv 9 1 0 _ ⟨Gk, true, true⟩ _ _ _ rfl hcc rfl (by decide) rfl]
 refine F6 (ds := [ss s.fClient, si s.fBorn, sb s.fClean, si s.fConn, si s.fGen, a, b, c, .sl (2 + B.2.length) 0 s.fIn.length 1]) (cs := [ss s.fClient, si s.fBorn, sb s.fClean, si s.fConn, si s.fGen, a, b, c, .sl (2 + B.2.length) 0 s.fIn.length 1]) rfl (Bd rfl) rfl ?_
 have lB : ∀ (b0 b1 : Gm) (X : List Gm), Cc (Bx An E0.tp (b0 :: b1 :: (B.2 ++ X)) 7) Gj B.1 = some (A5 s.fO, zaW 2 B.2.length) := by
  intro b0 b1 X
  have := Ig (H := b0 :: b1 :: (B.2 ++ X)) (fun ty t N h h' _ => Fu 7 ty t N h h') Gj (A5 s.fO) 2 (Ae2 4 s.fO) (by
   rw [show Bu An E0.tp 2 Gj (A5 s.fO) = B from hB]
   exact K9 [b0, b1] B.2 X) (E3 _ _ _)
  rw [show Bu An E0.tp 2 Gj (A5 s.fO) = B from hB] at this
  exact this
 have key := fun (b0 b1 : Gm) => Xc (H := b0 :: b1 :: (B.2 ++ [⟨s.fIn.map fun z => si z, true, true⟩])) (N2 := 2 + B.2.length) (lB b0 b1 _) hBl (by
  have := Iy (b0 :: b1 :: B.2) ⟨s.fIn.map fun z => si z, true, true⟩ []
  rw [zao, zao, show B.2.length + 1 + 1 = 2 + B.2.length by omega] at this
  exact this) (zai _)
 rw [habc] at key
 have hfin := key ⟨[ss s.fClient, si s.fBorn, sb s.fClean, si s.fConn, si s.fGen, a, b, c, .sl (2 + B.2.length) 0 s.fIn.length 1], true, true⟩ ⟨[ss s.fClient, si s.fBorn, sb s.fClean, si s.fConn, si s.fGen, a, b, c, .sl (2 + B.2.length) 0 s.fIn.length 1], true, true⟩
 exact hfin
theorem Ww (n : Nat) (hn : 1048576 < n) (s : B5) (hs : Vy s) : Cy E0 (n + 5) 53 75 [.agg (Bn s)] = some (.agg (Bn s)) := by
 rw [Az, Aim, f75]
 simp only [Ct, Cf, Bk, A2, A9, Cg, Iw]
 rw [Lc _ _ _ (Hw s)]
 simp only [zar, zah, zao, zaw]
 have hz : ([⟨[sE, i0, bF, i0, i0, i0, .nl, .nl, .nl], true, true⟩] : Aa) = [⟨Gk, true, true⟩] := rfl
 rw [hz]
 have hH : ([⟨Bn s, true, true⟩] ++ [⟨Gk, true, true⟩] : Aa)[0]? = some ⟨Bn s, true, true⟩ := rfl
 refine F6 (ds := Bn s) hH (Bd rfl) rfl ?_
 rw [show ([⟨Bn s, true, true⟩] ++ [⟨Gk, true, true⟩] : Aa).length = 2 from rfl]
 rw [Fv 9 2 0 (.agg (Bn s)) ⟨Gk, true, true⟩ (Bn s) _ _ rfl (Ru (Hw s)) rfl (by decide) rfl]
 have hH2 : ([⟨Bn s, true, true⟩] ++ [⟨Gk, true, true⟩] ++ [⟨Gk, true, true⟩] : Aa).set 2 ⟨Cd Gk 0 (Bn s), true, true⟩ = [⟨Bn s, true, true⟩, ⟨Gk, true, true⟩, ⟨Bn s, true, true⟩] := rfl
 simp only [hH2]
 refine Ai (F6 (ds := A5 s.fO) (cs := Bn s) rfl (Bd rfl) rfl ?_)
 rw [E8 (vs := [.agg (A5 s.fO)]) rfl (A6 (E1 _ (Gs _)) Dl) (Oi n hn s.fO hs.1)]
 obtain ⟨i, hi, hc⟩ := Xv
 rw [Gi, hi, za5, hc]
 simp only
 generalize hB : Bu An E0.tp ([⟨Bn s, true, true⟩, ⟨Gk, true, true⟩, ⟨Bn s, true, true⟩] : Aa).length Gj (A5 s.fO) = B
 have hBl : B.1.length = 3 := by rw [← hB, Jh]; rfl
 have hBf : B.1.all Al = true := by rw [← hB]; exact Jp _ _ _ (Gs _)
 obtain ⟨a, b, c, habc⟩ := ys3 hBl
 have hBc : Cq (.agg B.1) = some [a, b, c] := by
  show (if _ then _ else none) = _
  rw [if_pos hBf, habc]
 refine Ai ?_
 rw [Fv 3 2 (0 + 5) (.agg B.1) ⟨Bn s, true, true⟩ [a, b, c] _ _ rfl hBc rfl (Bd rfl) rfl]
 refine Ai (Bo (c := Dr s.fIn) (cs := Bn s) rfl (Bd rfl) rfl ?_)
 rw [V9 s.fIn hs.2]
 have hset : ([⟨Bn s, true, true⟩, ⟨Gk, true, true⟩, ⟨Bn s, true, true⟩] ++ B.2 : Aa).set 2 ⟨Cd (Bn s) (0 + 5) [a, b, c], true, true⟩ = [⟨Bn s, true, true⟩, ⟨Gk, true, true⟩, ⟨Cd (Bn s) (0 + 5) [a, b, c], true, true⟩] ++ B.2 := rfl
 simp only [hset]
 have hN : ([⟨Bn s, true, true⟩, ⟨Gk, true, true⟩, ⟨Cd (Bn s) (0 + 5) [a, b, c], true, true⟩] ++ B.2 : Aa).length = 3 + B.2.length := by simp; omega
 rw [hN]
 refine Ai ?_
 rw [Fv 1 2 (0 + 8) (.sl (3 + B.2.length) 0 s.fIn.length 1) ⟨Cd (Bn s) (0 + 5) [a, b, c], true, true⟩ [.sl (3 + B.2.length) 0 s.fIn.length 1] _ _ rfl rfl rfl (Bd rfl) rfl]
 refine F6 (ds := [ss s.fClient, si s.fBorn, sb s.fClean, si s.fConn, si s.fGen, a, b, c, .sl (3 + B.2.length) 0 s.fIn.length 1]) (cs := [ss s.fClient, si s.fBorn, sb s.fClean, si s.fConn, si s.fGen, a, b, c, .sl (3 + B.2.length) 0 s.fIn.length 1]) rfl (Bd rfl) rfl ?_
 have hlf : [AV.sc (.string s.fClient), si s.fBorn, sb s.fClean, si s.fConn, si s.fGen, a, b, c, .sl (3 + B.2.length) 0 s.fIn.length 1].all Al = true := by
  rw [habc] at hBf
  simp only [zaT, List.all_nil, Bool.and_true, zak] at hBf
  simp [Al, Kz] at hBf ⊢
  exact hBf
 have hcc : Cq (.agg [ss s.fClient, si s.fBorn, sb s.fClean, si s.fConn, si s.fGen, a, b, c, .sl (3 + B.2.length) 0 s.fIn.length 1]) = some [ss s.fClient, si s.fBorn, sb s.fClean, si s.fConn, si s.fGen, a, b, c, .sl (3 + B.2.length) 0 s.fIn.length 1] := by
  show (if _ then _ else none) = _
  rw [if_pos hlf]
 rw [Fv 9 1 0 _ ⟨Gk, true, true⟩ _ _ _ rfl hcc rfl (by decide) rfl]
 refine F6 (ds := [ss s.fClient, si s.fBorn, sb s.fClean, si s.fConn, si s.fGen, a, b, c, .sl (3 + B.2.length) 0 s.fIn.length 1]) (cs := [ss s.fClient, si s.fBorn, sb s.fClean, si s.fConn, si s.fGen, a, b, c, .sl (3 + B.2.length) 0 s.fIn.length 1]) rfl (Bd rfl) rfl ?_
 have lB : ∀ (b0 b1 b2 : Gm) (X : List Gm), Cc (Bx An E0.tp (b0 :: b1 :: b2 :: (B.2 ++ X)) 7) Gj B.1 = some (A5 s.fO, zaW 3 B.2.length) := by
  intro b0 b1 b2 X
  have := Ig (H := b0 :: b1 :: b2 :: (B.2 ++ X)) (fun ty t N h h' _ => Fu 7 ty t N h h') Gj (A5 s.fO) 3 (Ae2 4 s.fO) (by
   rw [show Bu An E0.tp 3 Gj (A5 s.fO) = B from hB]
   exact K9 [b0, b1, b2] B.2 X) (E3 _ _ _)
  rw [show Bu An E0.tp 3 Gj (A5 s.fO) = B from hB] at this
  exact this
 have key := fun (b0 b1 b2 : Gm) => Xc (H := b0 :: b1 :: b2 :: (B.2 ++ [⟨s.fIn.map fun z => si z, true, true⟩])) (N2 := 3 + B.2.length) (lB b0 b1 b2 _) hBl (by
  have := Iy (b0 :: b1 :: b2 :: B.2) ⟨s.fIn.map fun z => si z, true, true⟩ []
  rw [zao, zao, zao, show B.2.length + 1 + 1 + 1 = 3 + B.2.length by omega] at this
  exact this) (zai _)
 rw [habc] at key
 have hfin := key ⟨Bn s, true, true⟩ ⟨[ss s.fClient, si s.fBorn, sb s.fClean, si s.fConn, si s.fGen, a, b, c, .sl (3 + B.2.length) 0 s.fIn.length 1], true, true⟩ ⟨[ss s.fClient, si s.fBorn, sb s.fClean, si s.fConn, si s.fGen, a, b, c, .sl (3 + B.2.length) 0 s.fIn.length 1], true, true⟩
 exact hfin
end
section
open Go
theorem AiP (s : B5) (h : J3 s ≤ 1048576) : Vy s := by
 have h2 := AgD s h
 exact ⟨⟨⟨h2.1.1, fun y hy => (h2.1.2 y hy).1⟩, ⟨h2.2.1.1, fun y hy => (h2.2.1.2 y hy).1⟩⟩, h2.2.2.1⟩
theorem Ae5 (s : B5) (h : J3 s ≤ 1048576) : D6 s.fO ≤ 1048576 := (E6 s h).2.1
def Lu (s : B5) : B5 := if Dc s && !s.fClean then { s with fConn := -1, fGen := 0 } else s
def Bv (s : B5) (b : Int) (m : Br) : B5 := if Dc s && decide (s.fBorn = b) then { s with fO := A1 s.fO m } else s
def Bl (s : B5) (b : Int) (m : Br) : Int := if Dc s && decide (s.fBorn = b) then (if En s.fO m = 2 ∧ s.fConn = -1 then 1 else En s.fO m) else 3
theorem Xo (n : Nat) (hn : 1048576 < n) (x0 : B5) (k0 : Vr x0) (b0 : J3 x0 ≤ 1048576) : Cy E0 (n + 12) 53 125 [.agg (Bn x0)] = some (.agg (Bn (Lu x0))) := by
 rw [Az, Af3, f125]
 refine Iq (G := (· = _)) ?_
 try simp only [X1, Xz]
 have s0 : Sep [] [] := Io
 refine Nd s0 (Gq (Hw _)) fun i1 H s2 => Dz s2 fun i3 H s4 => Af s4 A8 rfl (G3 s4 rfl (.aggF (Hw _) .nil) (Ww (n + 6) (by omega) x0 (AiP x0 b0)) ⟨_, rfl, rfl⟩ (Ln _) ?_)
 rintro _ _ H ⟨x5, x6, x7, lx5, lx6, lx7, rfl, rfl⟩ s8
 simp only [zah, zau] at s8
 refine Dz s8 fun i9 H s10 => Bt (cs' := [ss x0.fClient, si x0.fBorn, sb x0.fClean, si x0.fConn, si x0.fGen, si x0.fO.fLast, x5, x6, x7]) s10 (.here) (Ac (Ab rfl (Ab rfl (Ab rfl (Ab rfl (Ab rfl (Ab rfl (Ab lx5 (Ab lx6 (Ab lx7 rfl)))))))))) rfl (Bd rfl) rfl fun H s11 => Af s11 Jg rfl (Fm (v := (.bool (Dc x0))) s11 rfl (.aggF (Hw _) .nil) (Py n (by omega) _ x0 (E6 x0 b0).1 (E6 x0 b0).2.1 (E6 x0 b0).2.2) (Ad ((Dc x0)) (fun h12 => ?_) fun h12 => ?_))
 refine B4 h12 (Am (o' := 2) rfl (B4 h12 (Bg (c := sb x0.fClean) s11 Jg rfl (B4 h12 (L4 (It h12 (Ix (Ad (x0.fClean) (fun h13 => ?_) fun h13 => ?_))))))))
 refine Cj (nF h13) (Af s11 (.here) rfl (Bt (cs' := [ss x0.fClient, si x0.fBorn, sb x0.fClean, si x0.fConn, si x0.fGen, si x0.fO.fLast, x5, x6, x7]) s11 Fq (Ac (Ab rfl (Ab rfl (Ab rfl (Ab rfl (Ab rfl (Ab rfl (Ab lx5 (Ab lx6 (Ab lx7 rfl)))))))))) rfl (Bd rfl) rfl fun H s14 => Af s14 (.here) rfl (Ee (M7 s14 ⟨_, rfl, rfl⟩ (Ki (.own Fq (.own C1 (.own Co .nil)))) (Kp ⟨(Ay (Cu x0.fO.fFl) (by decide)), ⟨(Ay (Eg x0.fO.fQ) (by decide)), ⟨(Ay (Kj x0.fIn) (by decide)), trivial⟩⟩⟩)) ?_)))
 have e15 : Lu x0 = (⟨x0.fClient, x0.fBorn, x0.fClean, x0.fConn, x0.fGen, ⟨x0.fO.fLast, x0.fO.fFl, x0.fO.fQ⟩, x0.fIn⟩ : B5) := by
  clear s0 s2 s4 s8 s10 s11 s14
  unfold Lu
  (repeat' split) <;> first | rfl | (exfalso; simp_all []; done) | (simp_all []; done)
 ·rw [e15]
  first | done | rfl
 refine Dd (nT h13) (Am (o' := 3) rfl (C6 s11 (.here) rfl rfl fun H s16 => Am (o' := 4) rfl (C6 s16 (.here) rfl rfl fun H s17 => Af s17 (.here) rfl (Bt (cs' := [ss x0.fClient, si x0.fBorn, sb x0.fClean, si (-1), i0, si x0.fO.fLast, x5, x6, x7]) s17 Fq (Ac (Ab rfl (Ab rfl (Ab rfl (Ab rfl (Ab rfl (Ab rfl (Ab lx5 (Ab lx6 (Ab lx7 rfl)))))))))) rfl (Bd rfl) rfl fun H s18 => Af s18 (.here) rfl (Ee (M7 s18 ⟨_, rfl, rfl⟩ (Ki (.own Fq (.own C1 (.own Co .nil)))) (Kp ⟨(Ay (Cu x0.fO.fFl) (by decide)), ⟨(Ay (Eg x0.fO.fQ) (by decide)), ⟨(Ay (Kj x0.fIn) (by decide)), trivial⟩⟩⟩)) ?_)))))
 have e19 : Lu x0 = (⟨x0.fClient, x0.fBorn, x0.fClean, (-1), 0, ⟨x0.fO.fLast, x0.fO.fFl, x0.fO.fQ⟩, x0.fIn⟩ : B5) := by
  clear s0 s2 s4 s8 s10 s11 s16 s17 s18
  unfold Lu
  (repeat' split) <;> first | rfl | (exfalso; simp_all []; done) | (simp_all []; done)
 ·rw [e19]
  first | done | rfl
 refine D9 h12 (D9 h12 (D9 h12 (Is h12 (Ix (Cj rfl (Af s11 (.here) rfl (Bt (cs' := [ss x0.fClient, si x0.fBorn, sb x0.fClean, si x0.fConn, si x0.fGen, si x0.fO.fLast, x5, x6, x7]) s11 Fq (Ac (Ab rfl (Ab rfl (Ab rfl (Ab rfl (Ab rfl (Ab rfl (Ab lx5 (Ab lx6 (Ab lx7 rfl)))))))))) rfl (Bd rfl) rfl fun H s20 => Af s20 (.here) rfl (Ee (M7 s20 ⟨_, rfl, rfl⟩ (Ki (.own Fq (.own C1 (.own Co .nil)))) (Kp ⟨(Ay (Cu x0.fO.fFl) (by decide)), ⟨(Ay (Eg x0.fO.fQ) (by decide)), ⟨(Ay (Kj x0.fIn) (by decide)), trivial⟩⟩⟩)) ?_))))))))
 have e21 : Lu x0 = (⟨x0.fClient, x0.fBorn, x0.fClean, x0.fConn, x0.fGen, ⟨x0.fO.fLast, x0.fO.fFl, x0.fO.fQ⟩, x0.fIn⟩ : B5) := by
  clear s0 s2 s4 s8 s10 s11 s20
  unfold Lu
  (repeat' split) <;> first | rfl | (exfalso; simp_all []; done) | (simp_all []; done)
 ·rw [e21]
  first | done | rfl
theorem S4 (n : Nat) (hn : 1048576 < n) (x0 : B5) (x1 : Int) (x2 : Br) (k0 : Vr x0) (k1 : Do x1) (k2 : Ce x2) (b0 : J3 x0 ≤ 1048576) (b2 : Bc x2 ≤ 1048576) : Cy E0 (n + 13) 56 23 [.agg (Bn x0), .sc (.int .i64 x1), .agg (Ag x2)] = some (.tup [.agg (Bn (Bv x0 x1 x2)), .sc (.int .i64 (Bl x0 x1 x2))]) := by
 rw [Az, AhG, f23]
 refine Iq (G := (· = _)) ?_
 try simp only [X1, Xz]
 have s0 : Sep [] [] := Io
 refine Nd s0 (Gq (Hw _)) fun i1 H s2 => Nd s2 (Gq (Ej _)) fun i3 H s4 => Dz s4 fun i5 H s6 => Af s6 Co rfl (G3 s6 rfl (.aggF (Hw _) .nil) (Ww (n + 7) (by omega) x0 (AiP x0 b0)) ⟨_, rfl, rfl⟩ (Ln _) ?_)
 rintro _ _ H ⟨x7, x8, x9, lx7, lx8, lx9, rfl, rfl⟩ s10
 simp only [zah, zau] at s10
 refine Dz s10 fun i11 H s12 => Bt (cs' := [ss x0.fClient, si x0.fBorn, sb x0.fClean, si x0.fConn, si x0.fGen, si x0.fO.fLast, x7, x8, x9]) s12 (.here) (Ac (Ab rfl (Ab rfl (Ab rfl (Ab rfl (Ab rfl (Ab rfl (Ab lx7 (Ab lx8 (Ab lx9 rfl)))))))))) rfl (Bd rfl) rfl fun H s13 => Af s13 Tl rfl (Fm (v := (.bool (Dc x0))) s13 rfl (.aggF (Hw _) .nil) (Py (n + 1) (by omega) _ x0 (E6 x0 b0).1 (E6 x0 b0).2.1 (E6 x0 b0).2.2) (L4 (Ad ((Dc x0)) (fun h14 => ?_) fun h14 => ?_)))
 refine B4 (nF h14) (Am (o' := 1) rfl (B4 (nF h14) (Bg (c := si x0.fBorn) s13 Tl rfl (B4 (nF h14) (B4 (nF h14) (Mg (Is (nF h14) (Ad ((decide (x0.fBorn = x1))) (fun h15 => ?_) fun h15 => ?_))))))))
 refine Cj (nF h15) (Am (o' := 5) rfl (Aec (ds := A5 x0.fO) s13 Tl (Bd rfl) rfl (Af s13 Jg rfl (Im s13 rfl (.aggF (Gs _) (.aggF (Ej _) .nil)) (Ko (n + 1) (by omega) x0.fO x2 (k0.2.2.2.2.2.1) k2 (Ae5 x0 b0) b2) rfl (Hy ⟨_, rfl, rfl⟩ (Mi _) (Dg Gl)) ?_))))
 rintro _ _ H ⟨_, _, _, _, rfl, rfl, ⟨x16, x17, lx16, lx17, rfl, rfl⟩, ⟨_, rfl, ⟨rfl, rfl⟩⟩⟩ s18
 simp only [zah, zau] at s18
 refine Es (v := .agg [si ((A1 x0.fO x2).fLast), x16, x17]) rfl (Es (v := si (En x0.fO x2)) rfl (Dz s18 fun i19 H s20 => Bt (cs' := [si ((A1 x0.fO x2).fLast), x16, x17]) s20 (.here) (Ac (Ab rfl (Ab lx16 (Ab lx17 rfl)))) rfl (Bd rfl) rfl fun H s21 => Af s21 (.here) rfl (Am (o' := 5) rfl (Bt (cs' := [ss x0.fClient, si x0.fBorn, sb x0.fClean, si x0.fConn, si x0.fGen, si ((A1 x0.fO x2).fLast), x16, x17, x9]) s21 C1 (Ac (Ab rfl (Ab lx16 (Ab lx17 rfl)))) rfl (Bd rfl) rfl fun H s22 => Cb (Ad ((decide ((En x0.fO x2) = 2))) (fun h23 => ?_) fun h23 => ?_)))))
 refine B4 h23 (Am (o' := 3) rfl (B4 h23 (Bg (c := si x0.fConn) s22 D0 rfl (B4 h23 (Cb (It h23 (Ix (Ad ((decide (x0.fConn = (-1)))) (fun h24 => ?_) fun h24 => ?_))))))))
 refine Dd h24 (Af s22 (.here) rfl (Bt (cs' := [ss x0.fClient, si x0.fBorn, sb x0.fClean, si x0.fConn, si x0.fGen, si ((A1 x0.fO x2).fLast), x16, x17, x9]) s22 Qs (Ac (Ab rfl (Ab rfl (Ab rfl (Ab rfl (Ab rfl (Ab rfl (Ab lx16 (Ab lx17 (Ab lx9 rfl)))))))))) rfl (Bd rfl) rfl fun H s25 => Af s25 (.here) rfl (Ee (Eh s25 rfl (.agg ⟨_, rfl, rfl⟩ (Ki (.own Fq (.own C1 (.own C1 .nil)))) (.sc .nil)) ⟨(G4 ⟨_, rfl, rfl⟩ (Kp ⟨(Ay (Cu ((A1 x0.fO x2).fFl)) (by decide)), ⟨(Ay (Eg ((A1 x0.fO x2).fQ)) (by decide)), ⟨(Ay (Kj x0.fIn) (by decide)), trivial⟩⟩⟩)), ⟨trivial, trivial⟩⟩) ?_)))
 have e26 : Bv x0 x1 x2 = (⟨x0.fClient, x0.fBorn, x0.fClean, x0.fConn, x0.fGen, ⟨(A1 x0.fO x2).fLast, ((A1 x0.fO x2).fFl), ((A1 x0.fO x2).fQ)⟩, x0.fIn⟩ : B5) := by
  clear s0 s2 s4 s6 s10 s12 s13 s18 s20 s21 s22 s25
  unfold Bv
  (repeat' split) <;> first | rfl | (exfalso; simp_all []; done) | (simp_all []; done)
 have e27 : Bl x0 x1 x2 = 1 := by
  clear s0 s2 s4 s6 s10 s12 s13 s18 s20 s21 s22 s25
  unfold Bl
  (repeat' split) <;> first | rfl | (exfalso; simp_all []; done) | (simp_all []; done)
 ·rw [e26, e27]
  first | done | rfl
 refine Cj h24 (Af s22 (.here) rfl (Bt (cs' := [ss x0.fClient, si x0.fBorn, sb x0.fClean, si x0.fConn, si x0.fGen, si ((A1 x0.fO x2).fLast), x16, x17, x9]) s22 Qs (Ac (Ab rfl (Ab rfl (Ab rfl (Ab rfl (Ab rfl (Ab rfl (Ab lx16 (Ab lx17 (Ab lx9 rfl)))))))))) rfl (Bd rfl) rfl fun H s28 => Af s28 (.here) rfl (Ee (Eh s28 rfl (.agg ⟨_, rfl, rfl⟩ (Ki (.own Fq (.own C1 (.own C1 .nil)))) (.sc .nil)) ⟨(G4 ⟨_, rfl, rfl⟩ (Kp ⟨(Ay (Cu ((A1 x0.fO x2).fFl)) (by decide)), ⟨(Ay (Eg ((A1 x0.fO x2).fQ)) (by decide)), ⟨(Ay (Kj x0.fIn) (by decide)), trivial⟩⟩⟩)), ⟨trivial, trivial⟩⟩) ?_)))
 have e29 : Bv x0 x1 x2 = (⟨x0.fClient, x0.fBorn, x0.fClean, x0.fConn, x0.fGen, ⟨(A1 x0.fO x2).fLast, ((A1 x0.fO x2).fFl), ((A1 x0.fO x2).fQ)⟩, x0.fIn⟩ : B5) := by
  clear s0 s2 s4 s6 s10 s12 s13 s18 s20 s21 s22 s28
  unfold Bv
  (repeat' split) <;> first | rfl | (exfalso; simp_all []; done) | (simp_all []; done)
 have e30 : Bl x0 x1 x2 = (En x0.fO x2) := by
  clear s0 s2 s4 s6 s10 s12 s13 s18 s20 s21 s22 s28
  unfold Bl
  (repeat' split) <;> first | rfl | (exfalso; simp_all []; done) | (simp_all []; done)
 ·rw [e29, e30]
  first | done | rfl
 refine D9 h23 (D9 h23 (D9 h23 (Is h23 (Ix (Cj rfl (Af s22 (.here) rfl (Bt (cs' := [ss x0.fClient, si x0.fBorn, sb x0.fClean, si x0.fConn, si x0.fGen, si ((A1 x0.fO x2).fLast), x16, x17, x9]) s22 Qs (Ac (Ab rfl (Ab rfl (Ab rfl (Ab rfl (Ab rfl (Ab rfl (Ab lx16 (Ab lx17 (Ab lx9 rfl)))))))))) rfl (Bd rfl) rfl fun H s31 => Af s31 (.here) rfl (Ee (Eh s31 rfl (.agg ⟨_, rfl, rfl⟩ (Ki (.own Fq (.own C1 (.own C1 .nil)))) (.sc .nil)) ⟨(G4 ⟨_, rfl, rfl⟩ (Kp ⟨(Ay (Cu ((A1 x0.fO x2).fFl)) (by decide)), ⟨(Ay (Eg ((A1 x0.fO x2).fQ)) (by decide)), ⟨(Ay (Kj x0.fIn) (by decide)), trivial⟩⟩⟩)), ⟨trivial, trivial⟩⟩) ?_))))))))
 have e32 : Bv x0 x1 x2 = (⟨x0.fClient, x0.fBorn, x0.fClean, x0.fConn, x0.fGen, ⟨(A1 x0.fO x2).fLast, ((A1 x0.fO x2).fFl), ((A1 x0.fO x2).fQ)⟩, x0.fIn⟩ : B5) := by
  clear s0 s2 s4 s6 s10 s12 s13 s18 s20 s21 s22 s31
  unfold Bv
  (repeat' split) <;> first | rfl | (exfalso; simp_all []; done) | (simp_all []; done)
 have e33 : Bl x0 x1 x2 = (En x0.fO x2) := by
  clear s0 s2 s4 s6 s10 s12 s13 s18 s20 s21 s22 s31
  unfold Bl
  (repeat' split) <;> first | rfl | (exfalso; simp_all []; done) | (simp_all []; done)
 ·rw [e32, e33]
  first | done | rfl
 refine Dd (nT h15) (Af s13 (.here) rfl (Bt (cs' := [ss x0.fClient, si x0.fBorn, sb x0.fClean, si x0.fConn, si x0.fGen, si x0.fO.fLast, x7, x8, x9]) s13 Fq (Ac (Ab rfl (Ab rfl (Ab rfl (Ab rfl (Ab rfl (Ab rfl (Ab lx7 (Ab lx8 (Ab lx9 rfl)))))))))) rfl (Bd rfl) rfl fun H s34 => Af s34 (.here) rfl (Ee (Eh s34 rfl (.agg ⟨_, rfl, rfl⟩ (Ki (.own Fq (.own C1 (.own Co .nil)))) (.sc .nil)) ⟨(G4 ⟨_, rfl, rfl⟩ (Kp ⟨(Ay (Cu x0.fO.fFl) (by decide)), ⟨(Ay (Eg x0.fO.fQ) (by decide)), ⟨(Ay (Kj x0.fIn) (by decide)), trivial⟩⟩⟩)), ⟨trivial, trivial⟩⟩) ?_)))
 have e35 : Bv x0 x1 x2 = (⟨x0.fClient, x0.fBorn, x0.fClean, x0.fConn, x0.fGen, ⟨x0.fO.fLast, x0.fO.fFl, x0.fO.fQ⟩, x0.fIn⟩ : B5) := by
  clear s0 s2 s4 s6 s10 s12 s13 s34
  unfold Bv
  (repeat' split) <;> first | rfl | (exfalso; simp_all []; done) | (simp_all []; done)
 have e36 : Bl x0 x1 x2 = 3 := by
  clear s0 s2 s4 s6 s10 s12 s13 s34
  unfold Bl
  (repeat' split) <;> first | rfl | (exfalso; simp_all []; done) | (simp_all []; done)
 ·rw [e35, e36]
  first | done | rfl
 refine D9 (nT h14) (D9 (nT h14) (D9 (nT h14) (D9 (nT h14) (It (nT h14) (Dd rfl (Af s13 (.here) rfl (Bt (cs' := [ss x0.fClient, si x0.fBorn, sb x0.fClean, si x0.fConn, si x0.fGen, si x0.fO.fLast, x7, x8, x9]) s13 Fq (Ac (Ab rfl (Ab rfl (Ab rfl (Ab rfl (Ab rfl (Ab rfl (Ab lx7 (Ab lx8 (Ab lx9 rfl)))))))))) rfl (Bd rfl) rfl fun H s37 => Af s37 (.here) rfl (Ee (Eh s37 rfl (.agg ⟨_, rfl, rfl⟩ (Ki (.own Fq (.own C1 (.own Co .nil)))) (.sc .nil)) ⟨(G4 ⟨_, rfl, rfl⟩ (Kp ⟨(Ay (Cu x0.fO.fFl) (by decide)), ⟨(Ay (Eg x0.fO.fQ) (by decide)), ⟨(Ay (Kj x0.fIn) (by decide)), trivial⟩⟩⟩)), ⟨trivial, trivial⟩⟩) ?_))))))))
 have e38 : Bv x0 x1 x2 = (⟨x0.fClient, x0.fBorn, x0.fClean, x0.fConn, x0.fGen, ⟨x0.fO.fLast, x0.fO.fFl, x0.fO.fQ⟩, x0.fIn⟩ : B5) := by
  clear s0 s2 s4 s6 s10 s12 s13 s37
  unfold Bv
  (repeat' split) <;> first | rfl | (exfalso; simp_all []; done) | (simp_all []; done)
 have e39 : Bl x0 x1 x2 = 3 := by
  clear s0 s2 s4 s6 s10 s12 s13 s37
  unfold Bl
  (repeat' split) <;> first | rfl | (exfalso; simp_all []; done) | (simp_all []; done)
 ·rw [e38, e39]
  first | done | rfl
theorem Rx (n : Nat) (hn : 1048576 < n) (x0 : B5) (x1 : Int) (x2 : Br) (k0 : Vr x0) (k1 : Do x1) (k2 : Ce x2) (b0 : J3 x0 ≤ 1048576) (b2 : Bc x2 ≤ 1048576) : Cy E0 (n + 13) 56 22 [.agg (Bn x0), .sc (.int .i64 x1), .agg (Ag x2)] = some (.tup [.agg (Bn (Bv x0 x1 x2)), .sc (.int .i64 (Bl x0 x1 x2))]) := by
 rw [Az, AhF, f22]
 refine Iq (G := (· = _)) ?_
 try simp only [X1, Xz]
 have s0 : Sep [] [] := Io
 refine Nd s0 (Gq (Hw _)) fun i1 H s2 => Nd s2 (Gq (Ej _)) fun i3 H s4 => Dz s4 fun i5 H s6 => Af s6 Co rfl (G3 s6 rfl (.aggF (Hw _) .nil) (AaU (n + 7) (by omega) x0 (AiP x0 b0)) ⟨_, rfl, rfl⟩ (Ln _) ?_)
 rintro _ _ H ⟨x7, x8, x9, lx7, lx8, lx9, rfl, rfl⟩ s10
 simp only [zah, zau] at s10
 refine Dz s10 fun i11 H s12 => Bt (cs' := [ss x0.fClient, si x0.fBorn, sb x0.fClean, si x0.fConn, si x0.fGen, si x0.fO.fLast, x7, x8, x9]) s12 (.here) (Ac (Ab rfl (Ab rfl (Ab rfl (Ab rfl (Ab rfl (Ab rfl (Ab lx7 (Ab lx8 (Ab lx9 rfl)))))))))) rfl (Bd rfl) rfl fun H s13 => Af s13 Tl rfl (Fm (v := (.bool (Dc x0))) s13 rfl (.aggF (Hw _) .nil) (Ph (n + 1) (by omega) _ x0 (E6 x0 b0).1 (E6 x0 b0).2.1 (E6 x0 b0).2.2) (L4 (Ad ((Dc x0)) (fun h14 => ?_) fun h14 => ?_)))
 refine B4 (nF h14) (Am (o' := 1) rfl (B4 (nF h14) (Bg (c := si x0.fBorn) s13 Tl rfl (B4 (nF h14) (B4 (nF h14) (Mg (Is (nF h14) (Ad ((decide (x0.fBorn = x1))) (fun h15 => ?_) fun h15 => ?_))))))))
 refine Cj (nF h15) (Am (o' := 5) rfl (Aec (ds := A5 x0.fO) s13 Tl (Bd rfl) rfl (Af s13 Jg rfl (Im s13 rfl (.aggF (Gs _) (.aggF (Ej _) .nil)) (Tq (n + 1) (by omega) x0.fO x2 (k0.2.2.2.2.2.1) k2 (Ae5 x0 b0) b2) rfl (Hy ⟨_, rfl, rfl⟩ (Mi _) (Dg Gl)) ?_))))
 rintro _ _ H ⟨_, _, _, _, rfl, rfl, ⟨x16, x17, lx16, lx17, rfl, rfl⟩, ⟨_, rfl, ⟨rfl, rfl⟩⟩⟩ s18
 simp only [zah, zau] at s18
 refine Es (v := .agg [si ((A1 x0.fO x2).fLast), x16, x17]) rfl (Es (v := si (En x0.fO x2)) rfl (Dz s18 fun i19 H s20 => Bt (cs' := [si ((A1 x0.fO x2).fLast), x16, x17]) s20 (.here) (Ac (Ab rfl (Ab lx16 (Ab lx17 rfl)))) rfl (Bd rfl) rfl fun H s21 => Af s21 (.here) rfl (Am (o' := 5) rfl (Bt (cs' := [ss x0.fClient, si x0.fBorn, sb x0.fClean, si x0.fConn, si x0.fGen, si ((A1 x0.fO x2).fLast), x16, x17, x9]) s21 C1 (Ac (Ab rfl (Ab lx16 (Ab lx17 rfl)))) rfl (Bd rfl) rfl fun H s22 => Cb (Ad ((decide ((En x0.fO x2) = 2))) (fun h23 => ?_) fun h23 => ?_)))))
 refine B4 h23 (Am (o' := 3) rfl (B4 h23 (Bg (c := si x0.fConn) s22 D0 rfl (B4 h23 (Cb (It h23 (Ix (Ad ((decide (x0.fConn = (-1)))) (fun h24 => ?_) fun h24 => ?_))))))))
 refine Dd h24 (Af s22 (.here) rfl (Bt (cs' := [ss x0.fClient, si x0.fBorn, sb x0.fClean, si x0.fConn, si x0.fGen, si ((A1 x0.fO x2).fLast), x16, x17, x9]) s22 Qs (Ac (Ab rfl (Ab rfl (Ab rfl (Ab rfl (Ab rfl (Ab rfl (Ab lx16 (Ab lx17 (Ab lx9 rfl)))))))))) rfl (Bd rfl) rfl fun H s25 => Af s25 (.here) rfl (Ee (Eh s25 rfl (.agg ⟨_, rfl, rfl⟩ (Ki (.own Fq (.own C1 (.own C1 .nil)))) (.sc .nil)) ⟨(G4 ⟨_, rfl, rfl⟩ (Kp ⟨(Ay (Cu ((A1 x0.fO x2).fFl)) (by decide)), ⟨(Ay (Eg ((A1 x0.fO x2).fQ)) (by decide)), ⟨(Ay (Kj x0.fIn) (by decide)), trivial⟩⟩⟩)), ⟨trivial, trivial⟩⟩) ?_)))
 have e26 : Bv x0 x1 x2 = (⟨x0.fClient, x0.fBorn, x0.fClean, x0.fConn, x0.fGen, ⟨(A1 x0.fO x2).fLast, ((A1 x0.fO x2).fFl), ((A1 x0.fO x2).fQ)⟩, x0.fIn⟩ : B5) := by
  clear s0 s2 s4 s6 s10 s12 s13 s18 s20 s21 s22 s25
  unfold Bv
  (repeat' split) <;> first | rfl | (exfalso; simp_all []; done) | (simp_all []; done)
 have e27 : Bl x0 x1 x2 = 1 := by
  clear s0 s2 s4 s6 s10 s12 s13 s18 s20 s21 s22 s25
  unfold Bl
  (repeat' split) <;> first | rfl | (exfalso; simp_all []; done) | (simp_all []; done)
 ·rw [e26, e27]
  first | done | rfl
 refine Cj h24 (Af s22 (.here) rfl (Bt (cs' := [ss x0.fClient, si x0.fBorn, sb x0.fClean, si x0.fConn, si x0.fGen, si ((A1 x0.fO x2).fLast), x16, x17, x9]) s22 Qs (Ac (Ab rfl (Ab rfl (Ab rfl (Ab rfl (Ab rfl (Ab rfl (Ab lx16 (Ab lx17 (Ab lx9 rfl)))))))))) rfl (Bd rfl) rfl fun H s28 => Af s28 (.here) rfl (Ee (Eh s28 rfl (.agg ⟨_, rfl, rfl⟩ (Ki (.own Fq (.own C1 (.own C1 .nil)))) (.sc .nil)) ⟨(G4 ⟨_, rfl, rfl⟩ (Kp ⟨(Ay (Cu ((A1 x0.fO x2).fFl)) (by decide)), ⟨(Ay (Eg ((A1 x0.fO x2).fQ)) (by decide)), ⟨(Ay (Kj x0.fIn) (by decide)), trivial⟩⟩⟩)), ⟨trivial, trivial⟩⟩) ?_)))
 have e29 : Bv x0 x1 x2 = (⟨x0.fClient, x0.fBorn, x0.fClean, x0.fConn, x0.fGen, ⟨(A1 x0.fO x2).fLast, ((A1 x0.fO x2).fFl), ((A1 x0.fO x2).fQ)⟩, x0.fIn⟩ : B5) := by
  clear s0 s2 s4 s6 s10 s12 s13 s18 s20 s21 s22 s28
  unfold Bv
  (repeat' split) <;> first | rfl | (exfalso; simp_all []; done) | (simp_all []; done)
 have e30 : Bl x0 x1 x2 = (En x0.fO x2) := by
  clear s0 s2 s4 s6 s10 s12 s13 s18 s20 s21 s22 s28
  unfold Bl
  (repeat' split) <;> first | rfl | (exfalso; simp_all []; done) | (simp_all []; done)
 ·rw [e29, e30]
  first | done | rfl
 refine D9 h23 (D9 h23 (D9 h23 (Is h23 (Ix (Cj rfl (Af s22 (.here) rfl (Bt (cs' := [ss x0.fClient, si x0.fBorn, sb x0.fClean, si x0.fConn, si x0.fGen, si ((A1 x0.fO x2).fLast), x16, x17, x9]) s22 Qs (Ac (Ab rfl (Ab rfl (Ab rfl (Ab rfl (Ab rfl (Ab rfl (Ab lx16 (Ab lx17 (Ab lx9 rfl)))))))))) rfl (Bd rfl) rfl fun H s31 => Af s31 (.here) rfl (Ee (Eh s31 rfl (.agg ⟨_, rfl, rfl⟩ (Ki (.own Fq (.own C1 (.own C1 .nil)))) (.sc .nil)) ⟨(G4 ⟨_, rfl, rfl⟩ (Kp ⟨(Ay (Cu ((A1 x0.fO x2).fFl)) (by decide)), ⟨(Ay (Eg ((A1 x0.fO x2).fQ)) (by decide)), ⟨(Ay (Kj x0.fIn) (by decide)), trivial⟩⟩⟩)), ⟨trivial, trivial⟩⟩) ?_))))))))
 have e32 : Bv x0 x1 x2 = (⟨x0.fClient, x0.fBorn, x0.fClean, x0.fConn, x0.fGen, ⟨(A1 x0.fO x2).fLast, ((A1 x0.fO x2).fFl), ((A1 x0.fO x2).fQ)⟩, x0.fIn⟩ : B5) := by
  clear s0 s2 s4 s6 s10 s12 s13 s18 s20 s21 s22 s31
  unfold Bv
  (repeat' split) <;> first | rfl | (exfalso; simp_all []; done) | (simp_all []; done)
 have e33 : Bl x0 x1 x2 = (En x0.fO x2) := by
  clear s0 s2 s4 s6 s10 s12 s13 s18 s20 s21 s22 s31
  unfold Bl
  (repeat' split) <;> first | rfl | (exfalso; simp_all []; done) | (simp_all []; done)
 ·rw [e32, e33]
  first | done | rfl
 refine Dd (nT h15) (Af s13 (.here) rfl (Bt (cs' := [ss x0.fClient, si x0.fBorn, sb x0.fClean, si x0.fConn, si x0.fGen, si x0.fO.fLast, x7, x8, x9]) s13 Fq (Ac (Ab rfl (Ab rfl (Ab rfl (Ab rfl (Ab rfl (Ab rfl (Ab lx7 (Ab lx8 (Ab lx9 rfl)))))))))) rfl (Bd rfl) rfl fun H s34 => Af s34 (.here) rfl (Ee (Eh s34 rfl (.agg ⟨_, rfl, rfl⟩ (Ki (.own Fq (.own C1 (.own Co .nil)))) (.sc .nil)) ⟨(G4 ⟨_, rfl, rfl⟩ (Kp ⟨(Ay (Cu x0.fO.fFl) (by decide)), ⟨(Ay (Eg x0.fO.fQ) (by decide)), ⟨(Ay (Kj x0.fIn) (by decide)), trivial⟩⟩⟩)), ⟨trivial, trivial⟩⟩) ?_)))
 have e35 : Bv x0 x1 x2 = (⟨x0.fClient, x0.fBorn, x0.fClean, x0.fConn, x0.fGen, ⟨x0.fO.fLast, x0.fO.fFl, x0.fO.fQ⟩, x0.fIn⟩ : B5) := by
  clear s0 s2 s4 s6 s10 s12 s13 s34
  unfold Bv
  (repeat' split) <;> first | rfl | (exfalso; simp_all []; done) | (simp_all []; done)
 have e36 : Bl x0 x1 x2 = 3 := by
  clear s0 s2 s4 s6 s10 s12 s13 s34
  unfold Bl
  (repeat' split) <;> first | rfl | (exfalso; simp_all []; done) | (simp_all []; done)
 ·rw [e35, e36]
  first | done | rfl
 refine D9 (nT h14) (D9 (nT h14) (D9 (nT h14) (D9 (nT h14) (It (nT h14) (Dd rfl (Af s13 (.here) rfl (Bt (cs' := [ss x0.fClient, si x0.fBorn, sb x0.fClean, si x0.fConn, si x0.fGen, si x0.fO.fLast, x7, x8, x9]) s13 Fq (Ac (Ab rfl (Ab rfl (Ab rfl (Ab rfl (Ab rfl (Ab rfl (Ab lx7 (Ab lx8 (Ab lx9 rfl)))))))))) rfl (Bd rfl) rfl fun H s37 => Af s37 (.here) rfl (Ee (Eh s37 rfl (.agg ⟨_, rfl, rfl⟩ (Ki (.own Fq (.own C1 (.own Co .nil)))) (.sc .nil)) ⟨(G4 ⟨_, rfl, rfl⟩ (Kp ⟨(Ay (Cu x0.fO.fFl) (by decide)), ⟨(Ay (Eg x0.fO.fQ) (by decide)), ⟨(Ay (Kj x0.fIn) (by decide)), trivial⟩⟩⟩)), ⟨trivial, trivial⟩⟩) ?_))))))))
 have e38 : Bv x0 x1 x2 = (⟨x0.fClient, x0.fBorn, x0.fClean, x0.fConn, x0.fGen, ⟨x0.fO.fLast, x0.fO.fFl, x0.fO.fQ⟩, x0.fIn⟩ : B5) := by
  clear s0 s2 s4 s6 s10 s12 s13 s37
  unfold Bv
  (repeat' split) <;> first | rfl | (exfalso; simp_all []; done) | (simp_all []; done)
 have e39 : Bl x0 x1 x2 = 3 := by
  clear s0 s2 s4 s6 s10 s12 s13 s37
  unfold Bl
  (repeat' split) <;> first | rfl | (exfalso; simp_all []; done) | (simp_all []; done)
 ·rw [e38, e39]
  first | done | rfl
theorem Wq (l : List Int) : ∀ r pre, Qu l pre r = true → l.length ≤ 4
 | [], pre, h => by
  have : decide ((l.length : Int) ≤ 4) = true := h
  simp at this
  omega
 | x :: r, pre, h => by
  rw [Qu, zak] at h
  exact Wq l r _ h.2
theorem Zu (s : B5) (h : Dc s = true) : s.fClient.size ≤ 60 ∧ F5 s.fO = true ∧ s.fIn.length ≤ 4 := by
 unfold Dc at h
 simp only [zak] at h
 obtain ⟨⟨⟨⟨h1, h2⟩, h3⟩, h4⟩, h5⟩ := h
 refine ⟨?_, h4, Wq _ _ _ h5⟩
 unfold Tf D8 at h1
 simp at h1
 omega
end
section
open Go
def zS : List AV := [.sc (.string ⟨#[]⟩), .sc (.int .i64 0), .sc (.bool false), .sc (.int .i64 0), .sc (.int .i64 0), .sc (.int .i64 0), .nl, .nl, .nl]
def Ahl : B5 := ⟨⟨#[]⟩, 0, false, 0, 0, ⟨0, [], []⟩, []⟩
def S1 (c : ByteArray) (b : Int) (cl : Bool) (cn g : Int) : B5 := ⟨c, b, cl, cn, g, ⟨0, [], []⟩, []⟩
def Tg (c : ByteArray) (b : Int) (cl : Bool) (cn g : Int) : B5 := if Dc (S1 c b cl cn g) then S1 c b cl cn g else Ahl
def Hg (c : ByteArray) (b : Int) (cl : Bool) (cn g : Int) : List AV := [.sc (.string c), .sc (.int .i64 b), .sc (.bool cl), .sc (.int .i64 cn), .sc (.int .i64 g), .sc (.int .i64 0), .nl, .nl, .nl]
theorem Xb (H : Aa) (c : ByteArray) (b : Int) (cl : Bool) (cn g : Int) : A0 An E0.tp 53 H (.agg (Hg c b cl cn g)) = some (.agg (Bn (S1 c b cl cn g))) := by
 obtain ⟨i, hi, hc⟩ := AeN
 rw [A0, Ek, hi, zab, hc]
 rfl
theorem Xk {n g : Nat} {c : ByteArray} {b : Int} {cl : Bool} {cn gn : Int} {ok : Bool} (hg : Fy g = false) (tO : Cy E0 n 4 g [.agg (Bn (S1 c b cl cn gn))] = some (.sc (.bool ok))) :
  (Iw zS [] fun t10 H => (Er zS [(0, 1, ss c), (1, 1, si b), (2, 1, sb cl), (3, 1, si cn), (4, 1, si gn)]).bind fun ct17 => Iw zS H fun t11 H => D5 9 t11 (.agg ct17) H fun H => Cx true 9 t11 H fun t18 => (PR n AV).call 4 (.fn g [] []) [t18] H fun t19 H => pUn .not t19 fun t20 => Gz t20
   ((Er zS []).bind fun ct21 => D5 9 t10 (.agg ct21) H fun H => Cx true 9 t10 H fun r0 => A0 An E0.tp 53 H r0)
   (Cx true 9 t11 H fun t22 => D5 9 t10 t22 H fun H => Cx true 9 t10 H fun r0 => A0 An E0.tp 53 H r0)) =
  some (.agg (Bn (if ok then S1 c b cl cn gn else Ahl))) := by
 have hf : Er zS [(0, 1, ss c), (1, 1, si b), (2, 1, sb cl), (3, 1, si cn), (4, 1, si gn)] = some (Hg c b cl cn gn) := rfl
 simp only [Iw, hf, zab, zah, zar]
 rw [show ([⟨zS, true, true⟩] : Aa).length = 1 from rfl]
 have hc : Cq (.agg (Hg c b cl cn gn)) = some (Hg c b cl cn gn) := rfl
 rw [Fv 9 1 0 _ ⟨zS, true, true⟩ (Hg c b cl cn gn) _ _ rfl hc rfl (Bd rfl) rfl]
 refine F6 (ds := Hg c b cl cn gn) (cs := Hg c b cl cn gn) rfl (Bd rfl) rfl (De hg (vs := [.agg (Bn (S1 c b cl cn gn))]) rfl tO (Gg ?_))
 cases ok
 refine Ey rfl ?_
 have hf2 : Er zS [] = some zS := rfl
 rw [hf2, zab]
 rw [Fv 9 0 0 _ ⟨zS, true, true⟩ zS _ _ rfl rfl rfl (Bd rfl) rfl]
 exact F6 (ds := zS) (cs := zS) rfl (Bd rfl) rfl (Xb _ ⟨#[]⟩ 0 false 0 0)
 refine E7 rfl (F6 (ds := Hg c b cl cn gn) (cs := Hg c b cl cn gn) rfl (Bd rfl) rfl ?_)
 rw [Fv 9 0 0 _ ⟨zS, true, true⟩ (Hg c b cl cn gn) _ _ rfl hc rfl (Bd rfl) rfl]
 exact F6 (ds := Hg c b cl cn gn) (cs := Hg c b cl cn gn) rfl (Bd rfl) rfl (Xb _ c b cl cn gn)
theorem Tu (n : Nat) (hn : 1048576 < n) (x0 : ByteArray) (x1 : Int) (x2 : Bool) (x3 x4 : Int) (k0 : Hz x0) (k1 : Do x1) (k2 : True) (k3 : Do x3) (k4 : Do x4) (b0 : x0.size ≤ 1048576) : Cy E0 (n + 12) 53 33 [.sc (.string x0), .sc (.int .i64 x1), .sc (.bool x2), .sc (.int .i64 x3), .sc (.int .i64 x4)] = some (.agg (Bn (Tg x0 x1 x2 x3 x4))) := by
 rw [Az, AhL, f33]
 simp only [Cf, A2, A9, Be, Ea, At]
 exact Xk rfl (Py n hn _ (S1 x0 x1 x2 x3 x4) b0 (zbu _) (zbu _))
end
section
open Go
section
variable {β : Type} {n : Nat} {H : Aa} {L L' L1 L2 : List Ck} {G : Option β → Prop} {KH : KO β}
theorem AfT {ty : Nat} {cty : List Nat} {x y : AV} {l q : List Int} (hs : Sep H L) (hty : ∃ i j, An ty = some i ∧ An i.elem = some j ∧ j.size = 1 ∧ j.cty = cty) (hx : Pk L (.own x ty (Dr l)) L1) (hy : Src H L1 1 cty y q.length (q.map fun z => AV.sc (.int .i64 z)) L2) (hok : El (Gp An E0.tp 5) (zad q.length cty).flatten (q.map fun z => AV.sc (.int .i64 z))) (hb : (l.length + q.length) * 8 ≤ 140737488355328)
  (h : ∀ x' H', Al x' = true → Sep H' (.own x' ty (Dr (l ++ q)) :: L2) → Gd G (KH x' H')) : Gd G (Ha 1 8 x y H fun x H => KH x H) := by
 refine Wp hs hty hx hy hok hb fun x' H' lx hs' => h x' H' lx ?_
 have e : Dr (l ++ q) = .ro (l.length + q.length) ((l.map fun z => AV.sc (.int .i64 z)) ++ (q.map fun z => AV.sc (.int .i64 z))) := by simp [Dr]
 rw [e]
 exact hs'
end
def SessB (b : Nat) (s : B5) : Prop := (Hz s.fClient ∧ Do s.fBorn ∧ Do s.fConn ∧ Do s.fGen ∧ OutB b s.fO ∧ ∀ z ∈ s.fIn, Do z) ∧ s.fClient.size + (D6 s.fO + s.fIn.length) ≤ b
theorem K3 {b : Nat} {s : B5} (h : SessB b s) : s.fIn.length ≤ b ∧ D6 s.fO ≤ b ∧ s.fClient.size ≤ b := by
 have h3 := h.2
 omega
theorem SessB.ok {b : Nat} {s : B5} (h : SessB b s) (hb : b ≤ 1048576) : Vr s := by
 have h1 := K3 h
 obtain ⟨⟨a1, a2, a3, a4, a5, a6⟩, _⟩ := h
 exact ⟨a1, a2, trivial, a3, a4, a5.ok hb, by omega, a6⟩
theorem SessB.wt {b : Nat} {s : B5} (h : SessB b s) : J3 s ≤ b := by
 have h3 := h.2
 unfold J3
 omega
theorem SessB.mono {a b : Nat} {s : B5} (h : SessB a s) (hab : a ≤ b) : SessB b s := ⟨⟨h.1.1, h.1.2.1, h.1.2.2.1, h.1.2.2.2.1, h.1.2.2.2.2.1.mono hab, h.1.2.2.2.2.2⟩, za2 h.2 hab⟩
theorem E5 {b k m : Nat} {c : ByteArray} {bo : Int} {cl : Bool} {cn g : Int} {o : Bs} {i : List Int} (h1 : Hz c) (h2 : Do bo) (h3 : Do cn) (h4 : Do g) (h5 : OutB k o) (h6 : i.length ≤ m ∧ ∀ z ∈ i, Do z) (h7 : c.size + (k + m) ≤ b) : SessB b ⟨c, bo, cl, cn, g, o, i⟩ := by
 have := h5.wt
 exact ⟨⟨h1, h2, h3, h4, h5.mono (by omega), h6.2⟩, by show c.size + (D6 o + i.length) ≤ b; omega⟩
theorem Akj {b : Nat} {c : ByteArray} {bo : Int} {cl : Bool} {cn g : Int} (hc : c.size ≤ b) (hb : b ≤ 1048576) (h2 : Do bo) (h3 : Do cn) (h4 : Do g) : SessB b (Tg c bo cl cn g) := by
 unfold Tg
 have h0 : OutB 0 (⟨0, [], []⟩ : Bs) := Ez (by constructor <;> decide) (fun z hz => by cases hz) (fun z hz => by cases hz) (zai 0)
 split
 exact E5 (k := 0) (m := 0) (by unfold Hz; omega) h2 h3 h4 h0 ⟨zai 0, fun z hz => by cases hz⟩ (by omega)
 exact E5 (k := 0) (m := 0) (by unfold Hz; decide) (by constructor <;> decide) (by constructor <;> decide) (by constructor <;> decide) h0 ⟨zai 0, fun z hz => by cases hz⟩ (by show 0 + 0 ≤ b; omega)
theorem Agn {b : Nat} {s : B5} (h : SessB b s) : SessB b (Lu s) := by
 unfold Lu
 split
 exact ⟨⟨h.1.1, h.1.2.1, (by decide : (-9223372036854775808 : Int) ≤ -1 ∧ (-1 : Int) ≤ 9223372036854775807), (by decide : (-9223372036854775808 : Int) ≤ 0 ∧ (0 : Int) ≤ 9223372036854775807), h.1.2.2.2.2⟩, h.2⟩
 exact h
theorem AeF (n : Nat) (hn : 1048576 < n) (c : ByteArray) (bo : Int) (cl : Bool) (cn g : Int) (hc : c.size ≤ 3) (h2 : Do bo) (h3 : Do cn) (h4 : Do g) : ∃ sv, SessB 3 sv ∧ Cy E0 (n + 12) 53 33 [.sc (.string c), .sc (.int .i64 bo), .sc (.bool cl), .sc (.int .i64 cn), .sc (.int .i64 g)] = some (.agg (Bn sv)) :=
 ⟨_, Akj hc (by decide) h2 h3 h4, Tu n hn c bo cl cn g (by unfold Hz; omega) h2 trivial h3 h4 (by omega)⟩
theorem AiF (n : Nat) (hn : 1048576 < n) (s : B5) (h : SessB 3 s) : ∃ sv, SessB 3 sv ∧ Cy E0 (n + 12) 53 125 [.agg (Bn s)] = some (.agg (Bn sv)) :=
 ⟨_, Agn h, Xo n hn s (h.ok (by decide)) (za2 h.wt (by decide))⟩
theorem Sa (n : Nat) (hn : 1048576 < n) (code : ByteArray) (hcode : code.size ≤ 1048576) (c i : Nat) (h : Int)   {β : Type} {G : Option β → Prop} {KH : KO β} {H : Aa} {L : List Ck} (s0 : Sep H (Cr c code i h :: L)) (hk : ∀ (r0 : List Int) (r0x : AV) (i' : Nat) (h' : Int) (H' : Aa), (Al r0x = true) → (r0.length ≤ 5 ∧ (∀ y ∈ r0, Do y)) → Sep H' (.own r0x 39 (Dr r0) :: Cr c code i' h' :: L) → Gd G (KH (r0x) H')) : Gd G (Dm E0 (n + 5) β 126 [.ptr c 0] H fun x H => KH x H) := by
 rw [Af4, f126]
 try simp only [Cf]
 have lp1 : ∀ (j m : Nat) (z : Int) (a1 : List Int) (a1x : AV) (i : Nat) (h : Int) (H : Aa), j < m → 0 ≤ z ∧ z + ((j : Nat) : Int) = max ((6 : Int)) 0 → Al a1x = true → (a1.length + j ≤ 5 ∧ (∀ y ∈ a1, Do y)) → Sep H (.own a1x 39 (Dr a1) :: Cr c code i h :: L) → Gd G (Ke (PR ((n + 4)) β) ((n + 4)) (fun x H => KH x H) m (.ptr c 0) (a1x) (si z) H) := by
  clear s0
  intro j
  induction j with
  | zero =>
   intro m0 z a1 a1x i h H hm hz la1x hinv s0
   obtain ⟨m, rfl⟩ : ∃ m, m0 = m + 1 := ⟨m0 - 1, by omega⟩
   obtain ⟨hv1, hv2⟩ := hinv
   have hinv := And.intro hv1 hv2
   rw [Ke]
   try simp only [Ba, A4, At, Bi, Pr.gT, Pr.gF, Pr.hT, Pr.hF, Pr.kT, Pr.kF, Bz, Bm, Be, Cg]
   refine Oa (D9 (decide_eq_false (by omega)) (D9 (decide_eq_false (by omega)) (D9 (decide_eq_false (by omega)) (Is (decide_eq_false (by omega)) (Cj rfl ?_)))))
   have e2 : a1.length ≤ 5 ∧ (∀ y ∈ a1, Do y) := by
    first | assumption | exact ⟨by simp, by simp⟩ | exact ⟨by omega, by assumption⟩
   exact hk a1 a1x i h _ la1x e2 (s0.sel (.cons (.here) (.cons (.here) .rest)))
  | succ j ih =>
   intro m0 z a1 a1x i h H hm hz la1x hinv s0
   obtain ⟨m, rfl⟩ : ∃ m, m0 = m + 1 := ⟨m0 - 1, by omega⟩
   obtain ⟨hv1, hv2⟩ := hinv
   have hinv := And.intro hv1 hv2
   rw [Ke]
   try simp only [Ba, A4, At, Bi, Pr.gT, Pr.gF, Pr.hT, Pr.hF, Pr.kT, Pr.kF, Bz, Bm, Be, Cg]
   refine Oa (B4 (decide_eq_true (by omega)) (B4 (decide_eq_true (by omega)) (Ic s0 (.here) (B4 (decide_eq_true (by omega)) (Oa (It (decide_eq_true (by omega)) (Ad ((decide (((a1.length : Nat) : Int) < 4))) (fun h3 => ?_) fun h3 => ?_)))))))
   refine Dd h3 (Sj hcode (by omega) s0 A8 fun b4 iq5 hq5 H sq5 => Ad (b4) (fun h6 => ?_) fun h6 => ?_)
   refine Dd h6 (Bp (cs := [.sc (.int .i64 z)]) rfl (Bw sq5 fun i7 H s8 => Vh s8 Co (.here) ⟨_, _, rfl, rfl, rfl, rfl⟩ rfl (by first | omega | (simp only [zbz]; omega)) fun x9 H lx9 s10 => Hq (by omega) (by omega) ?_))
   have e11 : (a1 ++ [z]).length + j ≤ 5 ∧ (∀ y ∈ (a1 ++ [z]), Do y) := by
    refine ⟨by first | omega | (simp only [zae, zal, zar]; omega), ?_⟩; intro y hy; first | (cases hy; done) | exact hinv.2 y hy | (rcases za9.1 hy with hy | hy; exact hinv.2 y hy; rw [zbm.1 hy]; constructor <;> omega)
   exact ih m _ (a1 ++ [z]) x9 iq5 hq5 _ (by omega) (by omega) lx9 e11 (s10.sel (.cons (.here) (.cons (.here) .rest)))
   refine Cj h6 (Hq (by omega) (by omega) ?_)
   have e12 : a1.length + j ≤ 5 ∧ (∀ y ∈ a1, Do y) := by
    refine ⟨by first | omega | (simp only [zae, zal, zar]; omega), ?_⟩; intro y hy; first | (cases hy; done) | exact hinv.2 y hy | (rcases za9.1 hy with hy | hy; exact hinv.2 y hy; rw [zbm.1 hy]; constructor <;> omega)
   exact ih m _ a1 a1x iq5 hq5 _ (by omega) (by omega) la1x e12 (sq5.sel (.cons A8 (.cons (.here) .rest)))
   refine Cj h3 ?_
   have e13 : a1.length ≤ 5 ∧ (∀ y ∈ a1, Do y) := by
    first | assumption | exact ⟨by simp, by simp⟩ | exact ⟨by omega, by assumption⟩
   exact hk a1 a1x i h _ la1x e13 (s0.sel (.cons (.here) (.cons (.here) .rest)))
 have s14 := s0.nl (ty := 39) ⟨_, _, rfl, rfl⟩
 have e15 : ([] : List Int).length + (max ((6 : Int)) 0 - 1).toNat ≤ 5 ∧ (∀ y ∈ ([] : List Int), Do y) := by
  refine ⟨by first | omega | (simp only [zae, zal, zar]; omega), ?_⟩; intro y hy; first | (cases hy; done) | exact hinv.2 y hy | (rcases za9.1 hy with hy | hy; exact hinv.2 y hy; rw [zbm.1 hy]; constructor <;> omega)
 exact lp1 (max ((6 : Int)) 0 - 1).toNat _ _ ([] : List Int) .nl i h _ (by omega) (by omega) rfl e15 (s14.sel (.cons (.here) (.cons (.here) .rest)))
theorem Aeu (n : Nat) (hn : 1048576 < n) (code : ByteArray) (hcode : code.size ≤ 1048576) (c i : Nat) (h : Int) (client : ByteArray) (hc0 : client.size ≤ 3) {β : Type} {r : Option β} {KH : KO β} {H : Aa} {L : List Ck} (s0 : Sep H (Cr c code i h :: L)) (hk : ∀ (r0 : B5) (r0x6 : AV) (r0x7 : AV) (r0x8 : AV) (i' : Nat) (h' : Int) (H' : Aa), (Al r0x6 = true) → (Al r0x7 = true) → (Al r0x8 = true) → (SessB 118 r0) → Sep H' (.own r0x6 24 (Aj Aq r0.fO.fFl) :: .own r0x7 25 (Aj Ag r0.fO.fQ) :: .own r0x8 39 (Dr r0.fIn) :: Cr c code i' h' :: L) → Gd (· = r) (KH (.agg [.sc (.string r0.fClient), .sc (.int .i64 r0.fBorn), .sc (.bool r0.fClean), .sc (.int .i64 r0.fConn), .sc (.int .i64 r0.fGen), .sc (.int .i64 r0.fO.fLast), r0x6, r0x7, r0x8]) H')) : Gd (· = r) (Dm E0 (n + 18) β 106 [.ptr c 0, .sc (.string client)] H fun x H => KH x H) := by
 rw [Afn, f106]
 try simp only [Cf, Bk, A2, A9, A4, At]
 refine Dz s0 fun i1 H s2 => Fx (m := 5) hcode (by omega) s2 A8 fun z3 iq4 hq4 H hz3 sq4 => ?_
 replace hz3 : 0 ≤ z3 ∧ z3 < 5 := by omega
 refine Sj hcode (by omega) sq4 (.here) fun b5 iq6 hq6 H sq6 => Fx (m := 4) hcode (by omega) sq6 (.here) fun z7 iq8 hq8 H hz7 sq8 => ?_
 replace hz7 : 0 ≤ z7 ∧ z7 < 4 := by omega
 refine Fx (m := 4) hcode (by omega) sq8 (.here) fun z9 iq10 hq10 H hz9 sq10 => ?_
 replace hz9 : 0 ≤ z9 ∧ z9 < 4 := by omega
 refine Hq (by omega) (by omega) ?_
 obtain ⟨v11, hv11, ev11⟩ := AeF (n + 5) (by omega) client z3 b5 z7 (1 + z9) (by omega) (by simp only [Do]; omega) (by simp only [Do]; omega) (by simp only [Do]; omega)
 have khv11 := hv11
 obtain ⟨⟨hv111, hv112, hv113, hv114, hv115, hv116⟩, hv117⟩ := khv11
 refine G3 sq10 rfl (Tv .nil) (ev11) ⟨_, rfl, rfl⟩ (Ln _) ?_
 rintro _ _ H ⟨x12, x13, x14, lx12, lx13, lx14, rfl, rfl⟩ s15
 simp only [zah, zau] at s15
 refine Dz s15 fun i16 H s17 => Bt (cs' := [ss v11.fClient, si v11.fBorn, sb v11.fClean, si v11.fConn, si v11.fGen, si v11.fO.fLast, x12, x13, x14]) s17 (.here) (Ac (Ab rfl (Ab rfl (Ab rfl (Ab rfl (Ab rfl (Ab rfl (Ab lx12 (Ab lx13 (Ab lx14 rfl)))))))))) rfl (Bd rfl) rfl fun H s18 => Sj hcode (by omega) s18 Fq fun b19 iq20 hq20 H sq20 => Ix (Ad (b19) (fun h21 => ?_) fun h21 => ?_)
 refine Dd h21 (Af sq20 A8 rfl ?_)
 obtain ⟨v22, hv22, ev22⟩ := AiF (n + 5) (by omega) v11 hv11
 have khv22 := hv22
 obtain ⟨⟨hv221, hv222, hv223, hv224, hv225, hv226⟩, hv227⟩ := khv22
 refine G3 sq20 rfl (.agg (J5 (.cons (.own (by decide) Fq) (.cons (.own (by decide) C1) (.cons (.own (by decide) Co) .nil)))) .nil) (ev22) ⟨_, rfl, rfl⟩ (Ln _) ?_
 rintro _ _ H ⟨x23, x24, x25, lx23, lx24, lx25, rfl, rfl⟩ s26
 simp only [zah, zau] at s26
 refine Bt (cs' := [ss v22.fClient, si v22.fBorn, sb v22.fClean, si v22.fConn, si v22.fGen, si v22.fO.fLast, x23, x24, x25]) s26 Fq (Ac (Ab rfl (Ab rfl (Ab rfl (Ab rfl (Ab rfl (Ab rfl (Ab lx23 (Ab lx24 (Ab lx25 rfl)))))))))) rfl (Bd rfl) rfl fun H s27 => Gv rfl rfl (R8 _ (by omega) code hcode c iq20 hq20   (s27.pick Fq) fun r28 r28x1 r28x2 iq29 hq29 H lr28x1 lr28x2 hr28 sq29 => ?_)
 have kr28 := hr28
 obtain ⟨⟨oar28, obr28, ocr28⟩, wr28⟩ := kr28
 have gr28 := Mn hr28
 refine Am (o' := 5) rfl (Bt (cs' := [ss v22.fClient, si v22.fBorn, sb v22.fClean, si v22.fConn, si v22.fGen, si r28.fLast, r28x1, r28x2, x25]) sq29 C1 (Ac (Ab rfl (Ab lr28x1 (Ab lr28x2 rfl)))) rfl (Bd rfl) rfl fun H s30 => Gv rfl rfl (Sa _ (by omega) code hcode c iq29 hq29   (s30.pick C1) fun r31 r31x iq32 hq32 H lr31x hr31 sq32 => ?_))
 obtain ⟨gr31, or31⟩ := hr31
 refine Am (o' := 8) rfl (C6 sq32 Co lr31x rfl fun H s33 => Af s33 (.here) rfl (Bt (cs' := [ss v22.fClient, si v22.fBorn, sb v22.fClean, si v22.fConn, si v22.fGen, si r28.fLast, r28x1, r28x2, r31x]) s33 K7 (Ac (Ab rfl (Ab rfl (Ab rfl (Ab rfl (Ab rfl (Ab rfl (Ab lr28x1 (Ab lr28x2 (Ab lr31x rfl)))))))))) rfl (Bd rfl) rfl fun H s34 => Af s34 (.here) rfl ?_))
 have e35 : SessB 118 (⟨v22.fClient, v22.fBorn, v22.fClean, v22.fConn, v22.fGen, r28, r31⟩ : B5) := by
  refine E5 (k := 110) (m := 5) ?_ ?_ ?_ ?_ (by assumption) ⟨by omega, by assumption⟩ (by omega) <;> assumption
 exact hk (⟨v22.fClient, v22.fBorn, v22.fClean, v22.fConn, v22.fGen, r28, r31⟩ : B5) r28x1 r28x2 r31x iq32 hq32 _ lr28x1 lr28x2 lr31x e35 (s34.sel (.cons Fq (.cons Fq (.cons Co (.cons Co zS8)))))
 refine Cj h21 (Gv rfl rfl (R8 _ (by omega) code hcode c iq20 hq20   (sq20.pick (.here)) fun r36 r36x1 r36x2 iq37 hq37 H lr36x1 lr36x2 hr36 sq37 => ?_))
 have kr36 := hr36
 obtain ⟨⟨oar36, obr36, ocr36⟩, wr36⟩ := kr36
 have gr36 := Mn hr36
 refine Am (o' := 5) rfl (Bt (cs' := [ss v11.fClient, si v11.fBorn, sb v11.fClean, si v11.fConn, si v11.fGen, si r36.fLast, r36x1, r36x2, x14]) sq37 C1 (Ac (Ab rfl (Ab lr36x1 (Ab lr36x2 rfl)))) rfl (Bd rfl) rfl fun H s38 => Gv rfl rfl (Sa _ (by omega) code hcode c iq37 hq37   (s38.pick C1) fun r39 r39x iq40 hq40 H lr39x hr39 sq40 => ?_))
 obtain ⟨gr39, or39⟩ := hr39
 refine Am (o' := 8) rfl (C6 sq40 Co lr39x rfl fun H s41 => Af s41 (.here) rfl (Bt (cs' := [ss v11.fClient, si v11.fBorn, sb v11.fClean, si v11.fConn, si v11.fGen, si r36.fLast, r36x1, r36x2, r39x]) s41 zP8 (Ac (Ab rfl (Ab rfl (Ab rfl (Ab rfl (Ab rfl (Ab rfl (Ab lr36x1 (Ab lr36x2 (Ab lr39x rfl)))))))))) rfl (Bd rfl) rfl fun H s42 => Af s42 (.here) rfl ?_))
 have e43 : SessB 118 (⟨v11.fClient, v11.fBorn, v11.fClean, v11.fConn, v11.fGen, r36, r39⟩ : B5) := by
  refine E5 (k := 110) (m := 5) ?_ ?_ ?_ ?_ (by assumption) ⟨by omega, by assumption⟩ (by omega) <;> assumption
 exact hk (⟨v11.fClient, v11.fBorn, v11.fClean, v11.fConn, v11.fGen, r36, r39⟩ : B5) r36x1 r36x2 r39x iq40 hq40 _ lr36x1 lr36x2 lr39x e43 (s42.sel (.cons Fq (.cons Fq (.cons Co (.cons Co zS5)))))
theorem Agl (n : Nat) (hn : 1048576 < n) (code : ByteArray) (hcode : code.size ≤ 1048576) (c i : Nat) (h : Int)   {β : Type} {G : Option β → Prop} {KH : KO β} {H : Aa} {L : List Ck} (s0 : Sep H (Cr c code i h :: L)) (hk : ∀ (r0 : ByteArray) (i' : Nat) (h' : Int) (H' : Aa), (r0.size ≤ 3) → Sep H' (Cr c code i' h' :: L) → Gd G (KH (.sc (.string r0)) H')) : Gd G (Dm E0 (n + 5) β 80 [.ptr c 0] H fun x H => KH x H) := by
 rw [Air, f80]
 try simp only [Ba, Be]
 refine Bp (cs := [ss (⟨#[97, 110, 110]⟩), ss (⟨#[98, 111, 98]⟩), ss (⟨#[99, 105, 100]⟩), ss (⟨#[100, 111, 116]⟩), ss (⟨#[101, 118, 101]⟩)]) rfl (Bw s0 fun i1 H s2 => AeK hcode (by omega) (by omega) rfl s2 A8 (.here) fun z3a iq4 hq4 H mz3 sq4 => ?_)
 have s5 := (sq4.pick A8).tail
 obtain ⟨z3, rfl, hz3⟩ := Mm (l := [⟨#[97, 110, 110]⟩, ⟨#[98, 111, 98]⟩, ⟨#[99, 105, 100]⟩, ⟨#[100, 111, 116]⟩, ⟨#[101, 118, 101]⟩]) (m := 3) mz3 (by decide)
 have e6 : z3.size ≤ 3 := by
  first | omega | (simp only [Dt, Cn]; omega) | (simp; omega)
 exact hk z3 iq4 hq4 _ e6 (s5.sel (.cons (.here) .rest))
theorem Agj (n : Nat) (hn : 1048576 < n) (code : ByteArray) (hcode : code.size ≤ 1048576) (c i : Nat) (h : Int)   {β : Type} {G : Option β → Prop} {KH : KO β} {H : Aa} {L : List Ck} (s0 : Sep H (Cr c code i h :: L)) (hk : ∀ (r0 : List Int) (r0x : AV) (i' : Nat) (h' : Int) (H' : Aa), (Al r0x = true) → (r0.length ≤ 10 ∧ (∀ y ∈ r0, Do y)) → Sep H' (.own r0x 39 (Dr r0) :: Cr c code i' h' :: L) → Gd G (KH (r0x) H')) : Gd G (Dm E0 (n + 6) β 108 [.ptr c 0] H fun x H => KH x H) := by
 rw [Afp, f108]
 try simp only [Ba, A4, At, Be, Cg]
 refine Gv rfl rfl (Sa _ (by omega) code hcode c i h   (s0.pick (.here)) fun r1 r1x iq2 hq2 H lr1x hr1 sq2 => ?_)
 obtain ⟨gr1, or1⟩ := hr1
 refine Fx (m := 8) hcode (by omega) sq2 A8 fun z3 iq4 hq4 H hz3 sq4 => ?_
 replace hz3 : 0 ≤ z3 ∧ z3 < 8 := by omega
 refine Cb (Ad ((decide (z3 = 0))) (fun h5 => ?_) fun h5 => ?_)
 refine Dd h5 (Bp (cs := [i0, si 1, si 65535, si 65536]) rfl (Bw sq4 fun i6 H s7 => Ds hcode (by omega) (by omega) rfl s7 A8 (.here) fun z8a iq9 hq9 H mz8 sq9 => ?_))
 have s10 := (sq9.pick A8).tail
 obtain ⟨z8, rfl, hz8⟩ := Ax (l := [0, 1, 65535, 65536]) (lo := 0) (hi := 65536) mz8 (by decide)
 refine Bp (cs := [.sc (.int .i64 z8)]) rfl (Bw s10 fun i11 H s12 => Vh s12 Co (.here) ⟨_, _, rfl, rfl, rfl, rfl⟩ rfl (by first | omega | (simp only [zbz]; omega)) fun x13 H lx13 s14 => ?_)
 have e15 : (r1 ++ [z8]).length ≤ 10 ∧ (∀ y ∈ (r1 ++ [z8]), Do y) := by
  first | exact ⟨by omega, by assumption⟩ | exact ⟨by simp only [zae, zal, zao, zar]; omega, zaz.2 ⟨by assumption, by intro z hz; simp only [zav, zay, or_false] at hz; first | (subst hz; simp only [Do]; omega) | (rcases hz with rfl | rfl | rfl | rfl | rfl <;> (simp only [Do]; omega))⟩⟩ | exact ⟨by decide, by intro z hz; simp only [zav, zay, or_false] at hz; rcases hz with rfl | rfl | rfl | rfl <;> (simp only [Do]; omega)⟩
 exact hk (r1 ++ [z8]) x13 iq9 hq9 _ lx13 e15 (s14.sel (.cons (.here) (.cons (.here) .rest)))
 refine Cj h5 (Cb (Ad ((decide (z3 = 1))) (fun h16 => ?_) fun h16 => ?_))
 refine Dd h16 (Bp (cs := [si 1, si 2, si 3, si 4]) rfl (Bw sq4 fun i17 H s18 => ?_))
 have s19 := Sep.closeR (ty := 39) (sz := 1) (m := 4) (pre := []) (cells := [.sc (.int .i64 1), .sc (.int .i64 2), .sc (.int .i64 3), .sc (.int .i64 4)]) (post := []) ⟨_, _, rfl, rfl, rfl, rfl⟩ (by simpa using s18.pick (.here)) rfl rfl
 have e20 : ([1, 2, 3, 4] : List Int).length ≤ 10 ∧ (∀ y ∈ ([1, 2, 3, 4] : List Int), Do y) := by
  first | exact ⟨by omega, by assumption⟩ | exact ⟨by simp only [zae, zal, zao, zar]; omega, zaz.2 ⟨by assumption, by intro z hz; simp only [zav, zay, or_false] at hz; first | (subst hz; simp only [Do]; omega) | (rcases hz with rfl | rfl | rfl | rfl | rfl <;> (simp only [Do]; omega))⟩⟩ | exact ⟨by decide, by intro z hz; simp only [zav, zay, or_false] at hz; rcases hz with rfl | rfl | rfl | rfl <;> (simp only [Do]; omega)⟩
 exact hk ([1, 2, 3, 4] : List Int) (.sl i17 0 4 1) iq4 hq4 _ rfl e20 (s19.sel (.cons (.here) (.cons (.here) (.skip .rest))))
 refine Cj h16 (Cb (Ad ((decide (z3 = 2))) (fun h21 => ?_) fun h21 => ?_))
 refine Dd h21 (Bp (cs := [.sc (.int .i64 7), .sc (.int .i64 8), .sc (.int .i64 9), .sc (.int .i64 10), .sc (.int .i64 11)]) rfl (Bw sq4 fun i22 H s23 => AfT (cty := [3]) (q := [7, 8, 9, 10, 11]) s23 ⟨_, _, rfl, rfl, rfl, rfl⟩ Co (O1 (.here) rfl rfl (W0 .nil) (Vz trivial)) (Vz trivial) (by simp only [zao, zar]; omega) fun x24 H lx24 s25 => ?_))
 have e26 : (r1 ++ [7, 8, 9, 10, 11]).length ≤ 10 ∧ (∀ y ∈ (r1 ++ [7, 8, 9, 10, 11]), Do y) := by
  first | exact ⟨by omega, by assumption⟩ | exact ⟨by simp only [zae, zal, zao, zar]; omega, zaz.2 ⟨by assumption, by intro z hz; simp only [zav, zay, or_false] at hz; first | (subst hz; simp only [Do]; omega) | (rcases hz with rfl | rfl | rfl | rfl | rfl <;> (simp only [Do]; omega))⟩⟩ | exact ⟨by decide, by intro z hz; simp only [zav, zay, or_false] at hz; rcases hz with rfl | rfl | rfl | rfl <;> (simp only [Do]; omega)⟩
 exact hk (r1 ++ [7, 8, 9, 10, 11]) x24 iq4 hq4 _ lx24 e26 (s25.sel (.cons (.here) (.cons (.here) .rest)))
 refine Cj h21 ?_
 have e27 : r1.length ≤ 10 ∧ (∀ y ∈ r1, Do y) := by
  first | exact ⟨by omega, by assumption⟩ | exact ⟨by simp only [zae, zal, zao, zar]; omega, zaz.2 ⟨by assumption, by intro z hz; simp only [zav, zay, or_false] at hz; first | (subst hz; simp only [Do]; omega) | (rcases hz with rfl | rfl | rfl | rfl | rfl <;> (simp only [Do]; omega))⟩⟩ | exact ⟨by decide, by intro z hz; simp only [zav, zay, or_false] at hz; rcases hz with rfl | rfl | rfl | rfl <;> (simp only [Do]; omega)⟩
 exact hk r1 r1x iq4 hq4 _ lr1x e27 (sq4.sel (.cons A8 (.cons (.here) .rest)))
theorem Agk (n : Nat) (hn : 1048576 < n) (code : ByteArray) (hcode : code.size ≤ 1048576) (c i : Nat) (h : Int)   {β : Type} {r : Option β} {KH : KO β} {H : Aa} {L : List Ck} (s0 : Sep H (Cr c code i h :: L)) (hk : ∀ (r0 : B5) (r0x6 : AV) (r0x7 : AV) (r0x8 : AV) (i' : Nat) (h' : Int) (H' : Aa), (Al r0x6 = true) → (Al r0x7 = true) → (Al r0x8 = true) → (SessB 700 r0) → Sep H' (.own r0x6 24 (Aj Aq r0.fO.fFl) :: .own r0x7 25 (Aj Ag r0.fO.fQ) :: .own r0x8 39 (Dr r0.fIn) :: Cr c code i' h' :: L) → Gd (· = r) (KH (.agg [.sc (.string r0.fClient), .sc (.int .i64 r0.fBorn), .sc (.bool r0.fClean), .sc (.int .i64 r0.fConn), .sc (.int .i64 r0.fGen), .sc (.int .i64 r0.fO.fLast), r0x6, r0x7, r0x8]) H')) : Gd (· = r) (Dm E0 (n + 20) β 73 [.ptr c 0] H fun x H => KH x H) := by
 rw [Aik, f73]
 try simp only [Cf, Ba, Bk, A2, A9, A4, Ea, At, Be]
 refine Dz s0 fun i1 H s2 => Gv rfl rfl (Agl _ (by omega) code hcode c i h   (s2.pick A8) fun r3 iq4 hq4 H hr3 sq4 => Gv rfl rfl (Aeu _ (by omega) code hcode c iq4 hq4 r3 (by omega) (sq4.pick (.here)) fun r5 r5x6 r5x7 r5x8 iq6 hq6 H lr5x6 lr5x7 lr5x8 hr5 sq6 => ?_))
 have kr5 := hr5
 obtain ⟨⟨oar5, obr5, ocr5, odr5, oer5, ofr5⟩, wr5⟩ := kr5
 have gr5 := K3 hr5
 refine Dz sq6 fun i7 H s8 => Bt (cs' := [ss r5.fClient, si r5.fBorn, sb r5.fClean, si r5.fConn, si r5.fGen, si r5.fO.fLast, r5x6, r5x7, r5x8]) s8 (.here) (Ac (Ab rfl (Ab rfl (Ab rfl (Ab rfl (Ab rfl (Ab rfl (Ab lr5x6 (Ab lr5x7 (Ab lr5x8 rfl)))))))))) rfl (Bd rfl) rfl fun H s9 => Fx (m := 18) hcode (by omega) s9 Fq fun z10 iq11 hq11 H hz10 sq11 => ?_
 replace hz10 : 0 ≤ z10 ∧ z10 < 18 := by omega
 refine Cb (Ad ((decide (z10 = 0))) (fun h12 => ?_) fun h12 => ?_)
 refine Dd h12 (Bp (cs := [sE, ss (⟨#[255]⟩)]) rfl (Bw sq11 fun i13 H s14 => AeK hcode (by omega) (by omega) rfl s14 A8 (.here) fun z15a iq16 hq16 H mz15 sq16 => ?_))
 have s17 := (sq16.pick A8).tail
 obtain ⟨z15, rfl, hz15⟩ := Mm (l := [⟨#[]⟩, ⟨#[255]⟩]) (m := 1) mz15 (by decide)
 refine Am (o' := 0) rfl (C6 s17 A8 rfl rfl fun H s18 => Af s18 (.here) rfl (Bt (cs' := [ss z15, si r5.fBorn, sb r5.fClean, si r5.fConn, si r5.fGen, si r5.fO.fLast, r5x6, r5x7, r5x8]) s18 Jg (Ac (Ab rfl (Ab rfl (Ab rfl (Ab rfl (Ab rfl (Ab rfl (Ab lr5x6 (Ab lr5x7 (Ab lr5x8 rfl)))))))))) rfl (Bd rfl) rfl fun H s19 => Af s19 (.here) rfl ?_))
 have e20 : SessB 700 (⟨z15, r5.fBorn, r5.fClean, r5.fConn, r5.fGen, r5.fO, r5.fIn⟩ : B5) := by
  first | exact SessB.mono (by assumption) (by omega) | (refine E5 (k := 400) (m := 118) ?_ ?_ ?_ ?_ ?_ ?_ ?_ <;> first | assumption | (simp only [Do]; omega) | (simp only [Hz]; omega) | exact OutB.mono (by assumption) (by omega) | exact ⟨by omega, by assumption⟩ | omega)
 exact hk (⟨z15, r5.fBorn, r5.fClean, r5.fConn, r5.fGen, r5.fO, r5.fIn⟩ : B5) r5x6 r5x7 r5x8 iq16 hq16 _ lr5x6 lr5x7 lr5x8 e20 (s19.sel (.cons C1 (.cons C1 (.cons C1 (.cons Co Q8)))))
 refine Cj h12 (Cb (Ad ((decide (z10 = 1))) (fun h21 => ?_) fun h21 => ?_))
 refine Dd h21 (Am (o' := 1) rfl (C6 sq11 A8 rfl rfl fun H s22 => Af s22 (.here) rfl (Bt (cs' := [ss r5.fClient, si (-1), sb r5.fClean, si r5.fConn, si r5.fGen, si r5.fO.fLast, r5x6, r5x7, r5x8]) s22 Jg (Ac (Ab rfl (Ab rfl (Ab rfl (Ab rfl (Ab rfl (Ab rfl (Ab lr5x6 (Ab lr5x7 (Ab lr5x8 rfl)))))))))) rfl (Bd rfl) rfl fun H s23 => Af s23 (.here) rfl ?_)))
 have e24 : SessB 700 (⟨r5.fClient, (-1), r5.fClean, r5.fConn, r5.fGen, r5.fO, r5.fIn⟩ : B5) := by
  first | exact SessB.mono (by assumption) (by omega) | (refine E5 (k := 400) (m := 118) ?_ ?_ ?_ ?_ ?_ ?_ ?_ <;> first | assumption | (simp only [Do]; omega) | (simp only [Hz]; omega) | exact OutB.mono (by assumption) (by omega) | exact ⟨by omega, by assumption⟩ | omega)
 exact hk (⟨r5.fClient, (-1), r5.fClean, r5.fConn, r5.fGen, r5.fO, r5.fIn⟩ : B5) r5x6 r5x7 r5x8 iq11 hq11 _ lr5x6 lr5x7 lr5x8 e24 (s23.sel (.cons C1 (.cons C1 (.cons C1 (.cons Co Q8)))))
 refine Cj h21 (Cb (Ad ((decide (z10 = 2))) (fun h25 => ?_) fun h25 => ?_))
 refine Dd h25 (Am (o' := 2) rfl (Bg (c := sb r5.fClean) sq11 A8 rfl (L4 (Am (o' := 2) rfl (C6 sq11 A8 rfl rfl fun H s26 => Af s26 (.here) rfl (Bt (cs' := [ss r5.fClient, si r5.fBorn, sb (!r5.fClean), si r5.fConn, si r5.fGen, si r5.fO.fLast, r5x6, r5x7, r5x8]) s26 Jg (Ac (Ab rfl (Ab rfl (Ab rfl (Ab rfl (Ab rfl (Ab rfl (Ab lr5x6 (Ab lr5x7 (Ab lr5x8 rfl)))))))))) rfl (Bd rfl) rfl fun H s27 => Af s27 (.here) rfl ?_))))))
 have e28 : SessB 700 (⟨r5.fClient, r5.fBorn, (!r5.fClean), r5.fConn, r5.fGen, r5.fO, r5.fIn⟩ : B5) := by
  first | exact SessB.mono (by assumption) (by omega) | (refine E5 (k := 400) (m := 118) ?_ ?_ ?_ ?_ ?_ ?_ ?_ <;> first | assumption | (simp only [Do]; omega) | (simp only [Hz]; omega) | exact OutB.mono (by assumption) (by omega) | exact ⟨by omega, by assumption⟩ | omega)
 exact hk (⟨r5.fClient, r5.fBorn, (!r5.fClean), r5.fConn, r5.fGen, r5.fO, r5.fIn⟩ : B5) r5x6 r5x7 r5x8 iq11 hq11 _ lr5x6 lr5x7 lr5x8 e28 (s27.sel (.cons C1 (.cons C1 (.cons C1 (.cons Co Q8)))))
 refine Cj h25 (Cb (Ad ((decide (z10 = 3))) (fun h29 => ?_) fun h29 => ?_))
 refine Dd h29 (Bp (cs := [si (-2), si (-1), si 4]) rfl (Bw sq11 fun i30 H s31 => Ds hcode (by omega) (by omega) rfl s31 A8 (.here) fun z32a iq33 hq33 H mz32 sq33 => ?_))
 have s34 := (sq33.pick A8).tail
 obtain ⟨z32, rfl, hz32⟩ := Ax (l := [(-2), (-1), 4]) (lo := -2) (hi := 4) mz32 (by decide)
 refine Am (o' := 3) rfl (C6 s34 A8 rfl rfl fun H s35 => Af s35 (.here) rfl (Bt (cs' := [ss r5.fClient, si r5.fBorn, sb r5.fClean, si z32, si r5.fGen, si r5.fO.fLast, r5x6, r5x7, r5x8]) s35 Jg (Ac (Ab rfl (Ab rfl (Ab rfl (Ab rfl (Ab rfl (Ab rfl (Ab lr5x6 (Ab lr5x7 (Ab lr5x8 rfl)))))))))) rfl (Bd rfl) rfl fun H s36 => Af s36 (.here) rfl ?_))
 have e37 : SessB 700 (⟨r5.fClient, r5.fBorn, r5.fClean, z32, r5.fGen, r5.fO, r5.fIn⟩ : B5) := by
  first | exact SessB.mono (by assumption) (by omega) | (refine E5 (k := 400) (m := 118) ?_ ?_ ?_ ?_ ?_ ?_ ?_ <;> first | assumption | (simp only [Do]; omega) | (simp only [Hz]; omega) | exact OutB.mono (by assumption) (by omega) | exact ⟨by omega, by assumption⟩ | omega)
 exact hk (⟨r5.fClient, r5.fBorn, r5.fClean, z32, r5.fGen, r5.fO, r5.fIn⟩ : B5) r5x6 r5x7 r5x8 iq33 hq33 _ lr5x6 lr5x7 lr5x8 e37 (s36.sel (.cons C1 (.cons C1 (.cons C1 (.cons Co Q8)))))
 refine Cj h29 (Cb (Ad ((decide (z10 = 4))) (fun h38 => ?_) fun h38 => ?_))
 refine Dd h38 (Bp (cs := [si (-1), i0]) rfl (Bw sq11 fun i39 H s40 => Ds hcode (by omega) (by omega) rfl s40 A8 (.here) fun z41a iq42 hq42 H mz41 sq42 => ?_))
 have s43 := (sq42.pick A8).tail
 obtain ⟨z41, rfl, hz41⟩ := Ax (l := [(-1), 0]) (lo := -1) (hi := 0) mz41 (by decide)
 refine Am (o' := 4) rfl (C6 s43 A8 rfl rfl fun H s44 => Af s44 (.here) rfl (Bt (cs' := [ss r5.fClient, si r5.fBorn, sb r5.fClean, si r5.fConn, si z41, si r5.fO.fLast, r5x6, r5x7, r5x8]) s44 Jg (Ac (Ab rfl (Ab rfl (Ab rfl (Ab rfl (Ab rfl (Ab rfl (Ab lr5x6 (Ab lr5x7 (Ab lr5x8 rfl)))))))))) rfl (Bd rfl) rfl fun H s45 => Af s45 (.here) rfl ?_))
 have e46 : SessB 700 (⟨r5.fClient, r5.fBorn, r5.fClean, r5.fConn, z41, r5.fO, r5.fIn⟩ : B5) := by
  first | exact SessB.mono (by assumption) (by omega) | (refine E5 (k := 400) (m := 118) ?_ ?_ ?_ ?_ ?_ ?_ ?_ <;> first | assumption | (simp only [Do]; omega) | (simp only [Hz]; omega) | exact OutB.mono (by assumption) (by omega) | exact ⟨by omega, by assumption⟩ | omega)
 exact hk (⟨r5.fClient, r5.fBorn, r5.fClean, r5.fConn, z41, r5.fO, r5.fIn⟩ : B5) r5x6 r5x7 r5x8 iq42 hq42 _ lr5x6 lr5x7 lr5x8 e46 (s45.sel (.cons C1 (.cons C1 (.cons C1 (.cons Co Q8)))))
 refine Cj h38 (Cb (Ad ((decide (z10 = 5))) (fun h47 => ?_) fun h47 => ?_))
 refine Dd h47 (Gv rfl rfl (Agi _ (by omega) code hcode c iq11 hq11   (sq11.pick (.here)) fun r48 r48x1 r48x2 iq49 hq49 H lr48x1 lr48x2 hr48 sq49 => ?_))
 have kr48 := hr48
 obtain ⟨⟨oar48, obr48, ocr48⟩, wr48⟩ := kr48
 have gr48 := Mn hr48
 refine Am (o' := 5) rfl (Bt (cs' := [ss r5.fClient, si r5.fBorn, sb r5.fClean, si r5.fConn, si r5.fGen, si r48.fLast, r48x1, r48x2, r5x8]) sq49 C1 (Ac (Ab rfl (Ab lr48x1 (Ab lr48x2 rfl)))) rfl (Bd rfl) rfl fun H s50 => Af s50 (.here) rfl (Bt (cs' := [ss r5.fClient, si r5.fBorn, sb r5.fClean, si r5.fConn, si r5.fGen, si r48.fLast, r48x1, r48x2, r5x8]) s50 Qs (Ac (Ab rfl (Ab rfl (Ab rfl (Ab rfl (Ab rfl (Ab rfl (Ab lr48x1 (Ab lr48x2 (Ab lr5x8 rfl)))))))))) rfl (Bd rfl) rfl fun H s51 => Af s51 (.here) rfl ?_))
 have e52 : SessB 700 (⟨r5.fClient, r5.fBorn, r5.fClean, r5.fConn, r5.fGen, r48, r5.fIn⟩ : B5) := by
  first | exact SessB.mono (by assumption) (by omega) | (refine E5 (k := 400) (m := 118) ?_ ?_ ?_ ?_ ?_ ?_ ?_ <;> first | assumption | (simp only [Do]; omega) | (simp only [Hz]; omega) | exact OutB.mono (by assumption) (by omega) | exact ⟨by omega, by assumption⟩ | omega)
 exact hk (⟨r5.fClient, r5.fBorn, r5.fClean, r5.fConn, r5.fGen, r48, r5.fIn⟩ : B5) r48x1 r48x2 r5x8 iq49 hq49 _ lr48x1 lr48x2 lr5x8 e52 (s51.sel (.cons Co (.cons Co (.cons Jg (.cons Co zS4)))))
 refine Cj h47 (Cb (Ad ((decide (z10 = 6))) (fun h53 => ?_) fun h53 => ?_))
 refine Dd h53 (Gv rfl rfl (Agj _ (by omega) code hcode c iq11 hq11   (sq11.pick (.here)) fun r54 r54x iq55 hq55 H lr54x hr54 sq55 => ?_))
 obtain ⟨gr54, or54⟩ := hr54
 refine Am (o' := 8) rfl (C6 sq55 Co lr54x rfl fun H s56 => Af s56 (.here) rfl (Bt (cs' := [ss r5.fClient, si r5.fBorn, sb r5.fClean, si r5.fConn, si r5.fGen, si r5.fO.fLast, r5x6, r5x7, r54x]) s56 Tl (Ac (Ab rfl (Ab rfl (Ab rfl (Ab rfl (Ab rfl (Ab rfl (Ab lr5x6 (Ab lr5x7 (Ab lr54x rfl)))))))))) rfl (Bd rfl) rfl fun H s57 => Af s57 (.here) rfl ?_))
 have e58 : SessB 700 (⟨r5.fClient, r5.fBorn, r5.fClean, r5.fConn, r5.fGen, r5.fO, r54⟩ : B5) := by
  first | exact SessB.mono (by assumption) (by omega) | (refine E5 (k := 400) (m := 118) ?_ ?_ ?_ ?_ ?_ ?_ ?_ <;> first | assumption | (simp only [Do]; omega) | (simp only [Hz]; omega) | exact OutB.mono (by assumption) (by omega) | exact ⟨by omega, by assumption⟩ | omega)
 exact hk (⟨r5.fClient, r5.fBorn, r5.fClean, r5.fConn, r5.fGen, r5.fO, r54⟩ : B5) r5x6 r5x7 r54x iq55 hq55 _ lr5x6 lr5x7 lr54x e58 (s57.sel (.cons Fq (.cons Fq (.cons Co (.cons Co zS3)))))
 refine Cj h53 (Af sq11 A8 rfl (Bt (cs' := [ss r5.fClient, si r5.fBorn, sb r5.fClean, si r5.fConn, si r5.fGen, si r5.fO.fLast, r5x6, r5x7, r5x8]) sq11 Jg (Ac (Ab rfl (Ab rfl (Ab rfl (Ab rfl (Ab rfl (Ab rfl (Ab lr5x6 (Ab lr5x7 (Ab lr5x8 rfl)))))))))) rfl (Bd rfl) rfl fun H s59 => Af s59 (.here) rfl ?_))
 have e60 : SessB 700 (r5 : B5) := by
  first | exact SessB.mono (by assumption) (by omega) | (refine E5 (k := 400) (m := 118) ?_ ?_ ?_ ?_ ?_ ?_ ?_ <;> first | assumption | (simp only [Do]; omega) | (simp only [Hz]; omega) | exact OutB.mono (by assumption) (by omega) | exact ⟨by omega, by assumption⟩ | omega)
 exact hk (r5 : B5) r5x6 r5x7 r5x8 iq11 hq11 _ lr5x6 lr5x7 lr5x8 e60 (s59.sel (.cons C1 (.cons C1 (.cons C1 (.cons A8 Q8)))))
end
section
open Go
theorem Aku (n ty : Nat) (s : ByteArray) : Cy E0 (n + 1) ty 7 [Bj s] = some (.sc (.bool (decide ((1048576 : Int) < (s.size : Nat))))) := by
 rw [Az, Aja, f7]
 simp only [X1, Xz]
 refine Dh ?_
 rfl
theorem Uu (m : Br) : Ew m m = true := by simp [Ew]
theorem Tw : ∀ (l : List Br), Hk Ew l l = true
 | [] => rfl
 | x :: l => by simp [Hk, Uu, Tw l]
theorem AaZ (l : List Br) : K6 l l = true := by
 unfold K6
 rw [if_pos (zai _), zaI, za6]
 exact Tw _
theorem AiM {b : Nat} {s : B5} {bo : Int} {m : Br} (h : SessB b s) (hm : Ce m) : SessB (b + 1 + Bc m) (Bv s bo m) := by
 unfold Bv
 split
 have h0 : OutB (D6 s.fO) s.fO := ⟨h.1.2.2.2.2.1.1, by unfold D6; omega⟩
 have h1 := Vt h0 hm
 have h2 := h1.wt
 have h3 := h.2
 refine ⟨⟨h.1.1, h.1.2.1, h.1.2.2.1, h.1.2.2.2.1, h1.mono (by omega), h.1.2.2.2.2.2⟩, ?_⟩
 show s.fClient.size + (D6 (A1 s.fO m) + s.fIn.length) ≤ _
 omega
 exact h.mono (by omega)
theorem Ako (n : Nat) (hn : 1048576 < n) (s : B5) (bo : Int) (m : Br) (h : SessB 700 s) (h2 : Do bo) (hm : Ce m) (hw : Bc m ≤ 102) : ∃ x co, x = Bv s bo m ∧ co = Bl s bo m ∧ SessB 803 x ∧ Cy E0 (n + 13) 56 22 [.agg (Bn s), .sc (.int .i64 bo), .agg (Ag m)] = some (.tup [.agg (Bn x), .sc (.int .i64 co)]) ∧ Cy E0 (n + 13) 56 23 [.agg (Bn s), .sc (.int .i64 bo), .agg (Ag m)] = some (.tup [.agg (Bn x), .sc (.int .i64 co)]) :=
 ⟨_, _, rfl, rfl, (AiM h hm).mono (by omega), Rx n hn s bo m (h.ok (by decide)) h2 hm (za2 h.wt (by decide)) (by omega), S4 n hn s bo m (h.ok (by decide)) h2 hm (za2 h.wt (by decide)) (by omega)⟩
theorem AbZ {q : List Br} {m : Br} (h : Du q m = 0) : Gf q m = q ++ [m] ∧ Ed (q ++ [m]) = true := by
 unfold Gf
 unfold Du at h
 split at h
 rename_i hc
 split at h
 rename_i hl
 refine ⟨if_pos ⟨hc, hl⟩, ?_⟩
 simp only [Ed, zak, zaE, decide_eq_true_eq] at hc ⊢
 refine ⟨fun y hy => ?_, by simp; omega⟩
 rcases za9.1 hy with hy | hy
 exact hc.1.1 y hy
 rw [zbm.1 hy]
 exact hc.2
 split at h <;> omega
 omega
theorem AeC {q : List Br} {m : Br} (h : Du q m ≠ 0) : Gf q m = q := by
 unfold Gf
 unfold Du at h
 split
 rename_i hc
 rw [if_pos hc.1, if_pos hc.2] at h
 exact absurd rfl h
 rfl
theorem Ag7 (q : List Br) (m : Br) : Du q m = 0 ∨ Du q m = 1 ∨ Du q m = 2 := by
 unfold Du
 split
 split
 simp
 split <;> simp
 simp
section
variable {s x : B5} {b co : Int} {m : Br}
theorem Aaw (ex : x = Bv s b m) (ec : co = Bl s b m) (h : Dc s = false ∨ decide (s.fBorn = b) = false) : co = 3 ∧ x = s := by
 have e : (Dc s && decide (s.fBorn = b)) = false := by
  rcases h with h | h <;> rw [h] <;> simp
 subst ex ec
 unfold Bv Bl
 rw [e]
 exact ⟨rfl, rfl⟩
theorem Gt (ex : x = Bv s b m) (ec : co = Bl s b m) (h : Dc s = false) : co = 3 ∧ x = s := Aaw ex ec (.inl h)
theorem Gu (ex : x = Bv s b m) (ec : co = Bl s b m) (h : decide (s.fBorn = b) = false) : co = 3 ∧ x = s := Aaw ex ec (.inr h)
theorem Aea (ex : x = Bv s b m) (ec : co = Bl s b m) (h : Dc s = true) (hb : decide (s.fBorn = b) = true) : x = { s with fO := { s.fO with fQ := Gf s.fO.fQ m } } ∧ co = (if Du s.fO.fQ m = 2 ∧ s.fConn = -1 then 1 else Du s.fO.fQ m) := by
 have e : (Dc s && decide (s.fBorn = b)) = true := by rw [h, hb]; rfl
 have h2 := (Zu s h).2.1
 subst ex ec
 unfold Bv Bl A1 En
 rw [e, h2]
 exact ⟨rfl, rfl⟩
theorem AjM (ex : x = Bv s b m) (ec : co = Bl s b m) (h : Dc s = true) (hb : decide (s.fBorn = b) = true) (hc : decide (co = 0) = false) : x = s := by
 obtain ⟨e1, e2⟩ := Aea ex ec h hb
 have hc := of_decide_eq_false hc
 have h3 : Du s.fO.fQ m ≠ 0 := by
  intro h0
  rw [h0] at e2
  rw [if_neg (by omega)] at e2
  omega
 rw [e1, AeC h3]
theorem AfR (ex : x = Bv s b m) (ec : co = Bl s b m) (h : Dc s = true) (hb : decide (s.fBorn = b) = true) (hc : decide (co = 0) = false) (hn : decide (s.fConn = -1) = true) : co = 1 := by
 obtain ⟨e1, e2⟩ := Aea ex ec h hb
 have hc := of_decide_eq_false hc
 have hn := of_decide_eq_true hn
 have h3 := Ag7 s.fO.fQ m
 split at e2 <;> omega
theorem Ib (ex : x = Bv s b m) (ec : co = Bl s b m) (h : Dc s = true) (hb : decide (s.fBorn = b) = true) (hc : decide (co = 0) = true) : x = { s with fO := { s.fO with fQ := s.fO.fQ ++ [m] } } ∧ Dc x = true := by
 obtain ⟨e1, e2⟩ := Aea ex ec h hb
 have hc := of_decide_eq_true hc
 have h3 : Du s.fO.fQ m = 0 := by
  split at e2 <;> omega
 obtain ⟨h4, h5⟩ := AbZ h3
 rw [h4] at e1
 refine ⟨e1, ?_⟩
 subst e1
 unfold Dc at h ⊢
 simp only [zak] at h
 obtain ⟨⟨⟨⟨g1, g2⟩, g3⟩, g4⟩, g5⟩ := h
 have g6 : F5 { s.fO with fQ := s.fO.fQ ++ [m] } = true := by
  unfold F5 at g4 ⊢
  simp only [zak] at g4 ⊢
  exact ⟨g4.1, ⟨⟨g4.2.1.1, g4.2.1.2⟩, h5⟩⟩
 simp only [g1, g2, g3, g5, g6, Bool.true_and, Bool.and_true]
theorem AjN (ex : x = Bv s b m) (ec : co = Bl s b m) (h : Dc s = true) (hb : decide (s.fBorn = b) = true) (hc : decide (co = 0) = true) : x.fO.fQ = s.fO.fQ ++ [m] := by rw [(Ib ex ec h hb hc).1]
theorem Ia (ex : x = Bv s b m) (ec : co = Bl s b m) (h : Dc s = true) (hb : decide (s.fBorn = b) = true) (hc : decide (co = 0) = true) : ((x.fO.fQ.length : Nat) : Int) = ((s.fO.fQ.length : Nat) : Int) + 1 := by
 rw [AjN ex ec h hb hc, zae]
 rfl
theorem T5 {y : Br} {i : Int} (ex : x = Bv s b m) (ec : co = Bl s b m) (h : Dc s = true) (hb : decide (s.fBorn = b) = true) (hc : decide (co = 0) = true) (hi : i = ((s.fO.fQ.length : Nat) : Int)) (hy : x.fO.fQ[i.toNat]? = some y) : Ew y m = true := by
 rw [AjN ex ec h hb hc, hi, zbf, zaf (zai _), zaI] at hy
 have : m = y := by simpa using hy
 rw [this]
 exact Uu y
theorem AfQ (ex : x = Bv s b m) (ec : co = Bl s b m) (h : Dc s = true) (hb : decide (s.fBorn = b) = true) (hc : decide (co = 0) = true) : x.fConn = s.fConn := by rw [(Ib ex ec h hb hc).1]
end
theorem Aca (n : Nat) (hn : 1048576 < n) (a : List Br) (b : List Br) (ha : a.length ≤ 1048576) (hb : b.length ≤ 1048576) : Cy E0 (n + 8) 4 25 [Aj Ag a, Aj Ag b] = some (.sc (.bool (decide (a.length = b.length) && K6 a b))) := by
 rw [Az, AhI, f25]
 refine Iq (G := (· = some (sb (decide (a.length = b.length) && K6 a b)))) ?_
 try simp only [X1, Xz]
 have s0 : Sep [] [] := Io
 refine T7 (T7 (Cb (Ad ((decide (((a.length : Nat) : Int) = ((b.length : Nat) : Int)))) (fun h1 => ?_) fun h1 => ?_)))
 ·refine B4 h1 (B4 h1 (B4 h1 (Fm (v := (.bool (K6 a b))) s0 rfl (.cons .ro (.cons .ro .nil)) (AbN (n + 1) (by omega) _ a b (by omega) (by omega)) (It h1 (Ee rfl ?_)))))
  first | rfl | (simp_all; done) | (simp_all; omega)
 ·refine D9 h1 (D9 h1 (D9 h1 (Is h1 (Ee rfl ?_))))
  first | rfl | (simp_all; done) | (simp_all; omega)
theorem Acb (n : Nat) (hn : 1048576 < n) (a b : List Br) (e : a = b) (ha : a.length ≤ 1048576) : Cy E0 (n + 8) 4 25 [Aj Ag a, Aj Ag b] = some (.sc (.bool true)) := by
 subst e
 rw [Aca n hn a a ha ha, AaZ a]
 simp
theorem To (n : Nat) (hn : 1048576 < n) (code : ByteArray) (hcode : code.size ≤ 1048576)   {β : Type} {r : Option β} {KH : KO β} {H : Aa} {L : List Ck} (s0 : Sep H (L)) (hk : ∀ (r0 : B5) (r0x6 : AV) (r0x7 : AV) (r0x8 : AV) (r1 : Int) (r2 : Br) (r2x1 : AV) (H' : Aa), (Al r0x6 = true) → (Al r0x7 = true) → (Al r0x8 = true) → (SessB 700 r0) → (-9223372036854775808 ≤ r1 ∧ r1 ≤ 9223372036854775807) → (Al r2x1 = true) → (Ce r2 ∧ Bc r2 ≤ 102) → Sep H' (.own r0x6 24 (Aj Aq r0.fO.fFl) :: .own r0x7 25 (Aj Ag r0.fO.fQ) :: .own r0x8 39 (Dr r0.fIn) :: .own r2x1 22 (Bj r2.fBody) :: L) → Gd (· = r) (KH (.tup [.agg [.sc (.string r0.fClient), .sc (.int .i64 r0.fBorn), .sc (.bool r0.fClean), .sc (.int .i64 r0.fConn), .sc (.int .i64 r0.fGen), .sc (.int .i64 r0.fO.fLast), r0x6, r0x7, r0x8], .sc (.int .i64 r1), .agg [.sc (.string r2.fTopic), r2x1, .sc (.int .i64 r2.fQos), .sc (.bool r2.fRetain)]]) H')) : Gd (· = r) (Dm E0 (n + 22) β 21 [Bj code] H fun x H => KH x H) := by
 rw [AhE, f21]
 try simp only [X1, Xz]
 refine Dz s0 fun i1 H s2 => Dz s2 fun i3 H s4 => AkG hcode (by omega) s4 fun c5 hq6 H sq6 => Gv rfl rfl (Agk _ (by omega) code hcode c5 0 hq6   (sq6.pick (.here)) fun r7 r7x6 r7x7 r7x8 iq8 hq8 H lr7x6 lr7x7 lr7x8 hr7 sq8 => ?_)
 have kr7 := hr7
 obtain ⟨⟨oar7, obr7, ocr7, odr7, oer7, ofr7⟩, wr7⟩ := kr7
 have gr7 := K3 hr7
 have ubr7 := obr7
 simp only [Do] at ubr7
 refine Dz sq8 fun i9 H s10 => Bt (cs' := [ss r7.fClient, si r7.fBorn, sb r7.fClean, si r7.fConn, si r7.fGen, si r7.fO.fLast, r7x6, r7x7, r7x8]) s10 (.here) (Ac (Ab rfl (Ab rfl (Ab rfl (Ab rfl (Ab rfl (Ab rfl (Ab lr7x6 (Ab lr7x7 (Ab lr7x8 rfl)))))))))) rfl (Bd rfl) rfl fun H s11 => Am (o' := 1) rfl (Bg (c := si r7.fBorn) s11 (.here) rfl (Am (o' := 1) rfl (Bg (c := si r7.fBorn) s11 (.here) rfl (Am (o' := 1) rfl (Bg (c := si r7.fBorn) s11 (.here) rfl (Gd.bothE ?_ ?_))))))
 refine Af s11 (.here) rfl (Bp (cs := [si r7.fBorn, si r7.fBorn, si r7.fBorn, i0, si 9]) rfl (Bw s11 fun i12 H s13 => Ds hcode (by omega) (by omega) rfl s13 Jg (.here) fun z14a iq15 hq15 H mz14 sq15 => ?_))
 have s16 := (sq15.pick A8).tail
 obtain ⟨z14, rfl, hz14⟩ := Ax (l := [r7.fBorn, r7.fBorn, r7.fBorn, 0, 9]) (lo := -9223372036854775808) (hi := 9223372036854775807) mz14 (by simp only [zav, zay, or_false, forall_eq_or_imp, forall_eq]; omega)
 refine Gv rfl rfl (Lo _ (by omega) code hcode c5 iq15 hq15   (s16.pick (.here)) fun r17 r17x1 iq18 hq18 H lr17x1 hr17 sq18 => ?_)
 obtain ⟨or17, wr17⟩ := hr17
 have ur17 := or17
 have vr17 := wr17
 simp only [Ce, Bc, Hz, Do, and_true, true_and] at ur17 vr17
 refine Bt (cs' := [ss r7.fClient, si r7.fBorn, sb r7.fClean, si r7.fConn, si r7.fGen, si r7.fO.fLast, r7x6, r7x7, r7x8]) sq18 Qs (Ac (Ab rfl (Ab rfl (Ab rfl (Ab rfl (Ab rfl (Ab rfl (Ab lr7x6 (Ab lr7x7 (Ab lr7x8 rfl)))))))))) rfl (Bd rfl) rfl fun H s19 => Bt (cs' := [ss r17.fTopic, r17x1, si r17.fQos, sb r17.fRetain]) s19 Qs (Ac (Ab rfl (Ab lr17x1 rfl))) rfl (Bd rfl) rfl fun H s20 => Af s20 A8 rfl (Af s20 (.here) rfl ?_)
 have e21 : SessB 700 (r7 : B5) := by
  first | assumption | exact hinv | (apply E5 <;> first | assumption | omega | (unfold Do; omega) | (intro z hz; cases hz; done))
 have e22 : -9223372036854775808 ≤ z14 ∧ z14 ≤ 9223372036854775807 := by
  first | omega | (simp only [Dt, Cn]; omega) | (simp; omega)
 have e23 : Ce (r17 : Br) ∧ Bc (r17 : Br) ≤ 102 := by
  simp only [Ce, Bc, Hz, Do, and_true, true_and, Cn]; first | omega | ((repeat' apply And.intro) <;> first | trivial | omega | assumption | (intro y hy; cases hy; done))
 exact hk (r7 : B5) r7x6 r7x7 r7x8 z14 (r17 : Br) r17x1 _ lr7x6 lr7x7 lr7x8 e21 e22 lr17x1 e23 (s20.sel (.cons Jg (.cons Jg (.cons Jg (.cons Co zS4)))))
 refine Bp (cs := [si r7.fBorn, si r7.fBorn, si r7.fBorn, i0, si 9]) rfl (Bw s11 fun i24 H s25 => Gd.bothE ?_ ?_)
 refine Af s25 A8 rfl (Ds hcode (by omega) (by omega) rfl s25 Jg (.here) fun z26a iq27 hq27 H mz26 sq27 => ?_)
 have s28 := (sq27.pick A8).tail
 obtain ⟨z26, rfl, hz26⟩ := Ax (l := [r7.fBorn, r7.fBorn, r7.fBorn, 0, 9]) (lo := -9223372036854775808) (hi := 9223372036854775807) mz26 (by simp only [zav, zay, or_false, forall_eq_or_imp, forall_eq]; omega)
 refine Gv rfl rfl (Lo _ (by omega) code hcode c5 iq27 hq27   (s28.pick (.here)) fun r29 r29x1 iq30 hq30 H lr29x1 hr29 sq30 => ?_)
 obtain ⟨or29, wr29⟩ := hr29
 have ur29 := or29
 have vr29 := wr29
 simp only [Ce, Bc, Hz, Do, and_true, true_and] at ur29 vr29
 refine Bt (cs' := [ss r7.fClient, si r7.fBorn, sb r7.fClean, si r7.fConn, si r7.fGen, si r7.fO.fLast, r7x6, r7x7, r7x8]) sq30 Qs (Ac (Ab rfl (Ab rfl (Ab rfl (Ab rfl (Ab rfl (Ab rfl (Ab lr7x6 (Ab lr7x7 (Ab lr7x8 rfl)))))))))) rfl (Bd rfl) rfl fun H s31 => Bt (cs' := [ss r29.fTopic, r29x1, si r29.fQos, sb r29.fRetain]) s31 Qs (Ac (Ab rfl (Ab lr29x1 rfl))) rfl (Bd rfl) rfl fun H s32 => Af s32 A8 rfl (Af s32 (.here) rfl ?_)
 have e33 : SessB 700 (r7 : B5) := by
  first | assumption | exact hinv | (apply E5 <;> first | assumption | omega | (unfold Do; omega) | (intro z hz; cases hz; done))
 have e34 : -9223372036854775808 ≤ z26 ∧ z26 ≤ 9223372036854775807 := by
  first | omega | (simp only [Dt, Cn]; omega) | (simp; omega)
 have e35 : Ce (r29 : Br) ∧ Bc (r29 : Br) ≤ 102 := by
  simp only [Ce, Bc, Hz, Do, and_true, true_and, Cn]; first | omega | ((repeat' apply And.intro) <;> first | trivial | omega | assumption | (intro y hy; cases hy; done))
 exact hk (r7 : B5) r7x6 r7x7 r7x8 z26 (r29 : Br) r29x1 _ lr7x6 lr7x7 lr7x8 e33 e34 lr29x1 e35 (s32.sel (.cons Jg (.cons Jg (.cons Jg (.cons Co zS4)))))
 refine Ds hcode (by omega) (by omega) rfl s25 Jg (.here) fun z36a iq37 hq37 H mz36 sq37 => ?_
 have s38 := (sq37.pick A8).tail
 obtain ⟨z36, rfl, hz36⟩ := Ax (l := [r7.fBorn, r7.fBorn, r7.fBorn, 0, 9]) (lo := -9223372036854775808) (hi := 9223372036854775807) mz36 (by simp only [zav, zay, or_false, forall_eq_or_imp, forall_eq]; omega)
 refine Gd.bothE ?_ ?_
 refine Af s38 A8 rfl (Gv rfl rfl (Lo _ (by omega) code hcode c5 iq37 hq37   (s38.pick (.here)) fun r39 r39x1 iq40 hq40 H lr39x1 hr39 sq40 => ?_))
 obtain ⟨or39, wr39⟩ := hr39
 have ur39 := or39
 have vr39 := wr39
 simp only [Ce, Bc, Hz, Do, and_true, true_and] at ur39 vr39
 refine Bt (cs' := [ss r7.fClient, si r7.fBorn, sb r7.fClean, si r7.fConn, si r7.fGen, si r7.fO.fLast, r7x6, r7x7, r7x8]) sq40 Qs (Ac (Ab rfl (Ab rfl (Ab rfl (Ab rfl (Ab rfl (Ab rfl (Ab lr7x6 (Ab lr7x7 (Ab lr7x8 rfl)))))))))) rfl (Bd rfl) rfl fun H s41 => Bt (cs' := [ss r39.fTopic, r39x1, si r39.fQos, sb r39.fRetain]) s41 Qs (Ac (Ab rfl (Ab lr39x1 rfl))) rfl (Bd rfl) rfl fun H s42 => Af s42 A8 rfl (Af s42 (.here) rfl ?_)
 have e43 : SessB 700 (r7 : B5) := by
  first | assumption | exact hinv | (apply E5 <;> first | assumption | omega | (unfold Do; omega) | (intro z hz; cases hz; done))
 have e44 : -9223372036854775808 ≤ z36 ∧ z36 ≤ 9223372036854775807 := by
  first | omega | (simp only [Dt, Cn]; omega) | (simp; omega)
 have e45 : Ce (r39 : Br) ∧ Bc (r39 : Br) ≤ 102 := by
  simp only [Ce, Bc, Hz, Do, and_true, true_and, Cn]; first | omega | ((repeat' apply And.intro) <;> first | trivial | omega | assumption | (intro y hy; cases hy; done))
 exact hk (r7 : B5) r7x6 r7x7 r7x8 z36 (r39 : Br) r39x1 _ lr7x6 lr7x7 lr7x8 e43 e44 lr39x1 e45 (s42.sel (.cons Jg (.cons Jg (.cons Jg (.cons Co zS4)))))
 refine Gv rfl rfl (Lo _ (by omega) code hcode c5 iq37 hq37   (s38.pick (.here)) fun r46 r46x1 iq47 hq47 H lr46x1 hr46 sq47 => ?_)
 obtain ⟨or46, wr46⟩ := hr46
 have ur46 := or46
 have vr46 := wr46
 simp only [Ce, Bc, Hz, Do, and_true, true_and] at ur46 vr46
 refine Af sq47 Co rfl (Bt (cs' := [ss r7.fClient, si r7.fBorn, sb r7.fClean, si r7.fConn, si r7.fGen, si r7.fO.fLast, r7x6, r7x7, r7x8]) sq47 Qs (Ac (Ab rfl (Ab rfl (Ab rfl (Ab rfl (Ab rfl (Ab rfl (Ab lr7x6 (Ab lr7x7 (Ab lr7x8 rfl)))))))))) rfl (Bd rfl) rfl fun H s48 => Bt (cs' := [ss r46.fTopic, r46x1, si r46.fQos, sb r46.fRetain]) s48 Qs (Ac (Ab rfl (Ab lr46x1 rfl))) rfl (Bd rfl) rfl fun H s49 => Af s49 A8 rfl (Af s49 (.here) rfl ?_))
 have e50 : SessB 700 (r7 : B5) := by
  first | assumption | exact hinv | (apply E5 <;> first | assumption | omega | (unfold Do; omega) | (intro z hz; cases hz; done))
 have e51 : -9223372036854775808 ≤ z36 ∧ z36 ≤ 9223372036854775807 := by
  first | omega | (simp only [Dt, Cn]; omega) | (simp; omega)
 have e52 : Ce (r46 : Br) ∧ Bc (r46 : Br) ≤ 102 := by
  simp only [Ce, Bc, Hz, Do, and_true, true_and, Cn]; first | omega | ((repeat' apply And.intro) <;> first | trivial | omega | assumption | (intro y hy; cases hy; done))
 exact hk (r7 : B5) r7x6 r7x7 r7x8 z36 (r46 : Br) r46x1 _ lr7x6 lr7x7 lr7x8 e50 e51 lr46x1 e52 (s49.sel (.cons Jg (.cons Jg (.cons Jg (.cons Co zS4)))))
theorem Vo (n : Nat) (hn : 1048576 < n) (code : ByteArray) (k0 : Hz code) : Cy E0 (n + 34) 4 4 [Bj code] = some (.sc (.bool true)) := by
 rw [Az, AiZ, f4]
 refine Iq (G := (· = some bT)) ?_
 simp only [X1, Xz]
 have s0 : Sep [] [] := Io
 refine Fm (v := .bool (decide ((1048576 : Int) < (code.size : Nat)))) s0 rfl (.cons .ro .nil) (Aku (n + 32) _ code) ?_
 by_cases hcode : code.size ≤ 1048576
 refine Cj (decide_eq_false (by omega)) (Gv rfl rfl (To _ (by omega) code hcode   s0 fun r1 r1x6 r1x7 r1x8 r2 r3 r3x1 H lr1x6 lr1x7 lr1x8 hr1 hr2 lr3x1 hr3 s4 => ?_))
 have kr1 := hr1
 obtain ⟨⟨oar1, obr1, ocr1, odr1, oer1, ofr1⟩, wr1⟩ := kr1
 have gr1 := K3 hr1
 obtain ⟨or3, wr3⟩ := hr3
 have ur3 := or3
 have vr3 := wr3
 simp only [Ce, Bc, Hz, Do, and_true, true_and] at ur3 vr3
 refine Es (v := .agg [ss r1.fClient, si r1.fBorn, sb r1.fClean, si r1.fConn, si r1.fGen, si r1.fO.fLast, r1x6, r1x7, r1x8]) rfl (Es (v := si r2) rfl (Es (v := .agg [ss r3.fTopic, r3x1, si r3.fQos, sb r3.fRetain]) rfl (Dz s4 fun i5 H s6 => Dz s6 fun i7 H s8 => Bt (cs' := [ss r1.fClient, si r1.fBorn, sb r1.fClean, si r1.fConn, si r1.fGen, si r1.fO.fLast, r1x6, r1x7, r1x8]) s8 A8 (Ac (Ab rfl (Ab rfl (Ab rfl (Ab rfl (Ab rfl (Ab rfl (Ab lr1x6 (Ab lr1x7 (Ab lr1x8 rfl)))))))))) rfl (Bd rfl) rfl fun H s9 => Bt (cs' := [ss r3.fTopic, r3x1, si r3.fQos, sb r3.fRetain]) s9 A8 (Ac (Ab rfl (Ab lr3x1 rfl))) rfl (Bd rfl) rfl fun H s10 => Af s10 A8 rfl (Af s10 (.here) rfl ?_))))
 obtain ⟨v11, zv11, ev11, cv11, bv11, tv11, uv11⟩ := Ako (n + 20) (by omega) r1 r2 r3 hr1 (by simp only [Do]; omega) or3 wr3
 have gv11 := K3 bv11
 have glv11 := I7 Bc v11.fO.fQ
 have gmv11 : D6 v11.fO = Fp Au v11.fO.fFl + (Fp Bc v11.fO.fQ + 0) := rfl
 have glr1 := I7 Bc r1.fO.fQ
 have gmr1 : D6 r1.fO = Fp Au r1.fO.fFl + (Fp Bc r1.fO.fQ + 0) := rfl
 refine Im s10 rfl (.agg (J5 (.cons (.own (by decide) Co) (.cons (.own (by decide) C1) (.cons (.own (by decide) Fq) .nil)))) (.cons .sc (.agg (.cons .sc (.cons (.own (by decide) Jg) (Mv .nil))) .nil))) (tv11) rfl (Hy ⟨_, rfl, rfl⟩ (Ln _) (Dg Gl)) ?_
 rintro _ _ H ⟨_, _, _, _, rfl, rfl, ⟨x12, x13, x14, lx12, lx13, lx14, rfl, rfl⟩, ⟨_, rfl, ⟨rfl, rfl⟩⟩⟩ s15
 simp only [zah, zau] at s15
 refine Es (v := .agg [ss v11.fClient, si v11.fBorn, sb v11.fClean, si v11.fConn, si v11.fGen, si v11.fO.fLast, x12, x13, x14]) rfl (Es (v := si zv11) rfl (Dz s15 fun i16 H s17 => Bt (cs' := [ss v11.fClient, si v11.fBorn, sb v11.fClean, si v11.fConn, si v11.fGen, si v11.fO.fLast, x12, x13, x14]) s17 (.here) (Ac (Ab rfl (Ab rfl (Ab rfl (Ab rfl (Ab rfl (Ab rfl (Ab lx12 (Ab lx13 (Ab lx14 rfl)))))))))) rfl (Bd rfl) rfl fun H s18 => Af s18 Jg rfl (Af s18 Fq rfl (Im s18 rfl (.agg (J5 (.cons (.own (by decide) Tl) (.cons (.own (by decide) Qs) (.cons (.own (by decide) zP8) .nil)))) (.cons .sc (.agg (.cons .sc (.cons (.own (by decide) D0) (Mv .nil))) .nil))) (uv11) rfl (Hy ⟨_, rfl, rfl⟩ (Ln _) (Dg Gl)) ?_))))
 rintro _ _ H ⟨_, _, _, _, rfl, rfl, ⟨x19, x20, x21, lx19, lx20, lx21, rfl, rfl⟩, ⟨_, rfl, ⟨rfl, rfl⟩⟩⟩ s22
 simp only [zah, zau] at s22
 refine Es (v := .agg [ss v11.fClient, si v11.fBorn, sb v11.fClean, si v11.fConn, si v11.fGen, si v11.fO.fLast, x19, x20, x21]) rfl (Es (v := si zv11) rfl (Dz s22 fun i23 H s24 => Bt (cs' := [ss v11.fClient, si v11.fBorn, sb v11.fClean, si v11.fConn, si v11.fGen, si v11.fO.fLast, x19, x20, x21]) s24 (.here) (Ac (Ab rfl (Ab rfl (Ab rfl (Ab rfl (Ab rfl (Ab rfl (Ab lx19 (Ab lx20 (Ab lx21 rfl)))))))))) rfl (Bd rfl) rfl fun H s25 => Mg (Cj (nF (decide_eq_true rfl)) (Af s25 D0 rfl (Fm (v := (.bool (Dc r1))) s25 rfl (.agg (J5 (.cons (.own (by decide) Xx) (.cons (.own (by decide) K7) (.cons (.own (by decide) AkQ) .nil)))) .nil) (Ph (n + 22) (by omega) _ r1 (E6 r1 (za2 hr1.wt (by decide))).1 (E6 r1 (za2 hr1.wt (by decide))).2.1 (E6 r1 (za2 hr1.wt (by decide))).2.2) (L4 (Ad ((Dc r1)) (fun h26 => ?_) fun h26 => ?_)))))))
 refine B4 (nF h26) (Am (o' := 1) rfl (B4 (nF h26) (Bg (c := si r1.fBorn) s25 D0 rfl (B4 (nF h26) (B4 (nF h26) (Mg (Is (nF h26) (Ad ((decide (r1.fBorn = r2))) (fun h27 => ?_) fun h27 => ?_))))))))
 refine Cj (nF h27) (Mg (Ad ((decide (zv11 = 0))) (fun h28 => ?_) fun h28 => ?_))
 refine Cj (nF h28) (Af s25 Fq rfl (Fm (v := (.bool (Dc v11))) s25 rfl (.agg (J5 (.cons (.own (by decide) Qs) (.cons (.own (by decide) Tl) (.cons (.own (by decide) Jg) .nil)))) .nil) (Ph (n + 22) (by omega) _ v11 (E6 v11 (za2 bv11.wt (by decide))).1 (E6 v11 (za2 bv11.wt (by decide))).2.1 (E6 v11 (za2 bv11.wt (by decide))).2.2) (B4 (Ib ev11 cv11 h26 h27 h28).2 (Am (o' := 5) rfl (B4 (Ib ev11 cv11 h26 h27 h28).2 (Am (o' := 7) rfl (B4 (Ib ev11 cv11 h26 h27 h28).2 (Bg (c := x13) s25 Fq rfl (B4 (Ib ev11 cv11 h26 h27 h28).2 (Ic s25 Tl (B4 (Ib ev11 cv11 h26 h27 h28).2 (Am (o' := 5) rfl (B4 (Ib ev11 cv11 h26 h27 h28).2 (Am (o' := 7) rfl (B4 (Ib ev11 cv11 h26 h27 h28).2 (Bg (c := r1x7) s25 D0 rfl (B4 (Ib ev11 cv11 h26 h27 h28).2 (Ic s25 K7 (B4 (Ib ev11 cv11 h26 h27 h28).2 (Hq (by omega) (by omega) (B4 (Ib ev11 cv11 h26 h27 h28).2 (Cb (It (Ib ev11 cv11 h26 h27 h28).2 (B4 (decide_eq_true (Ia ev11 cv11 h26 h27 h28)) (Am (o' := 5) rfl (B4 (decide_eq_true (Ia ev11 cv11 h26 h27 h28)) (Am (o' := 7) rfl (B4 (decide_eq_true (Ia ev11 cv11 h26 h27 h28)) (Bg (c := x13) s25 Fq rfl (B4 (decide_eq_true (Ia ev11 cv11 h26 h27 h28)) (Am (o' := 5) rfl (B4 (decide_eq_true (Ia ev11 cv11 h26 h27 h28)) (Am (o' := 7) rfl (B4 (decide_eq_true (Ia ev11 cv11 h26 h27 h28)) (Bg (c := r1x7) s25 D0 rfl (B4 (decide_eq_true (Ia ev11 cv11 h26 h27 h28)) (Ic s25 K7 (B4 (decide_eq_true (Ia ev11 cv11 h26 h27 h28)) ?_))))))))))))))))))))))))))))))))))))))
 have hlen := Ia ev11 cv11 h26 h27 h28
 have s29 := s25.toShs Tl
 obtain ⟨y30, he31⟩ : ∃ y, (v11.fO.fQ)[(((r1.fO.fQ.length : Nat) : Int)).toNat]? = some y := ⟨_, zas (by first | omega | (simp at *; omega))⟩
 refine T6 (y := y30) s29 ⟨_, _, rfl, rfl, rfl, rfl⟩ (.here) (by omega) he31 Dw Ej rfl fun de31 oe31 raw hl hlf re31 hsc se31 => ?_
 obtain ⟨e31r1, le31r1, rfl⟩ := Ah7 hl hlf hsc
 refine B4 (decide_eq_true (Ia ev11 cv11 h26 h27 h28)) (Pg re31 (B4 (decide_eq_true (Ia ev11 cv11 h26 h27 h28)) (Af se31 zP8 rfl (B4 (decide_eq_true (Ia ev11 cv11 h26 h27 h28)) (Fm (v := (.bool (Ew y30 r3))) se31 rfl (.agg (.cons .sc (.cons (.shsE (k := 1) (by decide) (.here) rfl) (Mv .nil))) (.agg (.cons .sc (.cons (.own (by decide) Acm) (Mv .nil))) .nil)) (Oc (n + 31) _ y30 r3) (It (decide_eq_true (Ia ev11 cv11 h26 h27 h28)) (B4 (T5 ev11 cv11 h26 h27 h28 rfl he31) (Am (o' := 3) rfl (B4 (T5 ev11 cv11 h26 h27 h28 rfl he31) (Bg (c := si v11.fConn) se31 Jg rfl (B4 (T5 ev11 cv11 h26 h27 h28 rfl he31) (Am (o' := 3) rfl (B4 (T5 ev11 cv11 h26 h27 h28 rfl he31) (Bg (c := si r1.fConn) se31 D0 rfl (B4 (T5 ev11 cv11 h26 h27 h28 rfl he31) (Cb (It (T5 ev11 cv11 h26 h27 h28 rfl he31) ?_)))))))))))))))))
 have s32 := se31.ofShs (.here)
 exact Ee rfl (congrArg (fun b => some (AV.sc (.bool b))) (decide_eq_true (AfQ ev11 cv11 h26 h27 h28)))
 refine Dd (nT h28) (Am (o' := 5) rfl (Am (o' := 7) rfl (Bg (c := x13) s25 Fq rfl (Am (o' := 5) rfl (Am (o' := 7) rfl (Bg (c := r1x7) s25 D0 rfl (Fm (v := (.bool true)) s25 rfl (.cons (.own (by decide) Tl) (.cons (.own (by decide) K7) .nil)) (Acb (n + 25) (by omega) v11.fO.fQ r1.fO.fQ (congrArg (fun (s : B5) => s.fO.fQ) (AjM ev11 cv11 h26 h27 h28)) (by omega)) (B4 rfl (Am (o' := 3) rfl (B4 rfl (Bg (c := si r1.fConn) s25 D0 rfl (B4 rfl (Mg (B4 rfl (Ad ((decide (r1.fConn = (-1)))) (fun h33 => ?_) fun h33 => ?_)))))))))))))))
 exact B4 (nF h33) (B4 (nF h33) (Cb (B4 rfl (Is (nF h33) (It rfl (Ee rfl (congrArg (fun b => some (AV.sc (.bool b))) (decide_eq_true (AfR ev11 cv11 h26 h27 h28 h33)))))))))
 exact D9 (nT h33) (D9 (nT h33) (B4 rfl (It (nT h33) (It rfl (Ee rfl (congrArg (fun b => some (AV.sc (.bool b))) rfl))))))
 exact Dd (nT h27) (Cb (B4 (decide_eq_true (Gu ev11 cv11 h27).1) (Am (o' := 5) rfl (B4 (decide_eq_true (Gu ev11 cv11 h27).1) (Am (o' := 7) rfl (B4 (decide_eq_true (Gu ev11 cv11 h27).1) (Bg (c := x13) s25 Fq rfl (B4 (decide_eq_true (Gu ev11 cv11 h27).1) (Ic s25 Tl (B4 (decide_eq_true (Gu ev11 cv11 h27).1) (Am (o' := 5) rfl (B4 (decide_eq_true (Gu ev11 cv11 h27).1) (Am (o' := 7) rfl (B4 (decide_eq_true (Gu ev11 cv11 h27).1) (Bg (c := r1x7) s25 D0 rfl (B4 (decide_eq_true (Gu ev11 cv11 h27).1) (Ic s25 K7 (B4 (decide_eq_true (Gu ev11 cv11 h27).1) (Cb (It (decide_eq_true (Gu ev11 cv11 h27).1) (Ee rfl (congrArg (fun b => some (AV.sc (.bool b))) (decide_eq_true (by rw [(Gu ev11 cv11 h27).2]))))))))))))))))))))))))
 exact D9 (nT h26) (D9 (nT h26) (D9 (nT h26) (D9 (nT h26) (It (nT h26) (Dd rfl (Cb (B4 (decide_eq_true (Gt ev11 cv11 h26).1) (Am (o' := 5) rfl (B4 (decide_eq_true (Gt ev11 cv11 h26).1) (Am (o' := 7) rfl (B4 (decide_eq_true (Gt ev11 cv11 h26).1) (Bg (c := x13) s25 Fq rfl (B4 (decide_eq_true (Gt ev11 cv11 h26).1) (Ic s25 Tl (B4 (decide_eq_true (Gt ev11 cv11 h26).1) (Am (o' := 5) rfl (B4 (decide_eq_true (Gt ev11 cv11 h26).1) (Am (o' := 7) rfl (B4 (decide_eq_true (Gt ev11 cv11 h26).1) (Bg (c := r1x7) s25 D0 rfl (B4 (decide_eq_true (Gt ev11 cv11 h26).1) (Ic s25 K7 (B4 (decide_eq_true (Gt ev11 cv11 h26).1) (Cb (It (decide_eq_true (Gt ev11 cv11 h26).1) (Ee rfl (congrArg (fun b => some (AV.sc (.bool b))) (decide_eq_true (by rw [(Gt ev11 cv11 h26).2])))))))))))))))))))))))))))))
 exact Dd (decide_eq_true (by omega)) (Ee rfl rfl)
end
end Go.Proofs.YtdofipeaomgbbaaGreatDoor.Abs
namespace Go.Proofs.YtdofipeaomgbbaaGreatDoor.Abs
open _root_.Option renaming bind_some → zab, getD_some → za5, map_eq_some_iff → zaN
open _root_.List renaming replicate → zad, length_append → zae, getElem?_append_right → zaf, nil_append → zah, length_singleton → zal, append_nil → zam, length_cons → zao, mem_append_right → zaq, length_nil → zar, getElem?_eq_getElem → zas, mem_append_left → zat, cons_append → zau, mem_cons → zav, mem_cons_of_mem → zax, not_mem_nil → zay, forall_mem_append → zaz, drop_zero → za6, mem_cons_self → za7, mem_append → za9, all_eq_true → zaE, nodup_append → zaJ, mem_range'_1 → zaK, nodup_range' → zaP, all_cons → zaT, range' → zaW, take_of_length_le → zbi, mem_singleton → zbm, length_map → zbz, map_map → zbH
open _root_.Nat renaming le_refl → zai, zero_add → zaw, le_trans → za2, add_le_add_right → za8, add_le_add_left → zaC, sub_self → zaI, zero_le → zbu
open _root_.Bool renaming and_eq_true → zak, eq_iff_iff → zaM
open _root_.Int renaming toNat_natCast → zbf
open Go
set_option linter.unusedVariables false
set_option linter.unusedSimpArgs false
end Go.Proofs.YtdofipeaomgbbaaGreatDoor.Abs
namespace Go.Proofs.YtdofipeaomgbbaaGreatDoor.fnPushes
open _root_.Option renaming map_eq_some_iff → zaN
open Go Go.Shelf Go.Lib Go.ChangeShapes Go.WideShapes Go.ChangeAt Go.RowKit
open Go.Proofs.YtdofipeaomgbbaaGreatDoor.Abs
set_option linter.unusedVariables false
theorem own : ownKnob Tryz.prog.godebug = none := by kernel_rfl
theorem Agm : laidOutB Tryz.prog = true := by kernel_rfl
theorem types : ([22].all (tyB An 14)) = true := by kernel_rfl
theorem AeD : ([22].all fun t => Tryz.prog.readableRec t && decide (t < Tryz.prog.types.size)) = true := by kernel_rfl
theorem Akn {xs : List AV} (h : AiJ An 14 [22] xs) : ∃ n, Cy E0 n 4 4 xs = some (.sc (.bool true)) := by
 obtain ⟨y0, ys0, rfl, ⟨cs0, h0, rfl⟩, h⟩ := h
 obtain rfl := h
 obtain ⟨x0, rfl, k0⟩ := Zp ⟨_, rfl, rfl, rfl, rfl, rfl, rfl⟩ h0
 exact ⟨_, Vo 1048577 (by omega) x0 k0⟩
def wArgs : Array Value := #[.slice none 0 0]
noncomputable def M1 (os : Os) : World :=
 let w0 := World.holding Tryz.prog os ⟨#[], #[], []⟩
 let put (h : Array Obj) (g : Nat) (cs : Array Value) : Array Obj := h.modify g fun
  | .cells _ t frozen => .cells cs t frozen
  | o => o
 let h1 := put w0.heap 0 (Lib.firstTab.map fun z => Value.int .u8 z).toArray
 let h2 := put h1 1 ((List.range 16).flatMap fun i => [Value.int .u8 (Lib.accLo i), Value.int .u8 (Lib.accHi i)]).toArray
 { w0 with heap := h2 }
theorem Aev (os : Os) (args : Array Value) : laidMet Tryz.prog Rows.fnPushesRow.laid ((M1 os).forCall (fun _ _ => 0) ⟨#[], args, []⟩).memory :=
 (LaidIn.of_run (l := Rows.fnPushesRow.laid) [0, 1] 8 (by kernel_rfl) (by kernel_rfl) (by kernel_rfl) (by kernel_rfl)).met
set_option maxRecDepth 100000 in
theorem Xw (os : Os) {H : Type} (enc : TypeId × Value → H) :
  (OpenSpec.ofChange Rows.fnPushesSpec).preRow enc Tryz.prog Tryz.f4 Rows.fnPushesRow.domain false Rows.fnPushesRow.laid ((M1 os).forCall (fun _ _ => 0) ⟨#[], wArgs, []⟩).memory wArgs := by
 have hw : ((DataW.whole enc Tryz.prog ((M1 os).forCall (fun _ _ => 0) ⟨#[], wArgs, []⟩).memory Tryz.f4.params.toList (OpenSpec.ofChange Rows.fnPushesSpec).vars false wArgs.toList 8).map (fun x => x.2.1)) = some [] := by kernel_rfl
 obtain ⟨⟨x1, x2, x3⟩, hx, hx1⟩ := zaN.1 hw
 simp only at hx1
 subst hx1
 exact OpenSpec.preRow_of_cond 8 hx rfl (fun k hk => by cases hk) rfl (Aev os _)
set_option maxRecDepth 100000 in
set_option maxHeartbeats 2000000 in
theorem lifted (os : Os) (started : os.Started) (H : Type) (enc : TypeId × Value → H) (F : Stop.Interp) :
  ReturnsInHanded {} Tryz.checked os 4 .any ((OpenSpec.ofChange Rows.fnPushesSpec).preRow enc Tryz.prog Tryz.f4 Rows.fnPushesRow.domain false Rows.fnPushesRow.laid) (((OpenSpec.ofChange Rows.fnPushesSpec).at F).post enc Tryz.prog Tryz.f4 false true false false) := by
 refine returnsInHanded_of_row (C := Tryz.checked) (s := OpenSpec.ofChange Rows.fnPushesSpec) own started (by kernel_rfl) Tryz.func4
  (witness_row_atRef (enc := enc) (C := Tryz.checked) false (M1 os) wArgs rfl (by kernel_rfl) (by kernel_rfl) (by kernel_rfl) (Xw os enc)) ?_
 intro W base args ds gs before hval0 hW _ _ _ hL hS _
 have hval : ∀ (j : Nat) t v, Tryz.f4.params[j]? = some t → args[j]? = some v → Value.okWide Tryz.prog W .any base t v := hval0
 have hW' := hW
 obtain ⟨p, q, hA0, hV, rfl, hfz, hnd⟩ := hW
 have hA : DataW.TrodAll enc Tryz.prog W 0 (fun _ => true) true Tryz.f4.params.toList args.toList ds p := hA0
 rw [Tryz.params4] at hA hval
 obtain ⟨xs, hok, hl, hx⟩ := Rc AeM (n := 14) [22] args.toList ds p hA (fun j t v ht hv => hval j t v (by simpa using ht) (by simpa using hv)) types
 obtain ⟨m, hm⟩ := Akn hok
 have htab0 := utf8Tabs_of_readsT (U8Types.of196 Tryz.laysValid) ⟨by kernel_rfl, by kernel_rfl, by kernel_rfl, by kernel_rfl, by kernel_rfl, by kernel_rfl, by kernel_rfl⟩ (Pinned.utf8First_eq ▸ Lib.laidMet.reads hL (.tail _ (.head _))) (Lib.laidMet.reads hL (.head _))
 have htab : J0 W := ⟨htab0, cell_of_shapedOpen_int (zero := #[.int .i64 0]) hS (of_decide_eq_true (by kernel_rfl)) (by kernel_rfl) rfl (by kernel_rfl) (by kernel_rfl) Tryz.underlying3⟩
 have hc := Ack AkC hm (w := W) htab hl hx
 have hA1 := hA
 obtain ⟨v0, vs0, d0, ds0, p0, q0, hargs, rfl, rfl, g0, r0⟩ := trodAll_cons hA
 obtain ⟨rfl, rfl, rfl⟩ := trodAll_nil r0
 obtain ⟨rfl, rfl⟩ := trodVars_none hV
 have hc2 : Calls Tryz.prog 4 args W fun e W' => e = .returned (.bool true) ∧ Below W.heap.size W W' := by simpa using hc
 refine hc2.mono fun e W' ⟨he, bel⟩ => ?_
 subst he
 exact ⟨_, rfl, _, _, _, [], _, [], hW', trodAll_mk1 (shut_bool Tryz.underlying4 _), Nh Agm bel AeD hA1, rfl, bel.frame _, fun h => by cases h⟩
end Go.Proofs.YtdofipeaomgbbaaGreatDoor.fnPushes
