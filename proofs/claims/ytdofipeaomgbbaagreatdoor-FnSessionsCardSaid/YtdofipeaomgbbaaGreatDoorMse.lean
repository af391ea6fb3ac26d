/- What the proof needs, part 5: a sound evaluator over trees, the program's functions on it, and what they come to. -/
import Derived.Test.YtdofipeaomgbbaaGreatDoorMsd
import Derived.Test.YtdofipeaomgbbaaGreatDoorRows
import Derived.Test.YtdofipeaomgbbaaGreatDoorTie
import Derived.Test.YtdofipeaomgbbaaGreatDoorCards
import Derived.Lib.LaidIn
import Derived.Lib.LaidU8T
import Derived.PinnedBridge
import Derived.SevenTiedAt
import Derived.Deep.DeepHandedRow
import Derived.Deep.DeepWitnessRowRef
import Derived.WalkKit
import Derived.ProofKit
import Derived.OpenShut
import Derived.ShutString
import Derived.ChangeOld
import Derived.Below
import Derived.SizedLaws
set_option linter.unusedVariables false
set_option linter.unusedSimpArgs false
set_option maxRecDepth 100000
set_option maxHeartbeats 32000000
namespace Go.Proofs.YtdofipeaomgbbaaGreatDoor.Abs
open _root_.Option renaming bind_some → zab, getD_some → za5, map_eq_some_iff → zaN
open _root_.List renaming replicate → zad, length_append → zae, nil_append → zah, length_singleton → zal, append_nil → zam, length_cons → zao, mem_append_right → zaq, getElem?_eq_getElem → zas, length_nil → zat, mem_append_left → zau, mem_cons_of_mem → zaw, cons_append → zax, mem_cons → zay, forall_mem_append → zaz, map_cons → za0, not_mem_nil → za2, mem_cons_self → za6, drop_zero → za7, map_append → za8, mem_append → zaB, nodup_append → zaI, mem_range'_1 → zaJ, nodup_range' → zaP, range' → zaV, all_cons → zaY, take_of_length_le → zbh, mem_singleton → zbu, map_nil → zbv, length_map → zb0, map_map → zbH
open _root_.Nat renaming le_refl → zai, le_trans → zar, zero_add → zav, add_le_add_right → za9, add_le_add_left → zaC, zero_le → zbm
open _root_.Bool renaming and_eq_true → zak, eq_iff_iff → zaM
section
open Go
theorem E3 {α : Type} (w : α → Nat) : ∀ (a b : List α), Ft w (a ++ b) = Ft w a + Ft w b
 | [], b => by
  show _ = 0 + _
  rw [zav]
  rfl
 | x :: a, b => by
  show 1 + w x + Ft w (a ++ b) = 1 + w x + Ft w a + Ft w b
  rw [E3 w a b]
  omega
theorem Jg {α : Type} (w : α → Nat) : ∀ (l : List α) (i : Nat) (y y' : α), l[i]? = some y → Ft w (l.set i y') + w y = Ft w l + w y'
 | [], i, y, y', h => by simp at h
 | x :: l, 0, y, y', h => by
  have : x = y := by simpa using h
  subst this
  show 1 + w y' + Ft w l + w x = 1 + w x + Ft w l + w y'
  omega
 | x :: l, i + 1, y, y', h => by
  have := Jg w l i y y' (by simpa using h)
  show 1 + w x + Ft w (l.set i y') + w y = 1 + w x + Ft w l + w y'
  omega
theorem Jz {α : Type} {p : α → Prop} {l : List α} {i : Nat} {y' : α} (h : ∀ z ∈ l, p z) (hy : p y') : ∀ z ∈ l.set i y', p z := fun z hz => by
 rcases List.mem_or_eq_of_mem_set hz with h1 | rfl
 exact h z h1
 exact hy
theorem Mb {α : Type} {p : α → Prop} {l : List α} {i : Nat} {y : α} (h : ∀ z ∈ l, p z) (hy : l[i]? = some y) : p y := h y (List.mem_of_getElem? hy)
def OutB (b : Nat) (o : Bv) : Prop := (Ct o.fLast ∧ (∀ z ∈ o.fFl, B6 z) ∧ ∀ z ∈ o.fQ, Dj z) ∧ Ft A1 o.fFl + Ft B4 o.fQ ≤ b
theorem OutB.ok {b : Nat} {o : Bv} (h : OutB b o) (hb : b ≤ 1048576) : R4 o := by
 have h1 := Km A1 o.fFl
 have h2 := Km B4 o.fQ
 have h3 := h.2
 exact ⟨h.1.1, ⟨by omega, h.1.2.1⟩, ⟨by omega, h.1.2.2⟩⟩
theorem OutB.wt {b : Nat} {o : Bv} (h : OutB b o) : Eu o ≤ b := by
 have h3 := h.2
 unfold Eu
 omega
theorem OutB.of {b : Nat} {o : Bv} (h : R4 o) (hw : Eu o ≤ b) : OutB b o := by
 unfold Eu at hw
 exact ⟨⟨h.1, h.2.1.2, h.2.2.2⟩, by omega⟩
theorem Wv : ∀ (k : Nat) (u : List Int) (x : Int), Ct x → Ct (Kh u k x).1
 | 0, u, x, h => by
  unfold Kh
  first | exact h | (constructor <;> decide) | (constructor <;> simp)
 | k + 1, u, x, h => by
  rw [Kh]
  have h2 : Ct (nx x) := by
   unfold nx Ct
   omega
  split
  exact Wv k u (nx x) h2
  exact h2
theorem Jq {b : Nat} {o : Bv} (h : OutB b o) : OutB b (Ai o) := by
 obtain ⟨⟨h1, h2, h3⟩, h4⟩ := h
 have ht : ∀ (q : List Cz), Ft B4 q.tail ≤ Ft B4 q := by
  intro q
  cases q with
  | nil => exact zai _
  | cons m l => show Ft B4 l ≤ 1 + B4 m + Ft B4 l; omega
 have hq := ht o.fQ
 have h3' : ∀ z ∈ o.fQ.tail, Dj z := fun z hz => h3 z (List.mem_of_mem_tail hz)
 unfold Ai
 split
 rename_i hr
 split
 exact ⟨⟨h1, h2, h3'⟩, by show Ft A1 o.fFl + Ft B4 o.fQ.tail ≤ b; omega⟩
 ·cases hc : o.fQ with
  | nil => simp [Ig, hc] at hr
  | cons m l =>
   rw [hc] at h3 h4
   have hm := h3 m (za6 ..)
   have hi : Ct (Fm o) := by
    unfold Fm Co
    split
    exact Wv _ _ _ h1
    constructor <;> decide
   have hf : B6 (⟨Fm o, m, m.fQos⟩ : Aj) := ⟨hi, hm, hm.2.2.1⟩
   refine ⟨⟨hi, ?_, fun z hz => h3 z (zaw _ hz)⟩, ?_⟩
   exact Jl h2 hf
   show Ft A1 (o.fFl ++ [(⟨Fm o, m, m.fQos⟩ : Aj)]) + Ft B4 l ≤ b
   rw [G6]
   have e : A1 (⟨Fm o, m, m.fQos⟩ : Aj) = B4 m + 0 := rfl
   have e2 : Ft B4 (m :: l) = 1 + B4 m + Ft B4 l := rfl
   omega
 exact ⟨⟨h1, h2, h3⟩, h4⟩
theorem Z1 {b : Nat} {kd d : Int} {o : Bv} (h : OutB b o) : ∀ (t pre : List Aj), o.fFl = pre ++ t → OutB b (Dt kd d o pre t).1
 | [], pre, he => h
 | f :: t, pre, he => by
  have ih := Z1 (kd := kd) (d := d) h t (pre ++ [f]) (by rw [he]; simp)
  obtain ⟨⟨h1, h2, h3⟩, h4⟩ := h
  rw [he] at h2 h4
  have e1 : Ft A1 (pre ++ f :: t) = Ft A1 pre + (1 + A1 f + Ft A1 t) := E3 _ _ _
  rw [Dt]
  split
  split
  refine ⟨⟨h1, fun z hz => h2 z ?_, h3⟩, ?_⟩
  rcases zaB.1 hz with hz | hz
  exact zau _ hz
  exact zaq _ (zaw _ hz)
  show Ft A1 (pre ++ t) + Ft B4 o.fQ ≤ b
  rw [E3]
  omega
  split
  have hf := h2 f (by simp)
  refine ⟨⟨h1, fun z hz => ?_, h3⟩, ?_⟩
  rcases zaB.1 hz with hz | hz
  exact h2 z (zau _ hz)
  rcases zay.1 hz with rfl | hz
  exact ⟨hf.1, hf.2.1, (by decide : (-9223372036854775808 : Int) ≤ 3 ∧ (3 : Int) ≤ 9223372036854775807)⟩
  exact h2 z (zaq _ (zaw _ hz))
  show Ft A1 (pre ++ { f with fSt := 3 } :: t) + Ft B4 o.fQ ≤ b
  have e2 : Ft A1 (pre ++ { f with fSt := 3 } :: t) = Ft A1 pre + (1 + A1 f + Ft A1 t) := E3 _ _ _
  omega
  exact ih
  exact ih
theorem Z2 {b : Nat} {kd d : Int} {o : Bv} (h : OutB b o) : OutB b (F3 o kd d).1 := by
 unfold F3
 split
 exact Z1 h _ [] rfl
 exact h
theorem Zl {b : Nat} {o : Bv} {m : Cz} (h : OutB b o) (hm : Dj m) : OutB (b + 1 + B4 m) (D8 o m) := by
 obtain ⟨⟨h1, h2, h3⟩, h4⟩ := h
 unfold D8
 split
 unfold Ml
 split
 refine ⟨⟨h1, h2, Jl h3 hm⟩, ?_⟩
 show Ft A1 o.fFl + Ft B4 (o.fQ ++ [m]) ≤ _
 rw [G6]
 omega
 exact ⟨⟨h1, h2, h3⟩, by show Ft A1 o.fFl + Ft B4 o.fQ ≤ _; omega⟩
 exact ⟨⟨h1, h2, h3⟩, by omega⟩
theorem Md {b : Nat} {o : Bv} (h : OutB b o) : o.fFl.length ≤ b ∧ o.fQ.length ≤ b := by
 have h1 := Km A1 o.fFl
 have h2 := Km B4 o.fQ
 have h3 := h.2
 omega
theorem Aa2 {b : Nat} {o : Bv} (h : OutB b o) : o.fFl.length ≤ b := (Md h).1
theorem Eo {b : Nat} {l : Int} {f : List Aj} {q : List Cz} (h1 : Ct l) (h2 : ∀ z ∈ f, B6 z) (h3 : ∀ z ∈ q, Dj z) (h4 : Ft A1 f + Ft B4 q ≤ b) : OutB b ⟨l, f, q⟩ := ⟨⟨h1, h2, h3⟩, h4⟩
theorem OutB.mono {a b : Nat} {o : Bv} (h : OutB a o) (hab : a ≤ b) : OutB b o := ⟨h.1, zar h.2 hab⟩
theorem Rr (n : Nat) (hn : 1048576 < n) (code : ByteArray) (hcode : code.size ≤ 1048576) (c i : Nat) (h : Int)   {β : Type} {r : Option β} {KH : KO β} {H : Ab} {L : List Ck} (s0 : Sep H (Cr c code i h :: L)) (hk : ∀ (r0 : Bv) (r0x1 : AV) (r0x2 : AV) (i' : Nat) (h' : Int) (H' : Ab), (Ap r0x1 = true) → (Ap r0x2 = true) → (OutB 110 r0) → Sep H' (.own r0x1 24 (Am Ar r0.fFl) :: .own r0x2 25 (Am Ao r0.fQ) :: Cr c code i' h' :: L) → Gd (· = r) (KH (.agg [.sc (.int .i64 r0.fLast), r0x1, r0x2]) H')) : Gd (· = r) (Dd E0 (n + 16) β 86 [.ptr c 0] H fun x H => KH x H) := by
 rw [AhX, f86]
 try simp only [Cj, Bh, Br, Bf, Bj]
 refine D1 s0 fun i1 H s2 => Az (cs := [i0, i0, si 3, si 65534, si 65535]) rfl (Au s2 fun i3 H s4 => Bo hcode (by omega) (by omega) rfl s4 Ca (.here) fun z5a iq6 hq6 H mz5 sq6 => ?_)
 have s7 := (sq6.pick Aw).tail
 obtain ⟨z5, rfl, hz5⟩ := Ae (l := [0, 0, 3, 65534, 65535]) (lo := 0) (hi := 65535) mz5 (by decide)
 refine Az (cs := [si z5, .nl, .nl]) rfl (D1 s7 fun i8 H s9 => Bi (cs' := [si z5, .nl, .nl]) s9 (.here) (Ac rfl) rfl (Bb rfl) rfl fun H s10 => Gx rfl rfl (Tv _ (by omega) code hcode c iq6 hq6 6 (by omega) (s10.pick Aw) fun r11 r11x iq12 hq12 H lr11x hr11 sq12 => ?_))
 obtain ⟨or11, wr11⟩ := hr11
 have gr11 := Km B4 r11
 refine An (o' := 2) rfl (Cv sq12 Ca lr11x rfl fun H s13 => Fp (m := 6) hcode (by omega) s13 Ca fun z14 iq15 hq15 H hz14 sq15 => ?_)
 replace hz14 : 0 ≤ z14 ∧ z14 < 6 := by omega
 have lp16 : ∀ (j m : Nat) (z : Int) (m2 : Bv) (m2x1 : AV) (m2x2 : AV) (i : Nat) (h : Int) (H : Ab), j < m → z = ((j : Nat) : Int) → Ap m2x1 = true → Ap m2x2 = true → (OutB 80 m2 ∧ j ≤ 5) → Sep H (.own m2x1 24 (Am Ar m2.fFl) :: .own m2x2 25 (Am Ao m2.fQ) :: Cr c code i h :: .blk i8 [si m2.fLast, m2x1, m2x2] true :: .blk i1 [i0, .nl, .nl] true :: L) → Gd (· = r) (Ay (PR ((n + 15)) β) ((n + 15)) (fun x H => KH x H) m (.ptr c 0) (.ptr i1 0) (.ptr i8 0) (si z) H) := by
  clear s0 s2 s4 sq6 s7 s9 s10 sq12 s13 sq15
  intro j
  induction j with
  | zero =>
   intro m0 z m2 m2x1 m2x2 i h H hm hz lm2x1 lm2x2 hinv s0
   obtain ⟨m, rfl⟩ : ∃ m, m0 = m + 1 := ⟨m0 - 1, by omega⟩
   have hnl : (Ai m2).fFl.length ≤ 80 := Aa2 (Jq hinv.1)
   rw [Ay]
   try simp only [Cj, Bh, Br, A5, Bf, Ba, A0, Bs, Pr.gT, Pr.gF, Pr.hT, Pr.hF, Pr.kT, Pr.kF, B7, Bw, Bx, Bj, K3]
   refine L7 (Ci (decide_eq_false (by omega)) (Fp (m := 4) hcode (by omega) s0 Ca fun z17 iq18 hq18 H hz17 sq18 => ?_))
   replace hz17 : 0 ≤ z17 ∧ z17 < 4 := by omega
   have lp19 : ∀ (j m : Nat) (z : Int) (m2 : Bv) (m2x1 : AV) (m2x2 : AV) (i : Nat) (h : Int) (H : Ab), j < m → z = ((j : Nat) : Int) → Ap m2x1 = true → Ap m2x2 = true → (OutB (110 - 10 * j) m2 ∧ j ≤ 3) → Sep H (.own m2x1 24 (Am Ar m2.fFl) :: .own m2x2 25 (Am Ao m2.fQ) :: Cr c code i h :: .blk i8 [si m2.fLast, m2x1, m2x2] true :: .blk i1 [i0, .nl, .nl] true :: L) → Gd (· = r) (L6 (PR ((n + 15)) β) ((n + 15)) (fun x H => KH x H) m (.ptr c 0) (.ptr i1 0) (.ptr i8 0) (si z) H) := by
    clear s0 sq18
    intro j
    induction j with
    | zero =>
     intro m0 z m2 m2x1 m2x2 i h H hm hz lm2x1 lm2x2 hinv s0
     obtain ⟨m, rfl⟩ : ∃ m, m0 = m + 1 := ⟨m0 - 1, by omega⟩
     rw [L6]
     try simp only [A5, Bf, Ba, A0, K3]
     refine L7 (Ci (decide_eq_false (by omega)) (Ag s0 Bn rfl (Bi (cs' := [si m2.fLast, m2x1, m2x2]) s0 F2 (Ac (Aa rfl (Aa lm2x1 (Aa lm2x2 rfl)))) rfl (Bb rfl) rfl fun H s20 => Ag s20 (.here) rfl ?_)))
     have e21 : OutB 110 (m2 : Bv) := by
      exact hinv.1.mono (by omega)
     exact hk (m2 : Bv) m2x1 m2x2 i h _ lm2x1 lm2x2 e21 (s20.sel (.cons Aw (.cons Aw (.cons Aw Qw))))
    | succ j ih =>
     intro m0 z m2 m2x1 m2x2 i h H hm hz lm2x1 lm2x2 hinv s0
     obtain ⟨m, rfl⟩ : ∃ m, m0 = m + 1 := ⟨m0 - 1, by omega⟩
     rw [L6]
     try simp only [A5, Bf, Ba, A0, K3]
     refine L7 (Dk (decide_eq_true (by omega)) (Gd.bothE ?_ ?_))
     refine Ag s0 Bn rfl (Gx rfl rfl (Oc _ (by omega) code hcode c i h   (s0.pick Ca) fun r22 r22x1 iq23 hq23 H lr22x1 hr22 sq23 => ?_))
     obtain ⟨or22, wr22⟩ := hr22
     have ur22 := or22
     have vr22 := wr22
     simp only [Dj, B4, Iq, Ct, and_true, true_and] at ur22 vr22
     have c24 := M8 (n + 4) (by omega) m2 r22 (hinv.1.ok (by omega)) (by assumption) (zar hinv.1.wt (by omega)) (by omega)
     refine Mp sq23 rfl (.agg (.cons .sc (.cons (.own (by decide) Ca) (.cons (.own (by decide) Bn) .nil))) (.agg (.cons .sc (.cons (.own (by decide) (.here)) (Nb .nil))) .nil)) (c24) rfl (Lf ⟨_, rfl, rfl⟩ (Pf _) (Dp Il)) ?_
     rintro _ _ H ⟨_, _, _, _, rfl, rfl, ⟨x25, x26, lx25, lx26, rfl, rfl⟩, ⟨_, rfl, ⟨rfl, rfl⟩⟩⟩ s27
     simp only [zah, zax] at s27
     refine Ez (v := .agg [si ((D8 m2 r22).fLast), x25, x26]) rfl (Ez (v := si (Py m2 r22)) rfl (Bi (cs' := [si ((D8 m2 r22).fLast), x25, x26]) s27 Xq (Ac (Aa rfl (Aa lx25 (Aa lx26 rfl)))) rfl (Bb rfl) rfl fun H s28 => Tq (by omega) (by omega) ?_))
     have e29 : OutB (110 - 10 * j) (⟨(D8 m2 r22).fLast, ((D8 m2 r22).fFl), ((D8 m2 r22).fQ)⟩ : Bv) ∧ j ≤ 3 := by
      refine ⟨?_, by omega⟩; first | exact OutB.mono hinv.1 (by omega) | exact OutB.mono (Zl hinv.1 (by assumption)) (by omega)
     exact ih m _ (⟨(D8 m2 r22).fLast, ((D8 m2 r22).fFl), ((D8 m2 r22).fQ)⟩ : Bv) x25 x26 iq23 hq23 _ (by omega) (by omega) lx25 lx26 e29 (s28.sel (.cons Ca (.cons Aw (.cons Ca (.cons (.here) (.cons Bn It))))))
     refine Gx rfl rfl (Oc _ (by omega) code hcode c i h   (s0.pick Ca) fun r30 r30x1 iq31 hq31 H lr30x1 hr30 sq31 => ?_)
     obtain ⟨or30, wr30⟩ := hr30
     have ur30 := or30
     have vr30 := wr30
     simp only [Dj, B4, Iq, Ct, and_true, true_and] at ur30 vr30
     refine Ag sq31 F2 rfl ?_
     have c32 := M8 (n + 4) (by omega) m2 r30 (hinv.1.ok (by omega)) (by assumption) (zar hinv.1.wt (by omega)) (by omega)
     refine Mp sq31 rfl (.agg (.cons .sc (.cons (.own (by decide) Ca) (.cons (.own (by decide) Bn) .nil))) (.agg (.cons .sc (.cons (.own (by decide) (.here)) (Nb .nil))) .nil)) (c32) rfl (Lf ⟨_, rfl, rfl⟩ (Pf _) (Dp Il)) ?_
     rintro _ _ H ⟨_, _, _, _, rfl, rfl, ⟨x33, x34, lx33, lx34, rfl, rfl⟩, ⟨_, rfl, ⟨rfl, rfl⟩⟩⟩ s35
     simp only [zah, zax] at s35
     refine Ez (v := .agg [si ((D8 m2 r30).fLast), x33, x34]) rfl (Ez (v := si (Py m2 r30)) rfl (Bi (cs' := [si ((D8 m2 r30).fLast), x33, x34]) s35 Xq (Ac (Aa rfl (Aa lx33 (Aa lx34 rfl)))) rfl (Bb rfl) rfl fun H s36 => Tq (by omega) (by omega) ?_))
     have e37 : OutB (110 - 10 * j) (⟨(D8 m2 r30).fLast, ((D8 m2 r30).fFl), ((D8 m2 r30).fQ)⟩ : Bv) ∧ j ≤ 3 := by
      refine ⟨?_, by omega⟩; first | exact OutB.mono hinv.1 (by omega) | exact OutB.mono (Zl hinv.1 (by assumption)) (by omega)
     exact ih m _ (⟨(D8 m2 r30).fLast, ((D8 m2 r30).fFl), ((D8 m2 r30).fQ)⟩ : Bv) x33 x34 iq31 hq31 _ (by omega) (by omega) lx33 lx34 e37 (s36.sel (.cons Ca (.cons Aw (.cons Ca (.cons (.here) (.cons Bn It))))))
   have e38 : OutB (110 - 10 * (z17).toNat) (m2 : Bv) ∧ (z17).toNat ≤ 3 := by
    refine ⟨?_, by omega⟩; first | exact OutB.mono hinv.1 (by omega) | exact OutB.mono (Zl hinv.1 (by assumption)) (by omega)
   exact lp19 (z17).toNat _ _ (m2 : Bv) m2x1 m2x2 iq18 hq18 _ (by omega) (by omega) lm2x1 lm2x2 e38 (sq18.sel (.cons Aw (.cons Aw (.cons (.here) (.cons (.here) (.cons (.here) .rest))))))
  | succ j ih =>
   intro m0 z m2 m2x1 m2x2 i h H hm hz lm2x1 lm2x2 hinv s0
   obtain ⟨m, rfl⟩ : ∃ m, m0 = m + 1 := ⟨m0 - 1, by omega⟩
   have hnl : (Ai m2).fFl.length ≤ 80 := Aa2 (Jq hinv.1)
   rw [Ay]
   try simp only [Cj, Bh, Br, A5, Bf, Ba, A0, Bs, Pr.gT, Pr.gF, Pr.hT, Pr.hF, Pr.kT, Pr.kF, B7, Bw, Bx, Bj, K3]
   have tl68 : ∀ (u69 : AV) (u70 : AV) (z71 : Int) (z72 : Int) (i : Nat) (h : Int) (H : Ab), Ap u69 = true → Ap u70 = true → Sep H (.own u69 24 (Am Ar ((Ai m2).fFl)) :: .own u70 25 (Am Ao ((Ai m2).fQ)) :: Cr c code i h :: .blk i8 [si ((Ai m2).fLast), u69, u70] true :: .blk i1 [i0, .nl, .nl] true :: L) → Gd (· = r) ((PR ((n + 15)) β).call 45 (.fn 16 [] []) [(.agg [si ((Ai m2).fLast), u69, u70]), (si z71), (si z72)] H fun t50 H => (PR ((n + 15)) β).extr t50 0 fun t51 => (PR ((n + 15)) β).extr t50 1 fun t52 => (PR ((n + 15)) β).extr t50 2 fun t53 => (PR ((n + 15)) β).store 3 (.ptr i8 0) t51 H fun H => (PR ((n + 15)) β).bin .sub (si z) (si 1) fun t19 => Ay (PR ((n + 15)) β) ((n + 15)) (fun x H => KH x H) m (.ptr c 0) (.ptr i1 0) (.ptr i8 0) t19 H) := by
    intro u69 u70 z71 z72 i h H lu69 lu70 s0
    try simp only [C4, Cj, Bh, Br, A5, Bf, Ba, Db, Da, Ea, A0, Bs, Pr.gT, Pr.gF, Pr.hT, Pr.hF, Pr.kT, Pr.kF, B7, Bw, C2, Bx, Du, Cw, Cc, Bj, Dn, Cp, AeG, Di, AeH, Dh, Zz, K3, Xt, Ace, AgW, Acd, AeI]
    have c73 := Ae1 (n + 2) (by omega) (⟨(Ai m2).fLast, ((Ai m2).fFl), ((Ai m2).fQ)⟩) z71 z72 (zar (Jq hinv.1).wt (by omega))
    refine Mp s0 rfl (.agg (.cons .sc (.cons (.own (by decide) (.here)) (.cons (.own (by decide) Aw) .nil))) (Nb .nil)) (c73) rfl (Lf ⟨_, rfl, rfl⟩ (Pf _) (Lf ⟨_, rfl, rfl⟩ (Ho _) (Dp Il))) ?_
    rintro _ _ H ⟨_, _, _, _, rfl, rfl, ⟨x80, x81, lx80, lx81, rfl, rfl⟩, ⟨_, _, _, _, rfl, rfl, ⟨x74, x75, x76, x77, x78, x79, lx74, lx75, lx76, lx77, lx78, lx79, rfl, rfl⟩, ⟨_, rfl, ⟨rfl, rfl⟩⟩⟩⟩ s82
    simp only [zah, zax] at s82
    refine Ez (v := .agg [.sc (.int .i64 ((F3 (⟨(Ai m2).fLast, ((Ai m2).fFl), ((Ai m2).fQ)⟩) z71 z72).1.fLast)), x80, x81]) rfl (Ez (v := .agg [.sc (.int .i64 ((F3 (⟨(Ai m2).fLast, ((Ai m2).fFl), ((Ai m2).fQ)⟩) z71 z72).2.1.fType)), .sc (.bool (F3 (⟨(Ai m2).fLast, ((Ai m2).fFl), ((Ai m2).fQ)⟩) z71 z72).2.1.fDup), .sc (.int .i64 ((F3 (⟨(Ai m2).fLast, ((Ai m2).fFl), ((Ai m2).fQ)⟩) z71 z72).2.1.fQos)), .sc (.bool (F3 (⟨(Ai m2).fLast, ((Ai m2).fFl), ((Ai m2).fQ)⟩) z71 z72).2.1.fRetain), .sc (.int .i64 ((F3 (⟨(Ai m2).fLast, ((Ai m2).fFl), ((Ai m2).fQ)⟩) z71 z72).2.1.fId)), .sc (.string ((F3 (⟨(Ai m2).fLast, ((Ai m2).fFl), ((Ai m2).fQ)⟩) z71 z72).2.1.fTopic)), x74, .sc (.string ((F3 (⟨(Ai m2).fLast, ((Ai m2).fFl), ((Ai m2).fQ)⟩) z71 z72).2.1.fClient)), .sc (.int .i64 ((F3 (⟨(Ai m2).fLast, ((Ai m2).fFl), ((Ai m2).fQ)⟩) z71 z72).2.1.fLevel)), .sc (.bool (F3 (⟨(Ai m2).fLast, ((Ai m2).fFl), ((Ai m2).fQ)⟩) z71 z72).2.1.fClean), .sc (.int .i64 ((F3 (⟨(Ai m2).fLast, ((Ai m2).fFl), ((Ai m2).fQ)⟩) z71 z72).2.1.fKeep)), .sc (.bool (F3 (⟨(Ai m2).fLast, ((Ai m2).fFl), ((Ai m2).fQ)⟩) z71 z72).2.1.fHasWill), .sc (.string ((F3 (⟨(Ai m2).fLast, ((Ai m2).fFl), ((Ai m2).fQ)⟩) z71 z72).2.1.fWTopic)), x75, .sc (.int .i64 ((F3 (⟨(Ai m2).fLast, ((Ai m2).fFl), ((Ai m2).fQ)⟩) z71 z72).2.1.fWQos)), .sc (.bool (F3 (⟨(Ai m2).fLast, ((Ai m2).fFl), ((Ai m2).fQ)⟩) z71 z72).2.1.fWRetain), .sc (.bool (F3 (⟨(Ai m2).fLast, ((Ai m2).fFl), ((Ai m2).fQ)⟩) z71 z72).2.1.fHasUser), .sc (.string ((F3 (⟨(Ai m2).fLast, ((Ai m2).fFl), ((Ai m2).fQ)⟩) z71 z72).2.1.fUser)), .sc (.bool (F3 (⟨(Ai m2).fLast, ((Ai m2).fFl), ((Ai m2).fQ)⟩) z71 z72).2.1.fHasPass), x76, .sc (.int .i64 ((F3 (⟨(Ai m2).fLast, ((Ai m2).fFl), ((Ai m2).fQ)⟩) z71 z72).2.1.fCode)), .sc (.bool (F3 (⟨(Ai m2).fLast, ((Ai m2).fFl), ((Ai m2).fQ)⟩) z71 z72).2.1.fPresent), x77, x78, x79]) rfl (Ez (v := .sc (.bool (F3 (⟨(Ai m2).fLast, ((Ai m2).fFl), ((Ai m2).fQ)⟩) z71 z72).2.2)) rfl ?_))
    refine Bi (cs' := [.sc (.int .i64 ((F3 (⟨(Ai m2).fLast, ((Ai m2).fFl), ((Ai m2).fQ)⟩) z71 z72).1.fLast)), x80, x81]) s82 Hl (Ac (Aa rfl (Aa lx80 (Aa lx81 rfl)))) rfl (Bb rfl) rfl fun H s83 => Tq (by omega) (by omega) ?_
    have e84 : OutB 80 (⟨(F3 (⟨(Ai m2).fLast, ((Ai m2).fFl), ((Ai m2).fQ)⟩) z71 z72).1.fLast, ((F3 (⟨(Ai m2).fLast, ((Ai m2).fFl), ((Ai m2).fQ)⟩) z71 z72).1.fFl), ((F3 (⟨(Ai m2).fLast, ((Ai m2).fFl), ((Ai m2).fQ)⟩) z71 z72).1.fQ)⟩ : Bv) ∧ j ≤ 5 := by
     refine ⟨?_, by omega⟩; first | exact hinv.1 | exact Jq hinv.1 | exact Z2 (Jq hinv.1) | (apply Eo <;> first | assumption | omega | (unfold Ct; omega) | (intro z hz; cases hz; done) | (show 0 + _ ≤ _; omega))
    exact ih m _ (⟨(F3 (⟨(Ai m2).fLast, ((Ai m2).fFl), ((Ai m2).fQ)⟩) z71 z72).1.fLast, ((F3 (⟨(Ai m2).fLast, ((Ai m2).fFl), ((Ai m2).fQ)⟩) z71 z72).1.fFl), ((F3 (⟨(Ai m2).fLast, ((Ai m2).fFl), ((Ai m2).fQ)⟩) z71 z72).1.fQ)⟩ : Bv) x80 x81 i h _ (by omega) (by omega) lx80 lx81 e84 (s83.sel (.cons zP8 (.cons S4 (.cons D3 (.cons (.here) (.cons zP8 zS8))))))
   refine L7 (Dk (decide_eq_true (by omega)) (Ag s0 Bn rfl ?_))
   have c39 := Tb (n + 2) (by omega) m2 (hinv.1.ok (by omega)) (zar hinv.1.wt (by omega))
   refine Mp s0 rfl (.agg (.cons .sc (.cons (.own (by decide) (.here)) (.cons (.own (by decide) Aw) .nil))) .nil) (c39) rfl (Lf ⟨_, rfl, rfl⟩ (Pf _) (Lf ⟨_, rfl, rfl⟩ (Ho _) (Dp Il))) ?_
   rintro _ _ H ⟨_, _, _, _, rfl, rfl, ⟨x46, x47, lx46, lx47, rfl, rfl⟩, ⟨_, _, _, _, rfl, rfl, ⟨x40, x41, x42, x43, x44, x45, lx40, lx41, lx42, lx43, lx44, lx45, rfl, rfl⟩, ⟨_, rfl, ⟨rfl, rfl⟩⟩⟩⟩ s48
   simp only [zah, zax] at s48
   refine Ez (v := .agg [si ((Ai m2).fLast), x46, x47]) rfl (Ez (v := .agg [si ((B9 m2).fType), .sc (.bool (B9 m2).fDup), si ((B9 m2).fQos), .sc (.bool (B9 m2).fRetain), si ((B9 m2).fId), ss ((B9 m2).fTopic), x40, ss ((B9 m2).fClient), si ((B9 m2).fLevel), .sc (.bool (B9 m2).fClean), si ((B9 m2).fKeep), .sc (.bool (B9 m2).fHasWill), ss ((B9 m2).fWTopic), x41, si ((B9 m2).fWQos), .sc (.bool (B9 m2).fWRetain), .sc (.bool (B9 m2).fHasUser), ss ((B9 m2).fUser), .sc (.bool (B9 m2).fHasPass), x42, si ((B9 m2).fCode), .sc (.bool (B9 m2).fPresent), x43, x44, x45]) rfl (Ez (v := sb (Ig m2)) rfl (Bi (cs' := [si ((Ai m2).fLast), x46, x47]) s48 Hl (Ac (Aa rfl (Aa lx46 (Aa lx47 rfl)))) rfl (Bb rfl) rfl fun H s49 => An (o' := 1) rfl (Bg (c := x46) s49 (.here) rfl (Kd s49 zP8 (L7 (Ah ((decide (0 < ((((Ai m2).fFl).length : Nat) : Int)))) (fun h50 => ?_) fun h50 => ?_)))))))
   refine Bd h50 (Bd h50 (F4 hcode (by omega) s49 Hl fun b51 iq52 hq52 H sq52 => Hh h50 (Ah (b51) (fun h53 => ?_) fun h53 => ?_)))
   refine Dk h53 (An (o' := 1) rfl (An (o' := 1) rfl (Bg (c := x46) sq52 Aw rfl (Kd sq52 D3 (Gd.bothE ?_ ?_)))))
   refine Bg (c := x46) sq52 Aw rfl (Gd.bothE ?_ ?_)
   refine Fp (m := ((((Ai m2).fFl).length : Nat) : Int)) hcode (by omega) sq52 (.here) fun z54 iq55 hq55 H hz54 sq55 => ?_
   have s56 := sq55.toShs D3
   obtain ⟨y57, he58⟩ : ∃ y, ((Ai m2).fFl)[(z54).toNat]? = some y := ⟨_, zas (by first | omega | (simp at *; omega))⟩
   refine Wg (y := y57) s56 ⟨_, _, rfl, rfl, rfl, rfl⟩ (.here) (by omega) he58 Bm E6 rfl fun de58 oe58 raw hl hlf re58 hsc se58 => ?_
   obtain ⟨e58r2, le58r2, rfl⟩ := Kr hl hlf hsc
   clear hl hlf hsc
   refine Rk re58 (D1 se58 fun i59 H s60 => Bi (cs' := [si y57.fId, ss y57.fM.fTopic, e58r2, si y57.fM.fQos, sb y57.fM.fRetain, si y57.fSt]) s60 (.here) (Ac (Aa rfl (Aa rfl (Aa le58r2 rfl)))) rfl (Bb rfl) rfl fun H s61 => An (o' := 0) rfl (Gd.bothE ?_ ?_))
   refine Ag s61 Bn rfl (Gd.bothE ?_ ?_)
   refine Az (cs := [si 4, si 5, si 7]) rfl (Au s61 fun i62 H s63 => Gd.bothE ?_ ?_)
   refine Bo hcode (by omega) (by omega) rfl s63 Bn (.here) fun z64a iq65 hq65 H mz64 sq65 => ?_
   have s66 := (sq65.pick Aw).tail
   obtain ⟨z64, rfl, hz64⟩ := Ae (l := [4, 5, 7]) (lo := 4) (hi := 7) mz64 (by decide)
   refine Bg (c := si y57.fId) s66 Aw rfl ?_
   have s67 := s66.ofShs Ca
   exact tl68 x46 x47 z64 y57.fId iq65 hq65 _ lx46 lx47 (s67.sel (.cons (.here) (.cons D3 (.cons (.here) (.cons Aw (.cons D3 Ii))))))
   refine Bg (c := si y57.fId) s63 Aw rfl (Bo hcode (by omega) (by omega) rfl s63 Bn (.here) fun z85a iq86 hq86 H mz85 sq86 => ?_)
   have s87 := (sq86.pick Aw).tail
   obtain ⟨z85, rfl, hz85⟩ := Ae (l := [4, 5, 7]) (lo := 4) (hi := 7) mz85 (by decide)
   have s88 := s87.ofShs Ca
   exact tl68 x46 x47 z85 y57.fId iq86 hq86 _ lx46 lx47 (s88.sel (.cons (.here) (.cons D3 (.cons (.here) (.cons Aw (.cons D3 Ii))))))
   refine Bg (c := si y57.fId) s61 (.here) rfl (Az (cs := [si 4, si 5, si 7]) rfl (Au s61 fun i89 H s90 => Bo hcode (by omega) (by omega) rfl s90 Bn (.here) fun z91a iq92 hq92 H mz91 sq92 => ?_))
   have s93 := (sq92.pick Aw).tail
   obtain ⟨z91, rfl, hz91⟩ := Ae (l := [4, 5, 7]) (lo := 4) (hi := 7) mz91 (by decide)
   have s94 := s93.ofShs Ca
   exact tl68 x46 x47 z91 y57.fId iq92 hq92 _ lx46 lx47 (s94.sel (.cons (.here) (.cons D3 (.cons (.here) (.cons Aw (.cons D3 Ii))))))
   refine Gd.bothE ?_ ?_
   refine Az (cs := [si 4, si 5, si 7]) rfl (Au s61 fun i95 H s96 => Gd.bothE ?_ ?_)
   refine Ag s96 F2 rfl (Gd.bothE ?_ ?_)
   refine Bo hcode (by omega) (by omega) rfl s96 Bn (.here) fun z97a iq98 hq98 H mz97 sq98 => ?_
   have s99 := (sq98.pick Aw).tail
   obtain ⟨z97, rfl, hz97⟩ := Ae (l := [4, 5, 7]) (lo := 4) (hi := 7) mz97 (by decide)
   refine Bg (c := si y57.fId) s99 Aw rfl ?_
   have s100 := s99.ofShs Ca
   exact tl68 x46 x47 z97 y57.fId iq98 hq98 _ lx46 lx47 (s100.sel (.cons (.here) (.cons D3 (.cons (.here) (.cons Aw (.cons D3 Ii))))))
   refine Bg (c := si y57.fId) s96 Aw rfl (Bo hcode (by omega) (by omega) rfl s96 Bn (.here) fun z101a iq102 hq102 H mz101 sq102 => ?_)
   have s103 := (sq102.pick Aw).tail
   obtain ⟨z101, rfl, hz101⟩ := Ae (l := [4, 5, 7]) (lo := 4) (hi := 7) mz101 (by decide)
   have s104 := s103.ofShs Ca
   exact tl68 x46 x47 z101 y57.fId iq102 hq102 _ lx46 lx47 (s104.sel (.cons (.here) (.cons D3 (.cons (.here) (.cons Aw (.cons D3 Ii))))))
   refine Gd.bothE ?_ ?_
   refine Bo hcode (by omega) (by omega) rfl s96 Bn (.here) fun z105a iq106 hq106 H mz105 sq106 => ?_
   have s107 := (sq106.pick Aw).tail
   obtain ⟨z105, rfl, hz105⟩ := Ae (l := [4, 5, 7]) (lo := 4) (hi := 7) mz105 (by decide)
   refine Ag s107 Bn rfl (Bg (c := si y57.fId) s107 Aw rfl ?_)
   have s108 := s107.ofShs Ca
   exact tl68 x46 x47 z105 y57.fId iq106 hq106 _ lx46 lx47 (s108.sel (.cons (.here) (.cons D3 (.cons (.here) (.cons Aw (.cons D3 Ii))))))
   refine Bg (c := si y57.fId) s96 Aw rfl (Gd.bothE ?_ ?_)
   refine Ag s96 F2 rfl (Bo hcode (by omega) (by omega) rfl s96 Bn (.here) fun z109a iq110 hq110 H mz109 sq110 => ?_)
   have s111 := (sq110.pick Aw).tail
   obtain ⟨z109, rfl, hz109⟩ := Ae (l := [4, 5, 7]) (lo := 4) (hi := 7) mz109 (by decide)
   have s112 := s111.ofShs Ca
   exact tl68 x46 x47 z109 y57.fId iq110 hq110 _ lx46 lx47 (s112.sel (.cons (.here) (.cons D3 (.cons (.here) (.cons Aw (.cons D3 Ii))))))
   refine Bo hcode (by omega) (by omega) rfl s96 Bn (.here) fun z113a iq114 hq114 H mz113 sq114 => ?_
   have s115 := (sq114.pick Aw).tail
   obtain ⟨z113, rfl, hz113⟩ := Ae (l := [4, 5, 7]) (lo := 4) (hi := 7) mz113 (by decide)
   refine Ag s115 Bn rfl ?_
   have s116 := s115.ofShs Ca
   exact tl68 x46 x47 z113 y57.fId iq114 hq114 _ lx46 lx47 (s116.sel (.cons (.here) (.cons D3 (.cons (.here) (.cons Aw (.cons D3 Ii))))))
   refine Bg (c := si y57.fId) s61 (.here) rfl (Gd.bothE ?_ ?_)
   refine Ag s61 Bn rfl (Az (cs := [si 4, si 5, si 7]) rfl (Au s61 fun i117 H s118 => Bo hcode (by omega) (by omega) rfl s118 Bn (.here) fun z119a iq120 hq120 H mz119 sq120 => ?_))
   have s121 := (sq120.pick Aw).tail
   obtain ⟨z119, rfl, hz119⟩ := Ae (l := [4, 5, 7]) (lo := 4) (hi := 7) mz119 (by decide)
   have s122 := s121.ofShs Ca
   exact tl68 x46 x47 z119 y57.fId iq120 hq120 _ lx46 lx47 (s122.sel (.cons (.here) (.cons D3 (.cons (.here) (.cons Aw (.cons D3 Ii))))))
   refine Az (cs := [si 4, si 5, si 7]) rfl (Au s61 fun i123 H s124 => Gd.bothE ?_ ?_)
   refine Ag s124 F2 rfl (Bo hcode (by omega) (by omega) rfl s124 Bn (.here) fun z125a iq126 hq126 H mz125 sq126 => ?_)
   have s127 := (sq126.pick Aw).tail
   obtain ⟨z125, rfl, hz125⟩ := Ae (l := [4, 5, 7]) (lo := 4) (hi := 7) mz125 (by decide)
   have s128 := s127.ofShs Ca
   exact tl68 x46 x47 z125 y57.fId iq126 hq126 _ lx46 lx47 (s128.sel (.cons (.here) (.cons D3 (.cons (.here) (.cons Aw (.cons D3 Ii))))))
   refine Bo hcode (by omega) (by omega) rfl s124 Bn (.here) fun z129a iq130 hq130 H mz129 sq130 => ?_
   have s131 := (sq130.pick Aw).tail
   obtain ⟨z129, rfl, hz129⟩ := Ae (l := [4, 5, 7]) (lo := 4) (hi := 7) mz129 (by decide)
   refine Ag s131 Bn rfl ?_
   have s132 := s131.ofShs Ca
   exact tl68 x46 x47 z129 y57.fId iq130 hq130 _ lx46 lx47 (s132.sel (.cons (.here) (.cons D3 (.cons (.here) (.cons Aw (.cons D3 Ii))))))
   refine D1 sq52 fun i133 H s134 => Fp (m := ((((Ai m2).fFl).length : Nat) : Int)) hcode (by omega) s134 Aw fun z135 iq136 hq136 H hz135 sq136 => ?_
   have s137 := sq136.toShs Vo
   obtain ⟨y138, he139⟩ : ∃ y, ((Ai m2).fFl)[(z135).toNat]? = some y := ⟨_, zas (by first | omega | (simp at *; omega))⟩
   refine Wg (y := y138) s137 ⟨_, _, rfl, rfl, rfl, rfl⟩ (.here) (by omega) he139 Bm E6 rfl fun de139 oe139 raw hl hlf re139 hsc se139 => ?_
   obtain ⟨e139r2, le139r2, rfl⟩ := Kr hl hlf hsc
   clear hl hlf hsc
   refine Rk re139 (Bi (cs' := [si y138.fId, ss y138.fM.fTopic, e139r2, si y138.fM.fQos, sb y138.fM.fRetain, si y138.fSt]) se139 Ca (Ac (Aa rfl (Aa rfl (Aa le139r2 rfl)))) rfl (Bb rfl) rfl fun H s140 => An (o' := 0) rfl (Gd.bothE ?_ ?_))
   refine Ag s140 Bn rfl (Gd.bothE ?_ ?_)
   refine Az (cs := [si 4, si 5, si 7]) rfl (Au s140 fun i141 H s142 => Gd.bothE ?_ ?_)
   refine Bo hcode (by omega) (by omega) rfl s142 Bn (.here) fun z143a iq144 hq144 H mz143 sq144 => ?_
   have s145 := (sq144.pick Aw).tail
   obtain ⟨z143, rfl, hz143⟩ := Ae (l := [4, 5, 7]) (lo := 4) (hi := 7) mz143 (by decide)
   refine Bg (c := si y138.fId) s145 Aw rfl ?_
   have s146 := s145.ofShs Ca
   exact tl68 x46 x47 z143 y138.fId iq144 hq144 _ lx46 lx47 (s146.sel (.cons (.here) (.cons D3 (.cons (.here) (.cons Aw (.cons D3 Ii))))))
   refine Bg (c := si y138.fId) s142 Aw rfl (Bo hcode (by omega) (by omega) rfl s142 Bn (.here) fun z147a iq148 hq148 H mz147 sq148 => ?_)
   have s149 := (sq148.pick Aw).tail
   obtain ⟨z147, rfl, hz147⟩ := Ae (l := [4, 5, 7]) (lo := 4) (hi := 7) mz147 (by decide)
   have s150 := s149.ofShs Ca
   exact tl68 x46 x47 z147 y138.fId iq148 hq148 _ lx46 lx47 (s150.sel (.cons (.here) (.cons D3 (.cons (.here) (.cons Aw (.cons D3 Ii))))))
   refine Bg (c := si y138.fId) s140 (.here) rfl (Az (cs := [si 4, si 5, si 7]) rfl (Au s140 fun i151 H s152 => Bo hcode (by omega) (by omega) rfl s152 Bn (.here) fun z153a iq154 hq154 H mz153 sq154 => ?_))
   have s155 := (sq154.pick Aw).tail
   obtain ⟨z153, rfl, hz153⟩ := Ae (l := [4, 5, 7]) (lo := 4) (hi := 7) mz153 (by decide)
   have s156 := s155.ofShs Ca
   exact tl68 x46 x47 z153 y138.fId iq154 hq154 _ lx46 lx47 (s156.sel (.cons (.here) (.cons D3 (.cons (.here) (.cons Aw (.cons D3 Ii))))))
   refine Gd.bothE ?_ ?_
   refine Az (cs := [si 4, si 5, si 7]) rfl (Au s140 fun i157 H s158 => Gd.bothE ?_ ?_)
   refine Ag s158 F2 rfl (Gd.bothE ?_ ?_)
   refine Bo hcode (by omega) (by omega) rfl s158 Bn (.here) fun z159a iq160 hq160 H mz159 sq160 => ?_
   have s161 := (sq160.pick Aw).tail
   obtain ⟨z159, rfl, hz159⟩ := Ae (l := [4, 5, 7]) (lo := 4) (hi := 7) mz159 (by decide)
   refine Bg (c := si y138.fId) s161 Aw rfl ?_
   have s162 := s161.ofShs Ca
   exact tl68 x46 x47 z159 y138.fId iq160 hq160 _ lx46 lx47 (s162.sel (.cons (.here) (.cons D3 (.cons (.here) (.cons Aw (.cons D3 Ii))))))
   refine Bg (c := si y138.fId) s158 Aw rfl (Bo hcode (by omega) (by omega) rfl s158 Bn (.here) fun z163a iq164 hq164 H mz163 sq164 => ?_)
   have s165 := (sq164.pick Aw).tail
   obtain ⟨z163, rfl, hz163⟩ := Ae (l := [4, 5, 7]) (lo := 4) (hi := 7) mz163 (by decide)
   have s166 := s165.ofShs Ca
   exact tl68 x46 x47 z163 y138.fId iq164 hq164 _ lx46 lx47 (s166.sel (.cons (.here) (.cons D3 (.cons (.here) (.cons Aw (.cons D3 Ii))))))
   refine Gd.bothE ?_ ?_
   refine Bo hcode (by omega) (by omega) rfl s158 Bn (.here) fun z167a iq168 hq168 H mz167 sq168 => ?_
   have s169 := (sq168.pick Aw).tail
   obtain ⟨z167, rfl, hz167⟩ := Ae (l := [4, 5, 7]) (lo := 4) (hi := 7) mz167 (by decide)
   refine Ag s169 Bn rfl (Bg (c := si y138.fId) s169 Aw rfl ?_)
   have s170 := s169.ofShs Ca
   exact tl68 x46 x47 z167 y138.fId iq168 hq168 _ lx46 lx47 (s170.sel (.cons (.here) (.cons D3 (.cons (.here) (.cons Aw (.cons D3 Ii))))))
   refine Bg (c := si y138.fId) s158 Aw rfl (Gd.bothE ?_ ?_)
   refine Ag s158 F2 rfl (Bo hcode (by omega) (by omega) rfl s158 Bn (.here) fun z171a iq172 hq172 H mz171 sq172 => ?_)
   have s173 := (sq172.pick Aw).tail
   obtain ⟨z171, rfl, hz171⟩ := Ae (l := [4, 5, 7]) (lo := 4) (hi := 7) mz171 (by decide)
   have s174 := s173.ofShs Ca
   exact tl68 x46 x47 z171 y138.fId iq172 hq172 _ lx46 lx47 (s174.sel (.cons (.here) (.cons D3 (.cons (.here) (.cons Aw (.cons D3 Ii))))))
   refine Bo hcode (by omega) (by omega) rfl s158 Bn (.here) fun z175a iq176 hq176 H mz175 sq176 => ?_
   have s177 := (sq176.pick Aw).tail
   obtain ⟨z175, rfl, hz175⟩ := Ae (l := [4, 5, 7]) (lo := 4) (hi := 7) mz175 (by decide)
   refine Ag s177 Bn rfl ?_
   have s178 := s177.ofShs Ca
   exact tl68 x46 x47 z175 y138.fId iq176 hq176 _ lx46 lx47 (s178.sel (.cons (.here) (.cons D3 (.cons (.here) (.cons Aw (.cons D3 Ii))))))
   refine Bg (c := si y138.fId) s140 (.here) rfl (Gd.bothE ?_ ?_)
   refine Ag s140 Bn rfl (Az (cs := [si 4, si 5, si 7]) rfl (Au s140 fun i179 H s180 => Bo hcode (by omega) (by omega) rfl s180 Bn (.here) fun z181a iq182 hq182 H mz181 sq182 => ?_))
   have s183 := (sq182.pick Aw).tail
   obtain ⟨z181, rfl, hz181⟩ := Ae (l := [4, 5, 7]) (lo := 4) (hi := 7) mz181 (by decide)
   have s184 := s183.ofShs Ca
   exact tl68 x46 x47 z181 y138.fId iq182 hq182 _ lx46 lx47 (s184.sel (.cons (.here) (.cons D3 (.cons (.here) (.cons Aw (.cons D3 Ii))))))
   refine Az (cs := [si 4, si 5, si 7]) rfl (Au s140 fun i185 H s186 => Gd.bothE ?_ ?_)
   refine Ag s186 F2 rfl (Bo hcode (by omega) (by omega) rfl s186 Bn (.here) fun z187a iq188 hq188 H mz187 sq188 => ?_)
   have s189 := (sq188.pick Aw).tail
   obtain ⟨z187, rfl, hz187⟩ := Ae (l := [4, 5, 7]) (lo := 4) (hi := 7) mz187 (by decide)
   have s190 := s189.ofShs Ca
   exact tl68 x46 x47 z187 y138.fId iq188 hq188 _ lx46 lx47 (s190.sel (.cons (.here) (.cons D3 (.cons (.here) (.cons Aw (.cons D3 Ii))))))
   refine Bo hcode (by omega) (by omega) rfl s186 Bn (.here) fun z191a iq192 hq192 H mz191 sq192 => ?_
   have s193 := (sq192.pick Aw).tail
   obtain ⟨z191, rfl, hz191⟩ := Ae (l := [4, 5, 7]) (lo := 4) (hi := 7) mz191 (by decide)
   refine Ag s193 Bn rfl ?_
   have s194 := s193.ofShs Ca
   exact tl68 x46 x47 z191 y138.fId iq192 hq192 _ lx46 lx47 (s194.sel (.cons (.here) (.cons D3 (.cons (.here) (.cons Aw (.cons D3 Ii))))))
   refine Gd.bothE ?_ ?_
   refine Fp (m := ((((Ai m2).fFl).length : Nat) : Int)) hcode (by omega) sq52 (.here) fun z195 iq196 hq196 H hz195 sq196 => Bg (c := x46) sq196 Aw rfl ?_
   have s197 := sq196.toShs D3
   obtain ⟨y198, he199⟩ : ∃ y, ((Ai m2).fFl)[(z195).toNat]? = some y := ⟨_, zas (by first | omega | (simp at *; omega))⟩
   refine Wg (y := y198) s197 ⟨_, _, rfl, rfl, rfl, rfl⟩ (.here) (by omega) he199 Bm E6 rfl fun de199 oe199 raw hl hlf re199 hsc se199 => ?_
   obtain ⟨e199r2, le199r2, rfl⟩ := Kr hl hlf hsc
   clear hl hlf hsc
   refine Rk re199 (D1 se199 fun i200 H s201 => Bi (cs' := [si y198.fId, ss y198.fM.fTopic, e199r2, si y198.fM.fQos, sb y198.fM.fRetain, si y198.fSt]) s201 (.here) (Ac (Aa rfl (Aa rfl (Aa le199r2 rfl)))) rfl (Bb rfl) rfl fun H s202 => An (o' := 0) rfl (Gd.bothE ?_ ?_))
   refine Ag s202 Bn rfl (Gd.bothE ?_ ?_)
   refine Az (cs := [si 4, si 5, si 7]) rfl (Au s202 fun i203 H s204 => Gd.bothE ?_ ?_)
   refine Bo hcode (by omega) (by omega) rfl s204 Bn (.here) fun z205a iq206 hq206 H mz205 sq206 => ?_
   have s207 := (sq206.pick Aw).tail
   obtain ⟨z205, rfl, hz205⟩ := Ae (l := [4, 5, 7]) (lo := 4) (hi := 7) mz205 (by decide)
   refine Bg (c := si y198.fId) s207 Aw rfl ?_
   have s208 := s207.ofShs Ca
   exact tl68 x46 x47 z205 y198.fId iq206 hq206 _ lx46 lx47 (s208.sel (.cons (.here) (.cons D3 (.cons (.here) (.cons Aw (.cons D3 Ii))))))
   refine Bg (c := si y198.fId) s204 Aw rfl (Bo hcode (by omega) (by omega) rfl s204 Bn (.here) fun z209a iq210 hq210 H mz209 sq210 => ?_)
   have s211 := (sq210.pick Aw).tail
   obtain ⟨z209, rfl, hz209⟩ := Ae (l := [4, 5, 7]) (lo := 4) (hi := 7) mz209 (by decide)
   have s212 := s211.ofShs Ca
   exact tl68 x46 x47 z209 y198.fId iq210 hq210 _ lx46 lx47 (s212.sel (.cons (.here) (.cons D3 (.cons (.here) (.cons Aw (.cons D3 Ii))))))
   refine Bg (c := si y198.fId) s202 (.here) rfl (Az (cs := [si 4, si 5, si 7]) rfl (Au s202 fun i213 H s214 => Bo hcode (by omega) (by omega) rfl s214 Bn (.here) fun z215a iq216 hq216 H mz215 sq216 => ?_))
   have s217 := (sq216.pick Aw).tail
   obtain ⟨z215, rfl, hz215⟩ := Ae (l := [4, 5, 7]) (lo := 4) (hi := 7) mz215 (by decide)
   have s218 := s217.ofShs Ca
   exact tl68 x46 x47 z215 y198.fId iq216 hq216 _ lx46 lx47 (s218.sel (.cons (.here) (.cons D3 (.cons (.here) (.cons Aw (.cons D3 Ii))))))
   refine Gd.bothE ?_ ?_
   refine Az (cs := [si 4, si 5, si 7]) rfl (Au s202 fun i219 H s220 => Gd.bothE ?_ ?_)
   refine Ag s220 F2 rfl (Gd.bothE ?_ ?_)
   refine Bo hcode (by omega) (by omega) rfl s220 Bn (.here) fun z221a iq222 hq222 H mz221 sq222 => ?_
   have s223 := (sq222.pick Aw).tail
   obtain ⟨z221, rfl, hz221⟩ := Ae (l := [4, 5, 7]) (lo := 4) (hi := 7) mz221 (by decide)
   refine Bg (c := si y198.fId) s223 Aw rfl ?_
   have s224 := s223.ofShs Ca
   exact tl68 x46 x47 z221 y198.fId iq222 hq222 _ lx46 lx47 (s224.sel (.cons (.here) (.cons D3 (.cons (.here) (.cons Aw (.cons D3 Ii))))))
   refine Bg (c := si y198.fId) s220 Aw rfl (Bo hcode (by omega) (by omega) rfl s220 Bn (.here) fun z225a iq226 hq226 H mz225 sq226 => ?_)
   have s227 := (sq226.pick Aw).tail
   obtain ⟨z225, rfl, hz225⟩ := Ae (l := [4, 5, 7]) (lo := 4) (hi := 7) mz225 (by decide)
   have s228 := s227.ofShs Ca
   exact tl68 x46 x47 z225 y198.fId iq226 hq226 _ lx46 lx47 (s228.sel (.cons (.here) (.cons D3 (.cons (.here) (.cons Aw (.cons D3 Ii))))))
   refine Gd.bothE ?_ ?_
   refine Bo hcode (by omega) (by omega) rfl s220 Bn (.here) fun z229a iq230 hq230 H mz229 sq230 => ?_
   have s231 := (sq230.pick Aw).tail
   obtain ⟨z229, rfl, hz229⟩ := Ae (l := [4, 5, 7]) (lo := 4) (hi := 7) mz229 (by decide)
   refine Ag s231 Bn rfl (Bg (c := si y198.fId) s231 Aw rfl ?_)
   have s232 := s231.ofShs Ca
   exact tl68 x46 x47 z229 y198.fId iq230 hq230 _ lx46 lx47 (s232.sel (.cons (.here) (.cons D3 (.cons (.here) (.cons Aw (.cons D3 Ii))))))
   refine Bg (c := si y198.fId) s220 Aw rfl (Gd.bothE ?_ ?_)
   refine Ag s220 F2 rfl (Bo hcode (by omega) (by omega) rfl s220 Bn (.here) fun z233a iq234 hq234 H mz233 sq234 => ?_)
   have s235 := (sq234.pick Aw).tail
   obtain ⟨z233, rfl, hz233⟩ := Ae (l := [4, 5, 7]) (lo := 4) (hi := 7) mz233 (by decide)
   have s236 := s235.ofShs Ca
   exact tl68 x46 x47 z233 y198.fId iq234 hq234 _ lx46 lx47 (s236.sel (.cons (.here) (.cons D3 (.cons (.here) (.cons Aw (.cons D3 Ii))))))
   refine Bo hcode (by omega) (by omega) rfl s220 Bn (.here) fun z237a iq238 hq238 H mz237 sq238 => ?_
   have s239 := (sq238.pick Aw).tail
   obtain ⟨z237, rfl, hz237⟩ := Ae (l := [4, 5, 7]) (lo := 4) (hi := 7) mz237 (by decide)
   refine Ag s239 Bn rfl ?_
   have s240 := s239.ofShs Ca
   exact tl68 x46 x47 z237 y198.fId iq238 hq238 _ lx46 lx47 (s240.sel (.cons (.here) (.cons D3 (.cons (.here) (.cons Aw (.cons D3 Ii))))))
   refine Bg (c := si y198.fId) s202 (.here) rfl (Gd.bothE ?_ ?_)
   refine Ag s202 Bn rfl (Az (cs := [si 4, si 5, si 7]) rfl (Au s202 fun i241 H s242 => Bo hcode (by omega) (by omega) rfl s242 Bn (.here) fun z243a iq244 hq244 H mz243 sq244 => ?_))
   have s245 := (sq244.pick Aw).tail
   obtain ⟨z243, rfl, hz243⟩ := Ae (l := [4, 5, 7]) (lo := 4) (hi := 7) mz243 (by decide)
   have s246 := s245.ofShs Ca
   exact tl68 x46 x47 z243 y198.fId iq244 hq244 _ lx46 lx47 (s246.sel (.cons (.here) (.cons D3 (.cons (.here) (.cons Aw (.cons D3 Ii))))))
   refine Az (cs := [si 4, si 5, si 7]) rfl (Au s202 fun i247 H s248 => Gd.bothE ?_ ?_)
   refine Ag s248 F2 rfl (Bo hcode (by omega) (by omega) rfl s248 Bn (.here) fun z249a iq250 hq250 H mz249 sq250 => ?_)
   have s251 := (sq250.pick Aw).tail
   obtain ⟨z249, rfl, hz249⟩ := Ae (l := [4, 5, 7]) (lo := 4) (hi := 7) mz249 (by decide)
   have s252 := s251.ofShs Ca
   exact tl68 x46 x47 z249 y198.fId iq250 hq250 _ lx46 lx47 (s252.sel (.cons (.here) (.cons D3 (.cons (.here) (.cons Aw (.cons D3 Ii))))))
   refine Bo hcode (by omega) (by omega) rfl s248 Bn (.here) fun z253a iq254 hq254 H mz253 sq254 => ?_
   have s255 := (sq254.pick Aw).tail
   obtain ⟨z253, rfl, hz253⟩ := Ae (l := [4, 5, 7]) (lo := 4) (hi := 7) mz253 (by decide)
   refine Ag s255 Bn rfl ?_
   have s256 := s255.ofShs Ca
   exact tl68 x46 x47 z253 y198.fId iq254 hq254 _ lx46 lx47 (s256.sel (.cons (.here) (.cons D3 (.cons (.here) (.cons Aw (.cons D3 Ii))))))
   refine D1 sq52 fun i257 H s258 => Gd.bothE ?_ ?_
   refine Bg (c := x46) s258 Ca rfl (Fp (m := ((((Ai m2).fFl).length : Nat) : Int)) hcode (by omega) s258 Aw fun z259 iq260 hq260 H hz259 sq260 => ?_)
   have s261 := sq260.toShs Vo
   obtain ⟨y262, he263⟩ : ∃ y, ((Ai m2).fFl)[(z259).toNat]? = some y := ⟨_, zas (by first | omega | (simp at *; omega))⟩
   refine Wg (y := y262) s261 ⟨_, _, rfl, rfl, rfl, rfl⟩ (.here) (by omega) he263 Bm E6 rfl fun de263 oe263 raw hl hlf re263 hsc se263 => ?_
   obtain ⟨e263r2, le263r2, rfl⟩ := Kr hl hlf hsc
   clear hl hlf hsc
   refine Rk re263 (Bi (cs' := [si y262.fId, ss y262.fM.fTopic, e263r2, si y262.fM.fQos, sb y262.fM.fRetain, si y262.fSt]) se263 Ca (Ac (Aa rfl (Aa rfl (Aa le263r2 rfl)))) rfl (Bb rfl) rfl fun H s264 => An (o' := 0) rfl (Gd.bothE ?_ ?_))
   refine Ag s264 Bn rfl (Gd.bothE ?_ ?_)
   refine Az (cs := [si 4, si 5, si 7]) rfl (Au s264 fun i265 H s266 => Gd.bothE ?_ ?_)
   refine Bo hcode (by omega) (by omega) rfl s266 Bn (.here) fun z267a iq268 hq268 H mz267 sq268 => ?_
   have s269 := (sq268.pick Aw).tail
   obtain ⟨z267, rfl, hz267⟩ := Ae (l := [4, 5, 7]) (lo := 4) (hi := 7) mz267 (by decide)
   refine Bg (c := si y262.fId) s269 Aw rfl ?_
   have s270 := s269.ofShs Ca
   exact tl68 x46 x47 z267 y262.fId iq268 hq268 _ lx46 lx47 (s270.sel (.cons (.here) (.cons D3 (.cons (.here) (.cons Aw (.cons D3 Ii))))))
   refine Bg (c := si y262.fId) s266 Aw rfl (Bo hcode (by omega) (by omega) rfl s266 Bn (.here) fun z271a iq272 hq272 H mz271 sq272 => ?_)
   have s273 := (sq272.pick Aw).tail
   obtain ⟨z271, rfl, hz271⟩ := Ae (l := [4, 5, 7]) (lo := 4) (hi := 7) mz271 (by decide)
   have s274 := s273.ofShs Ca
   exact tl68 x46 x47 z271 y262.fId iq272 hq272 _ lx46 lx47 (s274.sel (.cons (.here) (.cons D3 (.cons (.here) (.cons Aw (.cons D3 Ii))))))
   refine Bg (c := si y262.fId) s264 (.here) rfl (Az (cs := [si 4, si 5, si 7]) rfl (Au s264 fun i275 H s276 => Bo hcode (by omega) (by omega) rfl s276 Bn (.here) fun z277a iq278 hq278 H mz277 sq278 => ?_))
   have s279 := (sq278.pick Aw).tail
   obtain ⟨z277, rfl, hz277⟩ := Ae (l := [4, 5, 7]) (lo := 4) (hi := 7) mz277 (by decide)
   have s280 := s279.ofShs Ca
   exact tl68 x46 x47 z277 y262.fId iq278 hq278 _ lx46 lx47 (s280.sel (.cons (.here) (.cons D3 (.cons (.here) (.cons Aw (.cons D3 Ii))))))
   refine Gd.bothE ?_ ?_
   refine Az (cs := [si 4, si 5, si 7]) rfl (Au s264 fun i281 H s282 => Gd.bothE ?_ ?_)
   refine Ag s282 F2 rfl (Gd.bothE ?_ ?_)
   refine Bo hcode (by omega) (by omega) rfl s282 Bn (.here) fun z283a iq284 hq284 H mz283 sq284 => ?_
   have s285 := (sq284.pick Aw).tail
   obtain ⟨z283, rfl, hz283⟩ := Ae (l := [4, 5, 7]) (lo := 4) (hi := 7) mz283 (by decide)
   refine Bg (c := si y262.fId) s285 Aw rfl ?_
   have s286 := s285.ofShs Ca
   exact tl68 x46 x47 z283 y262.fId iq284 hq284 _ lx46 lx47 (s286.sel (.cons (.here) (.cons D3 (.cons (.here) (.cons Aw (.cons D3 Ii))))))
   refine Bg (c := si y262.fId) s282 Aw rfl (Bo hcode (by omega) (by omega) rfl s282 Bn (.here) fun z287a iq288 hq288 H mz287 sq288 => ?_)
   have s289 := (sq288.pick Aw).tail
   obtain ⟨z287, rfl, hz287⟩ := Ae (l := [4, 5, 7]) (lo := 4) (hi := 7) mz287 (by decide)
   have s290 := s289.ofShs Ca
   exact tl68 x46 x47 z287 y262.fId iq288 hq288 _ lx46 lx47 (s290.sel (.cons (.here) (.cons D3 (.cons (.here) (.cons Aw (.cons D3 Ii))))))
   refine Gd.bothE ?_ ?_
   refine Bo hcode (by omega) (by omega) rfl s282 Bn (.here) fun z291a iq292 hq292 H mz291 sq292 => ?_
   have s293 := (sq292.pick Aw).tail
   obtain ⟨z291, rfl, hz291⟩ := Ae (l := [4, 5, 7]) (lo := 4) (hi := 7) mz291 (by decide)
   refine Ag s293 Bn rfl (Bg (c := si y262.fId) s293 Aw rfl ?_)
   have s294 := s293.ofShs Ca
   exact tl68 x46 x47 z291 y262.fId iq292 hq292 _ lx46 lx47 (s294.sel (.cons (.here) (.cons D3 (.cons (.here) (.cons Aw (.cons D3 Ii))))))
   refine Bg (c := si y262.fId) s282 Aw rfl (Gd.bothE ?_ ?_)
   refine Ag s282 F2 rfl (Bo hcode (by omega) (by omega) rfl s282 Bn (.here) fun z295a iq296 hq296 H mz295 sq296 => ?_)
   have s297 := (sq296.pick Aw).tail
   obtain ⟨z295, rfl, hz295⟩ := Ae (l := [4, 5, 7]) (lo := 4) (hi := 7) mz295 (by decide)
   have s298 := s297.ofShs Ca
   exact tl68 x46 x47 z295 y262.fId iq296 hq296 _ lx46 lx47 (s298.sel (.cons (.here) (.cons D3 (.cons (.here) (.cons Aw (.cons D3 Ii))))))
   refine Bo hcode (by omega) (by omega) rfl s282 Bn (.here) fun z299a iq300 hq300 H mz299 sq300 => ?_
   have s301 := (sq300.pick Aw).tail
   obtain ⟨z299, rfl, hz299⟩ := Ae (l := [4, 5, 7]) (lo := 4) (hi := 7) mz299 (by decide)
   refine Ag s301 Bn rfl ?_
   have s302 := s301.ofShs Ca
   exact tl68 x46 x47 z299 y262.fId iq300 hq300 _ lx46 lx47 (s302.sel (.cons (.here) (.cons D3 (.cons (.here) (.cons Aw (.cons D3 Ii))))))
   refine Bg (c := si y262.fId) s264 (.here) rfl (Gd.bothE ?_ ?_)
   refine Ag s264 Bn rfl (Az (cs := [si 4, si 5, si 7]) rfl (Au s264 fun i303 H s304 => Bo hcode (by omega) (by omega) rfl s304 Bn (.here) fun z305a iq306 hq306 H mz305 sq306 => ?_))
   have s307 := (sq306.pick Aw).tail
   obtain ⟨z305, rfl, hz305⟩ := Ae (l := [4, 5, 7]) (lo := 4) (hi := 7) mz305 (by decide)
   have s308 := s307.ofShs Ca
   exact tl68 x46 x47 z305 y262.fId iq306 hq306 _ lx46 lx47 (s308.sel (.cons (.here) (.cons D3 (.cons (.here) (.cons Aw (.cons D3 Ii))))))
   refine Az (cs := [si 4, si 5, si 7]) rfl (Au s264 fun i309 H s310 => Gd.bothE ?_ ?_)
   refine Ag s310 F2 rfl (Bo hcode (by omega) (by omega) rfl s310 Bn (.here) fun z311a iq312 hq312 H mz311 sq312 => ?_)
   have s313 := (sq312.pick Aw).tail
   obtain ⟨z311, rfl, hz311⟩ := Ae (l := [4, 5, 7]) (lo := 4) (hi := 7) mz311 (by decide)
   have s314 := s313.ofShs Ca
   exact tl68 x46 x47 z311 y262.fId iq312 hq312 _ lx46 lx47 (s314.sel (.cons (.here) (.cons D3 (.cons (.here) (.cons Aw (.cons D3 Ii))))))
   refine Bo hcode (by omega) (by omega) rfl s310 Bn (.here) fun z315a iq316 hq316 H mz315 sq316 => ?_
   have s317 := (sq316.pick Aw).tail
   obtain ⟨z315, rfl, hz315⟩ := Ae (l := [4, 5, 7]) (lo := 4) (hi := 7) mz315 (by decide)
   refine Ag s317 Bn rfl ?_
   have s318 := s317.ofShs Ca
   exact tl68 x46 x47 z315 y262.fId iq316 hq316 _ lx46 lx47 (s318.sel (.cons (.here) (.cons D3 (.cons (.here) (.cons Aw (.cons D3 Ii))))))
   refine Fp (m := ((((Ai m2).fFl).length : Nat) : Int)) hcode (by omega) s258 Aw fun z319 iq320 hq320 H hz319 sq320 => Bg (c := x46) sq320 Ca rfl ?_
   have s321 := sq320.toShs Vo
   obtain ⟨y322, he323⟩ : ∃ y, ((Ai m2).fFl)[(z319).toNat]? = some y := ⟨_, zas (by first | omega | (simp at *; omega))⟩
   refine Wg (y := y322) s321 ⟨_, _, rfl, rfl, rfl, rfl⟩ (.here) (by omega) he323 Bm E6 rfl fun de323 oe323 raw hl hlf re323 hsc se323 => ?_
   obtain ⟨e323r2, le323r2, rfl⟩ := Kr hl hlf hsc
   clear hl hlf hsc
   refine Rk re323 (Bi (cs' := [si y322.fId, ss y322.fM.fTopic, e323r2, si y322.fM.fQos, sb y322.fM.fRetain, si y322.fSt]) se323 Ca (Ac (Aa rfl (Aa rfl (Aa le323r2 rfl)))) rfl (Bb rfl) rfl fun H s324 => An (o' := 0) rfl (Gd.bothE ?_ ?_))
   refine Ag s324 Bn rfl (Gd.bothE ?_ ?_)
   refine Az (cs := [si 4, si 5, si 7]) rfl (Au s324 fun i325 H s326 => Gd.bothE ?_ ?_)
   refine Bo hcode (by omega) (by omega) rfl s326 Bn (.here) fun z327a iq328 hq328 H mz327 sq328 => ?_
   have s329 := (sq328.pick Aw).tail
   obtain ⟨z327, rfl, hz327⟩ := Ae (l := [4, 5, 7]) (lo := 4) (hi := 7) mz327 (by decide)
   refine Bg (c := si y322.fId) s329 Aw rfl ?_
   have s330 := s329.ofShs Ca
   exact tl68 x46 x47 z327 y322.fId iq328 hq328 _ lx46 lx47 (s330.sel (.cons (.here) (.cons D3 (.cons (.here) (.cons Aw (.cons D3 Ii))))))
   refine Bg (c := si y322.fId) s326 Aw rfl (Bo hcode (by omega) (by omega) rfl s326 Bn (.here) fun z331a iq332 hq332 H mz331 sq332 => ?_)
   have s333 := (sq332.pick Aw).tail
   obtain ⟨z331, rfl, hz331⟩ := Ae (l := [4, 5, 7]) (lo := 4) (hi := 7) mz331 (by decide)
   have s334 := s333.ofShs Ca
   exact tl68 x46 x47 z331 y322.fId iq332 hq332 _ lx46 lx47 (s334.sel (.cons (.here) (.cons D3 (.cons (.here) (.cons Aw (.cons D3 Ii))))))
   refine Bg (c := si y322.fId) s324 (.here) rfl (Az (cs := [si 4, si 5, si 7]) rfl (Au s324 fun i335 H s336 => Bo hcode (by omega) (by omega) rfl s336 Bn (.here) fun z337a iq338 hq338 H mz337 sq338 => ?_))
   have s339 := (sq338.pick Aw).tail
   obtain ⟨z337, rfl, hz337⟩ := Ae (l := [4, 5, 7]) (lo := 4) (hi := 7) mz337 (by decide)
   have s340 := s339.ofShs Ca
   exact tl68 x46 x47 z337 y322.fId iq338 hq338 _ lx46 lx47 (s340.sel (.cons (.here) (.cons D3 (.cons (.here) (.cons Aw (.cons D3 Ii))))))
   refine Gd.bothE ?_ ?_
   refine Az (cs := [si 4, si 5, si 7]) rfl (Au s324 fun i341 H s342 => Gd.bothE ?_ ?_)
   refine Ag s342 F2 rfl (Gd.bothE ?_ ?_)
   refine Bo hcode (by omega) (by omega) rfl s342 Bn (.here) fun z343a iq344 hq344 H mz343 sq344 => ?_
   have s345 := (sq344.pick Aw).tail
   obtain ⟨z343, rfl, hz343⟩ := Ae (l := [4, 5, 7]) (lo := 4) (hi := 7) mz343 (by decide)
   refine Bg (c := si y322.fId) s345 Aw rfl ?_
   have s346 := s345.ofShs Ca
   exact tl68 x46 x47 z343 y322.fId iq344 hq344 _ lx46 lx47 (s346.sel (.cons (.here) (.cons D3 (.cons (.here) (.cons Aw (.cons D3 Ii))))))
   refine Bg (c := si y322.fId) s342 Aw rfl (Bo hcode (by omega) (by omega) rfl s342 Bn (.here) fun z347a iq348 hq348 H mz347 sq348 => ?_)
   have s349 := (sq348.pick Aw).tail
   obtain ⟨z347, rfl, hz347⟩ := Ae (l := [4, 5, 7]) (lo := 4) (hi := 7) mz347 (by decide)
   have s350 := s349.ofShs Ca
   exact tl68 x46 x47 z347 y322.fId iq348 hq348 _ lx46 lx47 (s350.sel (.cons (.here) (.cons D3 (.cons (.here) (.cons Aw (.cons D3 Ii))))))
   refine Gd.bothE ?_ ?_
   refine Bo hcode (by omega) (by omega) rfl s342 Bn (.here) fun z351a iq352 hq352 H mz351 sq352 => ?_
   have s353 := (sq352.pick Aw).tail
   obtain ⟨z351, rfl, hz351⟩ := Ae (l := [4, 5, 7]) (lo := 4) (hi := 7) mz351 (by decide)
   refine Ag s353 Bn rfl (Bg (c := si y322.fId) s353 Aw rfl ?_)
   have s354 := s353.ofShs Ca
   exact tl68 x46 x47 z351 y322.fId iq352 hq352 _ lx46 lx47 (s354.sel (.cons (.here) (.cons D3 (.cons (.here) (.cons Aw (.cons D3 Ii))))))
   refine Bg (c := si y322.fId) s342 Aw rfl (Gd.bothE ?_ ?_)
   refine Ag s342 F2 rfl (Bo hcode (by omega) (by omega) rfl s342 Bn (.here) fun z355a iq356 hq356 H mz355 sq356 => ?_)
   have s357 := (sq356.pick Aw).tail
   obtain ⟨z355, rfl, hz355⟩ := Ae (l := [4, 5, 7]) (lo := 4) (hi := 7) mz355 (by decide)
   have s358 := s357.ofShs Ca
   exact tl68 x46 x47 z355 y322.fId iq356 hq356 _ lx46 lx47 (s358.sel (.cons (.here) (.cons D3 (.cons (.here) (.cons Aw (.cons D3 Ii))))))
   refine Bo hcode (by omega) (by omega) rfl s342 Bn (.here) fun z359a iq360 hq360 H mz359 sq360 => ?_
   have s361 := (sq360.pick Aw).tail
   obtain ⟨z359, rfl, hz359⟩ := Ae (l := [4, 5, 7]) (lo := 4) (hi := 7) mz359 (by decide)
   refine Ag s361 Bn rfl ?_
   have s362 := s361.ofShs Ca
   exact tl68 x46 x47 z359 y322.fId iq360 hq360 _ lx46 lx47 (s362.sel (.cons (.here) (.cons D3 (.cons (.here) (.cons Aw (.cons D3 Ii))))))
   refine Bg (c := si y322.fId) s324 (.here) rfl (Gd.bothE ?_ ?_)
   refine Ag s324 Bn rfl (Az (cs := [si 4, si 5, si 7]) rfl (Au s324 fun i363 H s364 => Bo hcode (by omega) (by omega) rfl s364 Bn (.here) fun z365a iq366 hq366 H mz365 sq366 => ?_))
   have s367 := (sq366.pick Aw).tail
   obtain ⟨z365, rfl, hz365⟩ := Ae (l := [4, 5, 7]) (lo := 4) (hi := 7) mz365 (by decide)
   have s368 := s367.ofShs Ca
   exact tl68 x46 x47 z365 y322.fId iq366 hq366 _ lx46 lx47 (s368.sel (.cons (.here) (.cons D3 (.cons (.here) (.cons Aw (.cons D3 Ii))))))
   refine Az (cs := [si 4, si 5, si 7]) rfl (Au s324 fun i369 H s370 => Gd.bothE ?_ ?_)
   refine Ag s370 F2 rfl (Bo hcode (by omega) (by omega) rfl s370 Bn (.here) fun z371a iq372 hq372 H mz371 sq372 => ?_)
   have s373 := (sq372.pick Aw).tail
   obtain ⟨z371, rfl, hz371⟩ := Ae (l := [4, 5, 7]) (lo := 4) (hi := 7) mz371 (by decide)
   have s374 := s373.ofShs Ca
   exact tl68 x46 x47 z371 y322.fId iq372 hq372 _ lx46 lx47 (s374.sel (.cons (.here) (.cons D3 (.cons (.here) (.cons Aw (.cons D3 Ii))))))
   refine Bo hcode (by omega) (by omega) rfl s370 Bn (.here) fun z375a iq376 hq376 H mz375 sq376 => ?_
   have s377 := (sq376.pick Aw).tail
   obtain ⟨z375, rfl, hz375⟩ := Ae (l := [4, 5, 7]) (lo := 4) (hi := 7) mz375 (by decide)
   refine Ag s377 Bn rfl ?_
   have s378 := s377.ofShs Ca
   exact tl68 x46 x47 z375 y322.fId iq376 hq376 _ lx46 lx47 (s378.sel (.cons (.here) (.cons D3 (.cons (.here) (.cons Aw (.cons D3 Ii))))))
   refine Ci h53 (Tq (by omega) (by omega) ?_)
   have e379 : OutB 80 (⟨(Ai m2).fLast, ((Ai m2).fFl), ((Ai m2).fQ)⟩ : Bv) ∧ j ≤ 5 := by
    refine ⟨?_, by omega⟩; first | exact hinv.1 | exact Jq hinv.1 | exact Z2 (Jq hinv.1) | (apply Eo <;> first | assumption | omega | (unfold Ct; omega) | (intro z hz; cases hz; done) | (show 0 + _ ≤ _; omega))
   exact ih m _ (⟨(Ai m2).fLast, ((Ai m2).fFl), ((Ai m2).fQ)⟩ : Bv) x46 x47 iq52 hq52 _ (by omega) (by omega) lx46 lx47 e379 (sq52.sel (.cons D3 (.cons zP8 (.cons (.here) (.cons (.here) (.cons zP8 zS8))))))
   refine Cb h50 (Cb h50 (Fq h50 (Ci rfl (Tq (by omega) (by omega) ?_))))
   have e380 : OutB 80 (⟨(Ai m2).fLast, ((Ai m2).fFl), ((Ai m2).fQ)⟩ : Bv) ∧ j ≤ 5 := by
    refine ⟨?_, by omega⟩; first | exact hinv.1 | exact Jq hinv.1 | exact Z2 (Jq hinv.1) | (apply Eo <;> first | assumption | omega | (unfold Ct; omega) | (intro z hz; cases hz; done) | (show 0 + _ ≤ _; omega))
   exact ih m _ (⟨(Ai m2).fLast, ((Ai m2).fFl), ((Ai m2).fQ)⟩ : Bv) x46 x47 i h _ (by omega) (by omega) lx46 lx47 e380 (s49.sel (.cons zP8 (.cons S4 (.cons D3 (.cons (.here) (.cons zP8 zS8))))))
 have s381 := sq15.nl (ty := 24) ⟨_, _, rfl, rfl⟩
 have e382 : OutB 80 (⟨z5, [], r11⟩ : Bv) ∧ (z14).toNat ≤ 5 := by
  refine ⟨?_, by omega⟩; first | exact hinv.1 | exact Jq hinv.1 | exact Z2 (Jq hinv.1) | (apply Eo <;> first | assumption | omega | (unfold Ct; omega) | (intro z hz; cases hz; done) | (show 0 + _ ≤ _; omega))
 exact lp16 (z14).toNat _ _ (⟨z5, [], r11⟩ : Bv) .nl r11x iq15 hq15 _ (by omega) (by omega) rfl lr11x e382 (s381.sel (.cons (.here) (.cons Ca (.cons (.here) (.cons (.here) (.cons (.here) .rest))))))
theorem AfN (n : Nat) (hn : 1048576 < n) (code : ByteArray) (hcode : code.size ≤ 1048576) (c i : Nat) (h : Int)   {β : Type} {r : Option β} {KH : KO β} {H : Ab} {L : List Ck} (s0 : Sep H (Cr c code i h :: L)) (hk : ∀ (r0 : Bv) (r0x1 : AV) (r0x2 : AV) (i' : Nat) (h' : Int) (H' : Ab), (Ap r0x1 = true) → (Ap r0x2 = true) → (OutB 400 r0) → Sep H' (.own r0x1 24 (Am Ar r0.fFl) :: .own r0x2 25 (Am Ao r0.fQ) :: Cr c code i' h' :: L) → Gd (· = r) (KH (.agg [.sc (.int .i64 r0.fLast), r0x1, r0x2]) H')) : Gd (· = r) (Dd E0 (n + 18) β 41 [.ptr c 0] H fun x H => KH x H) := by
 rw [Ah3, f41]
 try simp only [Cj, Bh, Br, A5, Bf, Ba, A0, Bw, Bx, Bj, Cp]
 refine D1 s0 fun i1 H s2 => Gx rfl rfl (Rr _ (by omega) code hcode c i h   (s2.pick Aw) fun r3 r3x1 r3x2 iq4 hq4 H lr3x1 lr3x2 hr3 sq4 => ?_)
 have kr3 := hr3
 obtain ⟨⟨oar3, obr3, ocr3⟩, wr3⟩ := kr3
 have gr3 := Md hr3
 refine D1 sq4 fun i5 H s6 => Bi (cs' := [si r3.fLast, r3x1, r3x2]) s6 (.here) (Ac (Aa rfl (Aa lr3x1 (Aa lr3x2 rfl)))) rfl (Bb rfl) rfl fun H s7 => Fp (m := 14) hcode (by omega) s7 Bn fun z8 iq9 hq9 H hz8 sq9 => ?_
 replace hz8 : 0 ≤ z8 ∧ z8 < 14 := by omega
 refine Cd (Ah ((decide (z8 = 0))) (fun h10 => ?_) fun h10 => ?_)
 refine Dk h10 (Az (cs := [si (-1), si 65536]) rfl (Au sq9 fun i11 H s12 => Bo hcode (by omega) (by omega) rfl s12 Aw (.here) fun z13a iq14 hq14 H mz13 sq14 => ?_))
 have s15 := (sq14.pick Aw).tail
 obtain ⟨z13, rfl, hz13⟩ := Ae (l := [(-1), 65536]) (lo := -1) (hi := 65536) mz13 (by decide)
 refine An (o' := 0) rfl (Cv s15 Aw rfl rfl fun H s16 => Ag s16 (.here) rfl (Bi (cs' := [si z13, r3x1, r3x2]) s16 F2 (Ac (Aa rfl (Aa lr3x1 (Aa lr3x2 rfl)))) rfl (Bb rfl) rfl fun H s17 => Ag s17 (.here) rfl ?_))
 have e18 : OutB 400 (⟨z13, r3.fFl, r3.fQ⟩ : Bv) := by
  apply Eo <;> first | assumption | omega | (unfold Ct; omega) | (refine zaz.2 ⟨by assumption, ?_⟩; intro z hz; simp only [zay, za2, or_false] at hz; rcases hz with rfl | rfl <;> (simp only [B6, Dj, Iq, Ct]; decide)) | (rw [E3]; exact zar (za9 (zaC (by decide : Ft A1 _ ≤ 4) _) _) (by omega))
 exact hk (⟨z13, r3.fFl, r3.fQ⟩ : Bv) r3x1 r3x2 iq14 hq14 _ lr3x1 lr3x2 e18 (s17.sel (.cons Bn (.cons Bn (.cons Ca Qw))))
 refine Ci h10 (Cd (Ah ((decide (z8 = 1))) (fun h19 => ?_) fun h19 => ?_))
 refine Dk h19 (Gx rfl rfl (AbK _ (by omega) code hcode c iq9 hq9   (sq9.pick (.here)) fun r20 r20x iq21 hq21 H lr20x hr20 sq21 => ?_))
 obtain ⟨or20, wr20⟩ := hr20
 have gr20 := Km B4 r20
 refine An (o' := 2) rfl (Cv sq21 Ca lr20x rfl fun H s22 => Ag s22 (.here) rfl (Bi (cs' := [si r3.fLast, r3x1, r20x]) s22 Fu (Ac (Aa rfl (Aa lr3x1 (Aa lr20x rfl)))) rfl (Bb rfl) rfl fun H s23 => Ag s23 (.here) rfl ?_))
 have e24 : OutB 400 (⟨r3.fLast, r3.fFl, r20⟩ : Bv) := by
  apply Eo <;> first | assumption | omega | (unfold Ct; omega) | (refine zaz.2 ⟨by assumption, ?_⟩; intro z hz; simp only [zay, za2, or_false] at hz; rcases hz with rfl | rfl <;> (simp only [B6, Dj, Iq, Ct]; decide)) | (rw [E3]; exact zar (za9 (zaC (by decide : Ft A1 _ ≤ 4) _) _) (by omega))
 exact hk (⟨r3.fLast, r3.fFl, r20⟩ : Bv) r3x1 r20x iq21 hq21 _ lr3x1 lr20x e24 (s23.sel (.cons F2 (.cons Ca (.cons Ca It))))
 refine Ci h19 (Cd (Ah ((decide (z8 = 2))) (fun h25 => ?_) fun h25 => ?_))
 refine Dk h25 (An (o' := 1) rfl (Bg (c := r3x1) sq9 Aw rfl (Kd sq9 Ca (L7 (Ah ((decide (0 < ((r3.fFl.length : Nat) : Int)))) (fun h26 => ?_) fun h26 => ?_)))))
 refine Dk h26 (An (o' := 1) rfl (Gd.bothE ?_ ?_))
 refine Bg (c := r3x1) sq9 Aw rfl (Az (cs := [i0, si 1, si 2, si 65536]) rfl (Au sq9 fun i27 H s28 => Bo hcode (by omega) (by omega) rfl s28 Aw (.here) fun z29a iq30 hq30 H mz29 sq30 => ?_))
 have s31 := (sq30.pick Aw).tail
 obtain ⟨z29, rfl, hz29⟩ := Ae (l := [0, 1, 2, 65536]) (lo := 0) (hi := 65536) mz29 (by decide)
 obtain ⟨y33, he32⟩ : ∃ y, (r3.fFl)[(0 : Int).toNat]? = some y := ⟨_, zas (by first | omega | (simp at *; omega))⟩
 refine Ke (y := y33) (y' := ({ y33 with fId := z29 } : Aj)) (k := 0) (v := (.int .i64 y33.fId)) s31 ⟨_, _, rfl, rfl, rfl, rfl⟩ Ca (by omega) he32 Bm (by omega) rfl rfl rfl fun H s34 => ?_
 have he32sy := Mb (p := B6) obr3 he32
 have he32sw := Jg A1 (r3.fFl) (0 : Int).toNat y33 ({ y33 with fId := z29 } : Aj) he32
 have he32sv : A1 ({ y33 with fId := z29 } : Aj) = A1 y33 ∨ A1 ({ y33 with fId := z29 } : Aj) ≤ 102 := by first | exact .inl rfl | (right; show B4 _ + 0 ≤ 102; omega)
 have he32so : B6 ({ y33 with fId := z29 } : Aj) := ⟨by first | exact he32sy.1 | (simp only [Ct]; omega), by first | exact he32sy.2.1 | assumption, by first | exact he32sy.2.2 | (simp only [Ct]; omega)⟩
 have he32sa := Jz (p := B6) (i := (0 : Int).toNat) obr3 he32so
 refine Ag s34 Ca rfl (Bi (cs' := [si r3.fLast, r3x1, r3x2]) s34 F2 (Ac (Aa rfl (Aa lr3x1 (Aa lr3x2 rfl)))) rfl (Bb rfl) rfl fun H s35 => Ag s35 (.here) rfl ?_)
 have e36 : OutB 400 (⟨r3.fLast, (r3.fFl.set (0 : Int).toNat ({ y33 with fId := z29 } : Aj)), r3.fQ⟩ : Bv) := by
  apply Eo <;> first | assumption | omega | (unfold Ct; omega) | (refine zaz.2 ⟨by assumption, ?_⟩; intro z hz; simp only [zay, za2, or_false] at hz; rcases hz with rfl | rfl <;> (simp only [B6, Dj, Iq, Ct]; decide)) | (rw [E3]; exact zar (za9 (zaC (by decide : Ft A1 _ ≤ 4) _) _) (by omega))
 exact hk (⟨r3.fLast, (r3.fFl.set (0 : Int).toNat ({ y33 with fId := z29 } : Aj)), r3.fQ⟩ : Bv) r3x1 r3x2 iq30 hq30 _ lr3x1 lr3x2 e36 (s35.sel (.cons Aw (.cons Bn (.cons Aw Qw))))
 refine Az (cs := [i0, si 1, si 2, si 65536]) rfl (Au sq9 fun i37 H s38 => Gd.bothE ?_ ?_)
 refine Bg (c := r3x1) s38 Ca rfl (Bo hcode (by omega) (by omega) rfl s38 Aw (.here) fun z39a iq40 hq40 H mz39 sq40 => ?_)
 have s41 := (sq40.pick Aw).tail
 obtain ⟨z39, rfl, hz39⟩ := Ae (l := [0, 1, 2, 65536]) (lo := 0) (hi := 65536) mz39 (by decide)
 obtain ⟨y43, he42⟩ : ∃ y, (r3.fFl)[(0 : Int).toNat]? = some y := ⟨_, zas (by first | omega | (simp at *; omega))⟩
 refine Ke (y := y43) (y' := ({ y43 with fId := z39 } : Aj)) (k := 0) (v := (.int .i64 y43.fId)) s41 ⟨_, _, rfl, rfl, rfl, rfl⟩ Ca (by omega) he42 Bm (by omega) rfl rfl rfl fun H s44 => ?_
 have he42sy := Mb (p := B6) obr3 he42
 have he42sw := Jg A1 (r3.fFl) (0 : Int).toNat y43 ({ y43 with fId := z39 } : Aj) he42
 have he42sv : A1 ({ y43 with fId := z39 } : Aj) = A1 y43 ∨ A1 ({ y43 with fId := z39 } : Aj) ≤ 102 := by first | exact .inl rfl | (right; show B4 _ + 0 ≤ 102; omega)
 have he42so : B6 ({ y43 with fId := z39 } : Aj) := ⟨by first | exact he42sy.1 | (simp only [Ct]; omega), by first | exact he42sy.2.1 | assumption, by first | exact he42sy.2.2 | (simp only [Ct]; omega)⟩
 have he42sa := Jz (p := B6) (i := (0 : Int).toNat) obr3 he42so
 refine Ag s44 Ca rfl (Bi (cs' := [si r3.fLast, r3x1, r3x2]) s44 F2 (Ac (Aa rfl (Aa lr3x1 (Aa lr3x2 rfl)))) rfl (Bb rfl) rfl fun H s45 => Ag s45 (.here) rfl ?_)
 have e46 : OutB 400 (⟨r3.fLast, (r3.fFl.set (0 : Int).toNat ({ y43 with fId := z39 } : Aj)), r3.fQ⟩ : Bv) := by
  apply Eo <;> first | assumption | omega | (unfold Ct; omega) | (refine zaz.2 ⟨by assumption, ?_⟩; intro z hz; simp only [zay, za2, or_false] at hz; rcases hz with rfl | rfl <;> (simp only [B6, Dj, Iq, Ct]; decide)) | (rw [E3]; exact zar (za9 (zaC (by decide : Ft A1 _ ≤ 4) _) _) (by omega))
 exact hk (⟨r3.fLast, (r3.fFl.set (0 : Int).toNat ({ y43 with fId := z39 } : Aj)), r3.fQ⟩ : Bv) r3x1 r3x2 iq40 hq40 _ lr3x1 lr3x2 e46 (s45.sel (.cons Aw (.cons Bn (.cons Aw Qw))))
 refine Bo hcode (by omega) (by omega) rfl s38 Aw (.here) fun z47a iq48 hq48 H mz47 sq48 => ?_
 have s49 := (sq48.pick Aw).tail
 obtain ⟨z47, rfl, hz47⟩ := Ae (l := [0, 1, 2, 65536]) (lo := 0) (hi := 65536) mz47 (by decide)
 refine Bg (c := r3x1) s49 Aw rfl ?_
 obtain ⟨y51, he50⟩ : ∃ y, (r3.fFl)[(0 : Int).toNat]? = some y := ⟨_, zas (by first | omega | (simp at *; omega))⟩
 refine Ke (y := y51) (y' := ({ y51 with fId := z47 } : Aj)) (k := 0) (v := (.int .i64 y51.fId)) s49 ⟨_, _, rfl, rfl, rfl, rfl⟩ Ca (by omega) he50 Bm (by omega) rfl rfl rfl fun H s52 => ?_
 have he50sy := Mb (p := B6) obr3 he50
 have he50sw := Jg A1 (r3.fFl) (0 : Int).toNat y51 ({ y51 with fId := z47 } : Aj) he50
 have he50sv : A1 ({ y51 with fId := z47 } : Aj) = A1 y51 ∨ A1 ({ y51 with fId := z47 } : Aj) ≤ 102 := by first | exact .inl rfl | (right; show B4 _ + 0 ≤ 102; omega)
 have he50so : B6 ({ y51 with fId := z47 } : Aj) := ⟨by first | exact he50sy.1 | (simp only [Ct]; omega), by first | exact he50sy.2.1 | assumption, by first | exact he50sy.2.2 | (simp only [Ct]; omega)⟩
 have he50sa := Jz (p := B6) (i := (0 : Int).toNat) obr3 he50so
 refine Ag s52 Ca rfl (Bi (cs' := [si r3.fLast, r3x1, r3x2]) s52 F2 (Ac (Aa rfl (Aa lr3x1 (Aa lr3x2 rfl)))) rfl (Bb rfl) rfl fun H s53 => Ag s53 (.here) rfl ?_)
 have e54 : OutB 400 (⟨r3.fLast, (r3.fFl.set (0 : Int).toNat ({ y51 with fId := z47 } : Aj)), r3.fQ⟩ : Bv) := by
  apply Eo <;> first | assumption | omega | (unfold Ct; omega) | (refine zaz.2 ⟨by assumption, ?_⟩; intro z hz; simp only [zay, za2, or_false] at hz; rcases hz with rfl | rfl <;> (simp only [B6, Dj, Iq, Ct]; decide)) | (rw [E3]; exact zar (za9 (zaC (by decide : Ft A1 _ ≤ 4) _) _) (by omega))
 exact hk (⟨r3.fLast, (r3.fFl.set (0 : Int).toNat ({ y51 with fId := z47 } : Aj)), r3.fQ⟩ : Bv) r3x1 r3x2 iq48 hq48 _ lr3x1 lr3x2 e54 (s53.sel (.cons Aw (.cons Bn (.cons Aw Qw))))
 refine Ci h26 (Ag sq9 Aw rfl (Bi (cs' := [si r3.fLast, r3x1, r3x2]) sq9 F2 (Ac (Aa rfl (Aa lr3x1 (Aa lr3x2 rfl)))) rfl (Bb rfl) rfl fun H s55 => Ag s55 (.here) rfl ?_))
 have e56 : OutB 400 (r3 : Bv) := by
  apply Eo <;> first | assumption | omega | (unfold Ct; omega) | (refine zaz.2 ⟨by assumption, ?_⟩; intro z hz; simp only [zay, za2, or_false] at hz; rcases hz with rfl | rfl <;> (simp only [B6, Dj, Iq, Ct]; decide)) | (rw [E3]; exact zar (za9 (zaC (by decide : Ft A1 _ ≤ 4) _) _) (by omega))
 exact hk (r3 : Bv) r3x1 r3x2 iq9 hq9 _ lr3x1 lr3x2 e56 (s55.sel (.cons Bn (.cons Bn (.cons Aw Qw))))
 refine Ci h25 (Cd (Ah ((decide (z8 = 3))) (fun h57 => ?_) fun h57 => ?_))
 refine Dk h57 (An (o' := 1) rfl (Bg (c := r3x1) sq9 Aw rfl (Kd sq9 Ca (L7 (Ah ((decide (0 < ((r3.fFl.length : Nat) : Int)))) (fun h58 => ?_) fun h58 => ?_)))))
 refine Dk h58 (An (o' := 1) rfl (Gd.bothE ?_ ?_))
 refine Bg (c := r3x1) sq9 Aw rfl (Az (cs := [i0, si 1, si 2, si 3, si 4]) rfl (Au sq9 fun i59 H s60 => Bo hcode (by omega) (by omega) rfl s60 Aw (.here) fun z61a iq62 hq62 H mz61 sq62 => ?_))
 have s63 := (sq62.pick Aw).tail
 obtain ⟨z61, rfl, hz61⟩ := Ae (l := [0, 1, 2, 3, 4]) (lo := 0) (hi := 4) mz61 (by decide)
 obtain ⟨y65, he64⟩ : ∃ y, (r3.fFl)[(0 : Int).toNat]? = some y := ⟨_, zas (by first | omega | (simp at *; omega))⟩
 refine Ke (y := y65) (y' := ({ y65 with fSt := z61 } : Aj)) (k := 5) (v := (.int .i64 y65.fSt)) s63 ⟨_, _, rfl, rfl, rfl, rfl⟩ Ca (by omega) he64 Bm (by omega) rfl rfl rfl fun H s66 => ?_
 have he64sy := Mb (p := B6) obr3 he64
 have he64sw := Jg A1 (r3.fFl) (0 : Int).toNat y65 ({ y65 with fSt := z61 } : Aj) he64
 have he64sv : A1 ({ y65 with fSt := z61 } : Aj) = A1 y65 ∨ A1 ({ y65 with fSt := z61 } : Aj) ≤ 102 := by first | exact .inl rfl | (right; show B4 _ + 0 ≤ 102; omega)
 have he64so : B6 ({ y65 with fSt := z61 } : Aj) := ⟨by first | exact he64sy.1 | (simp only [Ct]; omega), by first | exact he64sy.2.1 | assumption, by first | exact he64sy.2.2 | (simp only [Ct]; omega)⟩
 have he64sa := Jz (p := B6) (i := (0 : Int).toNat) obr3 he64so
 refine Ag s66 Ca rfl (Bi (cs' := [si r3.fLast, r3x1, r3x2]) s66 F2 (Ac (Aa rfl (Aa lr3x1 (Aa lr3x2 rfl)))) rfl (Bb rfl) rfl fun H s67 => Ag s67 (.here) rfl ?_)
 have e68 : OutB 400 (⟨r3.fLast, (r3.fFl.set (0 : Int).toNat ({ y65 with fSt := z61 } : Aj)), r3.fQ⟩ : Bv) := by
  apply Eo <;> first | assumption | omega | (unfold Ct; omega) | (refine zaz.2 ⟨by assumption, ?_⟩; intro z hz; simp only [zay, za2, or_false] at hz; rcases hz with rfl | rfl <;> (simp only [B6, Dj, Iq, Ct]; decide)) | (rw [E3]; exact zar (za9 (zaC (by decide : Ft A1 _ ≤ 4) _) _) (by omega))
 exact hk (⟨r3.fLast, (r3.fFl.set (0 : Int).toNat ({ y65 with fSt := z61 } : Aj)), r3.fQ⟩ : Bv) r3x1 r3x2 iq62 hq62 _ lr3x1 lr3x2 e68 (s67.sel (.cons Aw (.cons Bn (.cons Aw Qw))))
 refine Az (cs := [i0, si 1, si 2, si 3, si 4]) rfl (Au sq9 fun i69 H s70 => Gd.bothE ?_ ?_)
 refine Bg (c := r3x1) s70 Ca rfl (Bo hcode (by omega) (by omega) rfl s70 Aw (.here) fun z71a iq72 hq72 H mz71 sq72 => ?_)
 have s73 := (sq72.pick Aw).tail
 obtain ⟨z71, rfl, hz71⟩ := Ae (l := [0, 1, 2, 3, 4]) (lo := 0) (hi := 4) mz71 (by decide)
 obtain ⟨y75, he74⟩ : ∃ y, (r3.fFl)[(0 : Int).toNat]? = some y := ⟨_, zas (by first | omega | (simp at *; omega))⟩
 refine Ke (y := y75) (y' := ({ y75 with fSt := z71 } : Aj)) (k := 5) (v := (.int .i64 y75.fSt)) s73 ⟨_, _, rfl, rfl, rfl, rfl⟩ Ca (by omega) he74 Bm (by omega) rfl rfl rfl fun H s76 => ?_
 have he74sy := Mb (p := B6) obr3 he74
 have he74sw := Jg A1 (r3.fFl) (0 : Int).toNat y75 ({ y75 with fSt := z71 } : Aj) he74
 have he74sv : A1 ({ y75 with fSt := z71 } : Aj) = A1 y75 ∨ A1 ({ y75 with fSt := z71 } : Aj) ≤ 102 := by first | exact .inl rfl | (right; show B4 _ + 0 ≤ 102; omega)
 have he74so : B6 ({ y75 with fSt := z71 } : Aj) := ⟨by first | exact he74sy.1 | (simp only [Ct]; omega), by first | exact he74sy.2.1 | assumption, by first | exact he74sy.2.2 | (simp only [Ct]; omega)⟩
 have he74sa := Jz (p := B6) (i := (0 : Int).toNat) obr3 he74so
 refine Ag s76 Ca rfl (Bi (cs' := [si r3.fLast, r3x1, r3x2]) s76 F2 (Ac (Aa rfl (Aa lr3x1 (Aa lr3x2 rfl)))) rfl (Bb rfl) rfl fun H s77 => Ag s77 (.here) rfl ?_)
 have e78 : OutB 400 (⟨r3.fLast, (r3.fFl.set (0 : Int).toNat ({ y75 with fSt := z71 } : Aj)), r3.fQ⟩ : Bv) := by
  apply Eo <;> first | assumption | omega | (unfold Ct; omega) | (refine zaz.2 ⟨by assumption, ?_⟩; intro z hz; simp only [zay, za2, or_false] at hz; rcases hz with rfl | rfl <;> (simp only [B6, Dj, Iq, Ct]; decide)) | (rw [E3]; exact zar (za9 (zaC (by decide : Ft A1 _ ≤ 4) _) _) (by omega))
 exact hk (⟨r3.fLast, (r3.fFl.set (0 : Int).toNat ({ y75 with fSt := z71 } : Aj)), r3.fQ⟩ : Bv) r3x1 r3x2 iq72 hq72 _ lr3x1 lr3x2 e78 (s77.sel (.cons Aw (.cons Bn (.cons Aw Qw))))
 refine Bo hcode (by omega) (by omega) rfl s70 Aw (.here) fun z79a iq80 hq80 H mz79 sq80 => ?_
 have s81 := (sq80.pick Aw).tail
 obtain ⟨z79, rfl, hz79⟩ := Ae (l := [0, 1, 2, 3, 4]) (lo := 0) (hi := 4) mz79 (by decide)
 refine Bg (c := r3x1) s81 Aw rfl ?_
 obtain ⟨y83, he82⟩ : ∃ y, (r3.fFl)[(0 : Int).toNat]? = some y := ⟨_, zas (by first | omega | (simp at *; omega))⟩
 refine Ke (y := y83) (y' := ({ y83 with fSt := z79 } : Aj)) (k := 5) (v := (.int .i64 y83.fSt)) s81 ⟨_, _, rfl, rfl, rfl, rfl⟩ Ca (by omega) he82 Bm (by omega) rfl rfl rfl fun H s84 => ?_
 have he82sy := Mb (p := B6) obr3 he82
 have he82sw := Jg A1 (r3.fFl) (0 : Int).toNat y83 ({ y83 with fSt := z79 } : Aj) he82
 have he82sv : A1 ({ y83 with fSt := z79 } : Aj) = A1 y83 ∨ A1 ({ y83 with fSt := z79 } : Aj) ≤ 102 := by first | exact .inl rfl | (right; show B4 _ + 0 ≤ 102; omega)
 have he82so : B6 ({ y83 with fSt := z79 } : Aj) := ⟨by first | exact he82sy.1 | (simp only [Ct]; omega), by first | exact he82sy.2.1 | assumption, by first | exact he82sy.2.2 | (simp only [Ct]; omega)⟩
 have he82sa := Jz (p := B6) (i := (0 : Int).toNat) obr3 he82so
 refine Ag s84 Ca rfl (Bi (cs' := [si r3.fLast, r3x1, r3x2]) s84 F2 (Ac (Aa rfl (Aa lr3x1 (Aa lr3x2 rfl)))) rfl (Bb rfl) rfl fun H s85 => Ag s85 (.here) rfl ?_)
 have e86 : OutB 400 (⟨r3.fLast, (r3.fFl.set (0 : Int).toNat ({ y83 with fSt := z79 } : Aj)), r3.fQ⟩ : Bv) := by
  apply Eo <;> first | assumption | omega | (unfold Ct; omega) | (refine zaz.2 ⟨by assumption, ?_⟩; intro z hz; simp only [zay, za2, or_false] at hz; rcases hz with rfl | rfl <;> (simp only [B6, Dj, Iq, Ct]; decide)) | (rw [E3]; exact zar (za9 (zaC (by decide : Ft A1 _ ≤ 4) _) _) (by omega))
 exact hk (⟨r3.fLast, (r3.fFl.set (0 : Int).toNat ({ y83 with fSt := z79 } : Aj)), r3.fQ⟩ : Bv) r3x1 r3x2 iq80 hq80 _ lr3x1 lr3x2 e86 (s85.sel (.cons Aw (.cons Bn (.cons Aw Qw))))
 refine Ci h58 (Ag sq9 Aw rfl (Bi (cs' := [si r3.fLast, r3x1, r3x2]) sq9 F2 (Ac (Aa rfl (Aa lr3x1 (Aa lr3x2 rfl)))) rfl (Bb rfl) rfl fun H s87 => Ag s87 (.here) rfl ?_))
 have e88 : OutB 400 (r3 : Bv) := by
  apply Eo <;> first | assumption | omega | (unfold Ct; omega) | (refine zaz.2 ⟨by assumption, ?_⟩; intro z hz; simp only [zay, za2, or_false] at hz; rcases hz with rfl | rfl <;> (simp only [B6, Dj, Iq, Ct]; decide)) | (rw [E3]; exact zar (za9 (zaC (by decide : Ft A1 _ ≤ 4) _) _) (by omega))
 exact hk (r3 : Bv) r3x1 r3x2 iq9 hq9 _ lr3x1 lr3x2 e88 (s87.sel (.cons Bn (.cons Bn (.cons Aw Qw))))
 refine Ci h57 (Cd (Ah ((decide (z8 = 4))) (fun h89 => ?_) fun h89 => ?_))
 refine Dk h89 (An (o' := 1) rfl (Bg (c := r3x1) sq9 Aw rfl (Kd sq9 Ca (L7 (Ah ((decide (0 < ((r3.fFl.length : Nat) : Int)))) (fun h90 => ?_) fun h90 => ?_)))))
 refine Dk h90 (An (o' := 1) rfl (Gd.bothE ?_ ?_))
 refine Bg (c := r3x1) sq9 Aw rfl (Gx rfl rfl (Va _ (by omega) code hcode c iq9 hq9   (sq9.pick (.here)) fun r91 r91x1 iq92 hq92 H lr91x1 hr91 sq92 => ?_))
 obtain ⟨or91, wr91⟩ := hr91
 have ur91 := or91
 have vr91 := wr91
 simp only [Dj, B4, Iq, Ct, and_true, true_and] at ur91 vr91
 obtain ⟨y94, he93⟩ : ∃ y, (r3.fFl)[(0 : Int).toNat]? = some y := ⟨_, zas (by first | omega | (simp at *; omega))⟩
 refine AdN (y := y94) (y' := ({ y94 with fM := r91 } : Aj)) (k := 1) (v := 4) (cty := Fv) sq92 ⟨_, _, rfl, rfl, rfl, rfl⟩ rfl Bn (.sc (.own (.here) (.sc (.sc .nil)))) ⟨trivial, ⟨(Aej r91.fBody), (S6 trivial)⟩⟩ (by omega) he93 Bm (by omega) (Ac (Aa rfl (Aa lr91x1 rfl))) rfl rfl rfl fun H s95 => ?_
 have he93sy := Mb (p := B6) obr3 he93
 have he93sw := Jg A1 (r3.fFl) (0 : Int).toNat y94 ({ y94 with fM := r91 } : Aj) he93
 have he93sv : A1 ({ y94 with fM := r91 } : Aj) = A1 y94 ∨ A1 ({ y94 with fM := r91 } : Aj) ≤ 102 := by first | exact .inl rfl | (right; show B4 _ + 0 ≤ 102; omega)
 have he93so : B6 ({ y94 with fM := r91 } : Aj) := ⟨by first | exact he93sy.1 | (simp only [Ct]; omega), by first | exact he93sy.2.1 | assumption, by first | exact he93sy.2.2 | (simp only [Ct]; omega)⟩
 have he93sa := Jz (p := B6) (i := (0 : Int).toNat) obr3 he93so
 refine Ag s95 Ca rfl (Bi (cs' := [si r3.fLast, r3x1, r3x2]) s95 F2 (Ac (Aa rfl (Aa lr3x1 (Aa lr3x2 rfl)))) rfl (Bb rfl) rfl fun H s96 => Ag s96 (.here) rfl ?_)
 have e97 : OutB 400 (⟨r3.fLast, (r3.fFl.set (0 : Int).toNat ({ y94 with fM := r91 } : Aj)), r3.fQ⟩ : Bv) := by
  apply Eo <;> first | assumption | omega | (unfold Ct; omega) | (refine zaz.2 ⟨by assumption, ?_⟩; intro z hz; simp only [zay, za2, or_false] at hz; rcases hz with rfl | rfl <;> (simp only [B6, Dj, Iq, Ct]; decide)) | (rw [E3]; exact zar (za9 (zaC (by decide : Ft A1 _ ≤ 4) _) _) (by omega))
 exact hk (⟨r3.fLast, (r3.fFl.set (0 : Int).toNat ({ y94 with fM := r91 } : Aj)), r3.fQ⟩ : Bv) r3x1 r3x2 iq92 hq92 _ lr3x1 lr3x2 e97 (s96.sel (.cons Aw (.cons Bn (.cons Aw Qw))))
 refine Gx rfl rfl (Va _ (by omega) code hcode c iq9 hq9   (sq9.pick (.here)) fun r98 r98x1 iq99 hq99 H lr98x1 hr98 sq99 => ?_)
 obtain ⟨or98, wr98⟩ := hr98
 have ur98 := or98
 have vr98 := wr98
 simp only [Dj, B4, Iq, Ct, and_true, true_and] at ur98 vr98
 refine Bg (c := r3x1) sq99 Ca rfl ?_
 obtain ⟨y101, he100⟩ : ∃ y, (r3.fFl)[(0 : Int).toNat]? = some y := ⟨_, zas (by first | omega | (simp at *; omega))⟩
 refine AdN (y := y101) (y' := ({ y101 with fM := r98 } : Aj)) (k := 1) (v := 4) (cty := Fv) sq99 ⟨_, _, rfl, rfl, rfl, rfl⟩ rfl Bn (.sc (.own (.here) (.sc (.sc .nil)))) ⟨trivial, ⟨(Aej r98.fBody), (S6 trivial)⟩⟩ (by omega) he100 Bm (by omega) (Ac (Aa rfl (Aa lr98x1 rfl))) rfl rfl rfl fun H s102 => ?_
 have he100sy := Mb (p := B6) obr3 he100
 have he100sw := Jg A1 (r3.fFl) (0 : Int).toNat y101 ({ y101 with fM := r98 } : Aj) he100
 have he100sv : A1 ({ y101 with fM := r98 } : Aj) = A1 y101 ∨ A1 ({ y101 with fM := r98 } : Aj) ≤ 102 := by first | exact .inl rfl | (right; show B4 _ + 0 ≤ 102; omega)
 have he100so : B6 ({ y101 with fM := r98 } : Aj) := ⟨by first | exact he100sy.1 | (simp only [Ct]; omega), by first | exact he100sy.2.1 | assumption, by first | exact he100sy.2.2 | (simp only [Ct]; omega)⟩
 have he100sa := Jz (p := B6) (i := (0 : Int).toNat) obr3 he100so
 refine Ag s102 Ca rfl (Bi (cs' := [si r3.fLast, r3x1, r3x2]) s102 F2 (Ac (Aa rfl (Aa lr3x1 (Aa lr3x2 rfl)))) rfl (Bb rfl) rfl fun H s103 => Ag s103 (.here) rfl ?_)
 have e104 : OutB 400 (⟨r3.fLast, (r3.fFl.set (0 : Int).toNat ({ y101 with fM := r98 } : Aj)), r3.fQ⟩ : Bv) := by
  apply Eo <;> first | assumption | omega | (unfold Ct; omega) | (refine zaz.2 ⟨by assumption, ?_⟩; intro z hz; simp only [zay, za2, or_false] at hz; rcases hz with rfl | rfl <;> (simp only [B6, Dj, Iq, Ct]; decide)) | (rw [E3]; exact zar (za9 (zaC (by decide : Ft A1 _ ≤ 4) _) _) (by omega))
 exact hk (⟨r3.fLast, (r3.fFl.set (0 : Int).toNat ({ y101 with fM := r98 } : Aj)), r3.fQ⟩ : Bv) r3x1 r3x2 iq99 hq99 _ lr3x1 lr3x2 e104 (s103.sel (.cons Aw (.cons Bn (.cons Aw Qw))))
 refine Ci h90 (Ag sq9 Aw rfl (Bi (cs' := [si r3.fLast, r3x1, r3x2]) sq9 F2 (Ac (Aa rfl (Aa lr3x1 (Aa lr3x2 rfl)))) rfl (Bb rfl) rfl fun H s105 => Ag s105 (.here) rfl ?_))
 have e106 : OutB 400 (r3 : Bv) := by
  apply Eo <;> first | assumption | omega | (unfold Ct; omega) | (refine zaz.2 ⟨by assumption, ?_⟩; intro z hz; simp only [zay, za2, or_false] at hz; rcases hz with rfl | rfl <;> (simp only [B6, Dj, Iq, Ct]; decide)) | (rw [E3]; exact zar (za9 (zaC (by decide : Ft A1 _ ≤ 4) _) _) (by omega))
 exact hk (r3 : Bv) r3x1 r3x2 iq9 hq9 _ lr3x1 lr3x2 e106 (s105.sel (.cons Bn (.cons Bn (.cons Aw Qw))))
 refine Ci h89 (Cd (Ah ((decide (z8 = 5))) (fun h107 => ?_) fun h107 => ?_))
 refine Dk h107 (An (o' := 1) rfl (Bg (c := r3x1) sq9 Aw rfl (Az (cs := [.sc (.string (⟨#[97]⟩)), .nl, .sc (.int .i64 1), .sc (.bool false)]) rfl (Az (cs := [.sc (.int .i64 9), .sc (.string (⟨#[97]⟩)), .nl, .sc (.int .i64 1), .sc (.bool false), .sc (.int .i64 1)]) rfl (Az (cs := [.sc (.string (⟨#[97]⟩)), .nl, .sc (.int .i64 2), .sc (.bool false)]) rfl (Az (cs := [.sc (.int .i64 10), .sc (.string (⟨#[97]⟩)), .nl, .sc (.int .i64 2), .sc (.bool false), .sc (.int .i64 3)]) rfl (Az (cs := [.sc (.int .i64 9), .sc (.string (⟨#[97]⟩)), .nl, .sc (.int .i64 1), .sc (.bool false), .sc (.int .i64 1), .sc (.int .i64 10), .sc (.string (⟨#[97]⟩)), .nl, .sc (.int .i64 2), .sc (.bool false), .sc (.int .i64 3)]) rfl (Au sq9 fun i108 H s109 => Aii (q := [(⟨9, ⟨⟨#[97]⟩, ⟨#[]⟩, 1, false⟩, 1⟩ : Aj), (⟨10, ⟨⟨#[97]⟩, ⟨#[]⟩, 2, false⟩, 3⟩ : Aj)]) (cty := [3, 9, 22, 3, 4, 3]) s109 ⟨_, _, rfl, rfl, rfl, rfl⟩ Bn (Ox (.here) rfl rfl (.sc (.sc (.nl (Ws (.nl (oS3 .nil)))))) (S6 ⟨H6, (Vm ⟨H6, (tK3 trivial)⟩)⟩)) (S6 ⟨H6, (Vm ⟨H6, (tK3 trivial)⟩)⟩) (by simp only [zao, zat]; omega) fun x110 H lx110 s111 => An (o' := 1) rfl (Cv s111 Ca lx110 rfl fun H s112 => Ag s112 (.here) rfl (Bi (cs' := [.sc (.int .i64 r3.fLast), x110, r3x2]) s112 F2 (Ac (Aa rfl (Aa lx110 (Aa lr3x2 rfl)))) rfl (Bb rfl) rfl fun H s113 => Ag s113 (.here) rfl ?_))))))))))
 have e114 : OutB 400 (⟨r3.fLast, (r3.fFl ++ [(⟨9, ⟨⟨#[97]⟩, ⟨#[]⟩, 1, false⟩, 1⟩ : Aj), (⟨10, ⟨⟨#[97]⟩, ⟨#[]⟩, 2, false⟩, 3⟩ : Aj)]), r3.fQ⟩ : Bv) := by
  apply Eo <;> first | assumption | omega | (unfold Ct; omega) | (refine zaz.2 ⟨by assumption, ?_⟩; intro z hz; simp only [zay, za2, or_false] at hz; rcases hz with rfl | rfl <;> (simp only [B6, Dj, Iq, Ct]; decide)) | (rw [E3]; exact zar (za9 (zaC (by decide : Ft A1 _ ≤ 4) _) _) (by omega))
 exact hk (⟨r3.fLast, (r3.fFl ++ [(⟨9, ⟨⟨#[97]⟩, ⟨#[]⟩, 1, false⟩, 1⟩ : Aj), (⟨10, ⟨⟨#[97]⟩, ⟨#[]⟩, 2, false⟩, 3⟩ : Aj)]), r3.fQ⟩ : Bv) x110 r3x2 iq9 hq9 _ lx110 lr3x2 e114 (s113.sel (.cons Ca (.cons Bn (.cons Ca Qw))))
 refine Ci h107 (Ag sq9 Aw rfl (Bi (cs' := [si r3.fLast, r3x1, r3x2]) sq9 F2 (Ac (Aa rfl (Aa lr3x1 (Aa lr3x2 rfl)))) rfl (Bb rfl) rfl fun H s115 => Ag s115 (.here) rfl ?_))
 have e116 : OutB 400 (r3 : Bv) := by
  apply Eo <;> first | assumption | omega | (unfold Ct; omega) | (refine zaz.2 ⟨by assumption, ?_⟩; intro z hz; simp only [zay, za2, or_false] at hz; rcases hz with rfl | rfl <;> (simp only [B6, Dj, Iq, Ct]; decide)) | (rw [E3]; exact zar (za9 (zaC (by decide : Ft A1 _ ≤ 4) _) _) (by omega))
 exact hk (r3 : Bv) r3x1 r3x2 iq9 hq9 _ lr3x1 lr3x2 e116 (s115.sel (.cons Bn (.cons Bn (.cons Aw Qw))))
end
section
open Go
theorem Aeg (x : Int) : (Qj x).length = 1 := rfl
theorem AaC {α β : Type} {r : Option β} {w : Nat} {enc : α → List AV} {l pre t : List α} {d : α} {K : AV → Option β} (hw : ∀ x, (enc x).length = w) (h0 : 0 < w) (hp : decide ((pre.length : Int) > 0) = true) (hl : l = pre ++ t) (hlen : l.length ≤ 1048576) (h : K (.rp (enc (pre.getLastD d) ++ (t.map enc).flatten)) = r) : Es w (Am enc l) (.sc (.int .i64 (IntKind.i64.wrap ((pre.length : Int) - 1)))) (fun t => K t) = r := by
 refine Agx hw h0 hp hl hlen fun y hy => ?_
 rw [show pre.getLastD d = y from by rw [List.getLastD_eq_getLast?, hy]; rfl] at h
 exact h
def S9 (l : List Int) : List Int → List Int → Bool
 | pre, [] => decide ((l.length : Int) ≤ 4)
 | pre, x :: r => (Ga x 1 65535 && !(decide ((pre.length : Int) > 0) && decide ((pre.getLastD 0) ≥ x))) && S9 l (pre ++ [x]) r
theorem Qi (n : Nat) (hn : 1048576 < n) (ty : Nat) (l : List Int) (hlen : l.length ≤ 1048576) : ∀ (r pre : List Int) (m : Nat) (H : Ab), l = pre ++ r → r.length < m → Rd (PR (n + 3) AV) (n + 3) (fun x H => A4 Aq E0.tp ty H x) m (Am Qj l) (.sc (.int .i64 pre.length)) H = some (.sc (.bool (S9 l pre r)))
 | [], pre, m + 1, H, hl, hm => by
  have hlt : decide ((pre.length : Int) < (l.length : Int)) = false := by
   rw [hl]
   simp
  show (PR (n + 3) AV).len _ _ = _
  simp only [C4, Cj, Br, A5, Bf, Ba, Db, Da, Ea, A0, Bs, Pr.gT, Pr.gF, Pr.hT, Pr.hF, Pr.kT, Pr.kF, B7, Bw, C2, Bx, Du, Cw, Cc, Bh, Bj, Dn, Cp, Di, Dh]
  exact Do (A2 (v := .sc (.bool (decide ((pre.length : Int) < (l.length : Int))))) (fun k => rfl) (Fc hlt (Do (A2 (v := .sc (.bool (decide ((l.length : Int) ≤ 4)))) (fun k => rfl) (Dv (by (try clear ih); (try clear hlt); (try clear hix); (try clear hm); (try clear hmem); (try clear hpl); (try clear hsl); (try clear hlen); (try clear hqn); (try clear hqs); (try clear hs); (try clear B); (try clear B1); (try clear B2); (try clear hl); subst_vars; rw [S9]; first | done | (cases h1 : Ga x 1 65535 <;> cases h2 : decide ((pre.length : Int) > 0) <;> cases h3 : decide ((pre.getLastD 0) ≥ x) <;> simp [h1, h2, h3] at * <;> first | omega | (simp_all; done) | (simp_all; omega))))))))
 | x :: r, pre, m + 1, H, hl, hm => by
  have hpl : pre.length < l.length := by rw [hl]; simp
  have hlt : decide ((pre.length : Int) < (l.length : Int)) = true := by simpa using hpl
  have hmem : x ∈ l := by rw [hl]; simp
  have hix : IntKind.i64.wrap ((pre.length : Int) + 1) = (((pre ++ [x]).length : Nat) : Int) := by
   rw [Fd _ (by omega) (by omega), zae, zal]
   rfl
  show (PR (n + 3) AV).len _ _ = _
  simp only [C4, Cj, Br, A5, Bf, Ba, Db, Da, Ea, A0, Bs, Pr.gT, Pr.gF, Pr.hT, Pr.hF, Pr.kT, Pr.kF, B7, Bw, C2, Bx, Du, Cw, Cc, Bh, Bj, Dn, Cp, Di, Dh]
  refine Do (A2 (v := sb (decide ((pre.length : Int) < (l.length : Int)))) (fun k => rfl) (E2 hlt (Hd Aeg (by decide) hl (He (c := si x) rfl (Dr rfl (Bl (Cu _ _) (Bl (Cu _ _) (Bl (Cu _ _) Ds))) (Ma (n + 2) _ x 1 65535) (Gw ?_))))))
  apply A8 ((!(Ga x 1 65535)) || ((decide ((pre.length : Int) > 0)) && (decide ((pre.getLastD 0) ≥ x))))
  intro b1 q1
  refine Ah ((Ga x 1 65535)) (fun h1 => ?_) fun h1 => ?_
  refine Cy (nF h1) (Cy (nF h1) (A2 (v := sb (decide ((pre.length : Int) > 0))) (fun k => rfl) (Cy (nF h1) ?_)))
  apply A8 ((decide ((pre.length : Int) > 0)) && (decide ((pre.getLastD 0) ≥ x)))
  intro b2 q2
  refine Ah ((decide ((pre.length : Int) > 0))) (fun h2 => ?_) fun h2 => ?_
  exact As h2 (As h2 (As h2 (A2 (v := si (IntKind.i64.wrap ((pre.length : Int) - 1))) (fun k => rfl) (As h2 (AaC (d := 0) Aeg (by decide) h2 hl hlen (As h2 (He (c := si (pre.getLastD 0)) rfl (As h2 (As h2 (As h2 (Hd Aeg (by decide) hl (As h2 (He (c := si x) rfl (As h2 (A2 (v := sb (decide ((pre.getLastD 0) ≥ x))) (fun k => rfl) (Cy (nF h1) (Ch h2 (Hs q2 h2) rfl)))))))))))))))))
  exact Av h2 (Av h2 (Av h2 (Av h2 (Av h2 (Av h2 (Av h2 (Av h2 (Av h2 (Av h2 (Cy (nF h1) (Cg h2 (Hr q2 h2) rfl)))))))))))
  intro b2 q2
  exact Cg (nF h1) (by subst q2; exact mOF q1 (nF h1)) rfl
  exact C8 (nT h1) (C8 (nT h1) (C8 (nT h1) (Pz (Pz (Pz (Pz (Pz (Pz (Pz (Pz (Pz (Pz (C8 (nT h1) (Ch (nT h1) (mOT q1 (nT h1)) rfl))))))))))))))
  intro b1 q1
  refine Ah (b1) (fun h3 => ?_) fun h3 => ?_
  ·exact E2 h3 (Dv (by (try clear ih); (try clear hlt); (try clear hix); (try clear hm); (try clear hmem); (try clear hpl); (try clear hsl); (try clear hlen); (try clear hqn); (try clear hqs); (try clear hs); (try clear B); (try clear B1); (try clear B2); (try clear hl); subst_vars; rw [S9]; first | done | (cases h1 : Ga x 1 65535 <;> cases h2 : decide ((pre.length : Int) > 0) <;> cases h3 : decide ((pre.getLastD 0) ≥ x) <;> simp [h1, h2, h3] at * <;> first | omega | (simp_all; done) | (simp_all; omega))))
  ·refine Fc h3 (A2 (v := si (IntKind.i64.wrap ((pre.length : Int) + 1))) (fun k => rfl) ?_)
   rw [hix]
   refine (Qi n hn ty l hlen r (pre ++ [x]) m _  (by rw [hl]; simp) (by simpa using hm)).trans (congrArg (fun b => some (AV.sc (Value.bool b))) ?_)
   (try clear ih); (try clear hlt); (try clear hix); (try clear hm); (try clear hmem); (try clear hpl); (try clear hsl); (try clear hlen); (try clear hqn); (try clear hqs); (try clear hs); (try clear B); (try clear B1); (try clear B2); (try clear hl); subst_vars; rw [S9]; first | done | (cases h1 : Ga x 1 65535 <;> cases h2 : decide ((pre.length : Int) > 0) <;> cases h3 : decide ((pre.getLastD 0) ≥ x) <;> simp [h1, h2, h3] at * <;> first | omega | (simp_all; done) | (simp_all; omega))
theorem P8 (n : Nat) (hn : 1048576 < n) (ty : Nat) (l : List Int) (hlen : l.length ≤ 1048576) : ∀ (r pre : List Int) (m : Nat) (H : Ab), l = pre ++ r → r.length < m → Rc (PR (n + 3) AV) (n + 3) (fun x H => A4 Aq E0.tp ty H x) m (Am Qj l) (Am Qj l) (.sc (.int .i64 (l.length : Int))) (.sc (.int .i64 pre.length)) H = some (.sc (.bool (S9 l pre r)))
 | [], pre, m + 1, H, hl, hm => by
  have hlt : decide ((pre.length : Int) < (l.length : Int)) = false := by
   rw [hl]
   simp
  show (PR (n + 3) AV).bin _ _ _ _ = _
  simp only [C4, Cj, Br, A5, Bf, Ba, Db, Da, Ea, A0, Bs, Pr.gT, Pr.gF, Pr.hT, Pr.hF, Pr.kT, Pr.kF, B7, Bw, C2, Bx, Du, Cw, Cc, Bh, Bj, Dn, Cp, Di, Dh]
  exact A2 (v := .sc (.bool (decide ((pre.length : Int) < (l.length : Int))))) (fun k => rfl) (Fc hlt (Do (A2 (v := .sc (.bool (decide ((l.length : Int) ≤ 4)))) (fun k => rfl) (Dv (by (try clear ih); (try clear hlt); (try clear hix); (try clear hm); (try clear hmem); (try clear hpl); (try clear hsl); (try clear hlen); (try clear hqn); (try clear hqs); (try clear hs); (try clear B); (try clear B1); (try clear B2); (try clear hl); subst_vars; rw [S9]; first | done | (cases h1 : Ga x 1 65535 <;> cases h2 : decide ((pre.length : Int) > 0) <;> cases h3 : decide ((pre.getLastD 0) ≥ x) <;> simp [h1, h2, h3] at * <;> first | omega | (simp_all; done) | (simp_all; omega)))))))
 | x :: r, pre, m + 1, H, hl, hm => by
  have hpl : pre.length < l.length := by rw [hl]; simp
  have hlt : decide ((pre.length : Int) < (l.length : Int)) = true := by simpa using hpl
  have hmem : x ∈ l := by rw [hl]; simp
  have hix : IntKind.i64.wrap ((pre.length : Int) + 1) = (((pre ++ [x]).length : Nat) : Int) := by
   rw [Fd _ (by omega) (by omega), zae, zal]
   rfl
  show (PR (n + 3) AV).bin _ _ _ _ = _
  simp only [C4, Cj, Br, A5, Bf, Ba, Db, Da, Ea, A0, Bs, Pr.gT, Pr.gF, Pr.hT, Pr.hF, Pr.kT, Pr.kF, B7, Bw, C2, Bx, Du, Cw, Cc, Bh, Bj, Dn, Cp, Di, Dh]
  refine A2 (v := sb (decide ((pre.length : Int) < (l.length : Int)))) (fun k => rfl) (E2 hlt (Hd Aeg (by decide) hl (He (c := si x) rfl (Dr rfl (Bl (Cu _ _) Ds) (AgK (n + 1) _ x) (Gw ?_)))))
  apply A8 ((!(Ga x 1 65535)) || ((decide ((pre.length : Int) > 0)) && (decide ((pre.getLastD 0) ≥ x))))
  intro b1 q1
  refine Ah ((Ga x 1 65535)) (fun h1 => ?_) fun h1 => ?_
  refine Cy (nF h1) (Cy (nF h1) (A2 (v := sb (decide ((pre.length : Int) > 0))) (fun k => rfl) (Cy (nF h1) ?_)))
  apply A8 ((decide ((pre.length : Int) > 0)) && (decide ((pre.getLastD 0) ≥ x)))
  intro b2 q2
  refine Ah ((decide ((pre.length : Int) > 0))) (fun h2 => ?_) fun h2 => ?_
  exact As h2 (As h2 (As h2 (A2 (v := si (IntKind.i64.wrap ((pre.length : Int) - 1))) (fun k => rfl) (As h2 (AaC (d := 0) Aeg (by decide) h2 hl hlen (As h2 (He (c := si (pre.getLastD 0)) rfl (As h2 (As h2 (A2 (v := sb (decide ((pre.getLastD 0) ≥ x))) (fun k => rfl) (Cy (nF h1) (Ch h2 (Hs q2 h2) rfl))))))))))))
  exact Av h2 (Av h2 (Av h2 (Av h2 (Av h2 (Av h2 (Av h2 (Cy (nF h1) (Cg h2 (Hr q2 h2) rfl))))))))
  intro b2 q2
  exact Cg (nF h1) (by subst q2; exact mOF q1 (nF h1)) rfl
  exact C8 (nT h1) (C8 (nT h1) (C8 (nT h1) (Pz (Pz (Pz (Pz (Pz (Pz (Pz (C8 (nT h1) (Ch (nT h1) (mOT q1 (nT h1)) rfl)))))))))))
  intro b1 q1
  refine Ah (b1) (fun h3 => ?_) fun h3 => ?_
  ·exact E2 h3 (Dv (by (try clear ih); (try clear hlt); (try clear hix); (try clear hm); (try clear hmem); (try clear hpl); (try clear hsl); (try clear hlen); (try clear hqn); (try clear hqs); (try clear hs); (try clear B); (try clear B1); (try clear B2); (try clear hl); subst_vars; rw [S9]; first | done | (cases h1 : Ga x 1 65535 <;> cases h2 : decide ((pre.length : Int) > 0) <;> cases h3 : decide ((pre.getLastD 0) ≥ x) <;> simp [h1, h2, h3] at * <;> first | omega | (simp_all; done) | (simp_all; omega))))
  ·refine Fc h3 (A2 (v := si (IntKind.i64.wrap ((pre.length : Int) + 1))) (fun k => rfl) ?_)
   rw [hix]
   refine (P8 n hn ty l hlen r (pre ++ [x]) m _  (by rw [hl]; simp) (by simpa using hm)).trans (congrArg (fun b => some (AV.sc (Value.bool b))) ?_)
   (try clear ih); (try clear hlt); (try clear hix); (try clear hm); (try clear hmem); (try clear hpl); (try clear hsl); (try clear hlen); (try clear hqn); (try clear hqs); (try clear hs); (try clear B); (try clear B1); (try clear B2); (try clear hl); subst_vars; rw [S9]; first | done | (cases h1 : Ga x 1 65535 <;> cases h2 : decide ((pre.length : Int) > 0) <;> cases h3 : decide ((pre.getLastD 0) ≥ x) <;> simp [h1, h2, h3] at * <;> first | omega | (simp_all; done) | (simp_all; omega))
def Sz (l : List Int) : Bool := S9 l [] l
theorem Agq (n : Nat) (hn : 1048576 < n) (ty : Nat) (l : List Int) (hlen : l.length ≤ 1048576) : C1 E0 (n + 4) ty 83 [Df l] = some (.sc (.bool (Sz l))) := by
 rw [A6, AhW, f83, Ji]
 exact Qi n hn ty l hlen l [] (n + 3) [] rfl (by omega)
theorem AfJ (n : Nat) (hn : 1048576 < n) (ty : Nat) (l : List Int) (hlen : l.length ≤ 1048576) : C1 E0 (n + 4) ty 78 [Df l] = some (.sc (.bool (Sz l))) := by
 rw [A6, AhS, f78, Ji]
 simp only [Bw]
 exact Do (P8 n hn ty l hlen l [] (n + 3) [] rfl (by omega))
def Ie (clean : Bool) (conn gen : Int) : Bool := if conn == -1 then (!clean && gen == 0) else (Ga conn 0 3 && decide (gen ≥ 0))
def Un (s : ByteArray) : Bool := D9 s && !(s.toList == (⟨#[]⟩ : ByteArray).toList)
def Cx (s : At) : Bool := Un s.fClient && decide (s.fBorn ≥ 0) && Ie s.fClean s.fConn s.fGen && Gs s.fO && Sz s.fIn
theorem C0 (s : At) (b0 : Kn s ≤ 1048576) : s.fClient.size ≤ 1048576 ∧ Eu s.fO ≤ 1048576 ∧ s.fIn.length ≤ 1048576 := by
 unfold Kn at b0
 omega
theorem AfW (n : Nat) (ty : Nat) (s : ByteArray) (hs : s.size ≤ 1048576) : C1 E0 (n + 2) ty 76 [.sc (.string s)] = some (.sc (.bool (Un s))) := by
 rw [A6, AhQ, f76]
 try simp only [C4, Cj, Br, A5, Bf, Ba, Db, Da, Ea, A0, Bs, Pr.gT, Pr.gF, Pr.hT, Pr.hF, Pr.kT, Pr.kF, B7, Bw, C2, Bx, Du, Cw, Cc, Bh, Bj, Dn, Cp, Di, Dh]
 refine Zc rfl (Bl (Cu _ _) Ds) (Ts _ s (Aek hs)) ?_
 apply A8 ((D9 s) && (!(s.toList == (⟨#[]⟩ : ByteArray).toList)))
 intro b1 q1
 refine Ah ((D9 s)) (fun h1 => ?_) fun h1 => ?_
 exact As h1 (As h1 (A2 (v := sb (!(s.toList == (⟨#[]⟩ : ByteArray).toList))) (fun k => rfl) (Ch h1 (Hs q1 h1) rfl)))
 exact Av h1 (Av h1 (Cg h1 (Hr q1 h1) rfl))
 intro b1 q1
 exact Dv (by subst_vars; rfl)
theorem Xa (n : Nat) (ty : Nat) (clean : Bool) (conn : Int) (gen : Int) : C1 E0 (n + 2) ty 77 [.sc (.bool clean), .sc (.int .i64 conn), .sc (.int .i64 gen)] = some (.sc (.bool (Ie clean conn gen))) := by
 rw [A6, AhR, f77]
 try simp only [C4, Cj, Br, A5, Bf, Ba, Db, Da, Ea, A0, Bs, Pr.gT, Pr.gF, Pr.hT, Pr.hF, Pr.kT, Pr.kF, B7, Bw, C2, Bx, Du, Cw, Cc, Bh, Bj, Dn, Cp, Di, Dh]
 refine A2 (v := sb (conn == (-1))) (fun k => rfl) (Ah ((conn == (-1))) (fun h1 => ?_) fun h1 => ?_)
 refine E2 h1 (Gw ?_)
 apply A8 ((!clean) && (gen == 0))
 intro b2 q2
 refine Ah (clean) (fun h2 => ?_) fun h2 => ?_
 exact Av (nF h2) (Av (nF h2) (Cg (nF h2) (Hr q2 (nF h2)) rfl))
 exact As (nT h2) (As (nT h2) (A2 (v := sb (gen == 0)) (fun k => rfl) (Ch (nT h2) (Hs q2 (nT h2)) rfl)))
 intro b2 q2
 exact Dv (by subst_vars; unfold Ie; simp_all)
 refine Fc h1 (Dr rfl (Bl (Cu _ _) (Bl (Cu _ _) (Bl (Cu _ _) Ds))) (O4 (n + 0) _ conn 0 3) ?_)
 apply A8 ((Ga conn 0 3) && (decide (gen ≥ 0)))
 intro b3 q3
 refine Ah ((Ga conn 0 3)) (fun h3 => ?_) fun h3 => ?_
 exact As h3 (As h3 (A2 (v := sb (decide (gen ≥ 0))) (fun k => rfl) (Ch h3 (Hs q3 h3) rfl)))
 exact Av h3 (Av h3 (Cg h3 (Hr q3 h3) rfl))
 intro b3 q3
 exact Dv (by subst_vars; unfold Ie; simp_all)
theorem Hn (n : Nat) (hn : 1048576 < n) (ty : Nat) (s : At) (hs : s.fClient.size ≤ 1048576) (hwo : Eu s.fO ≤ 1048576) (hin : s.fIn.length ≤ 1048576) : C1 E0 (n + 11) ty 24 [.agg (Bq s)] = some (.sc (.bool (Cx s))) := by
 rw [A6, Ahr, f24]
 try simp only [C4, Cj, Br, A5, Bf, Ba, Db, Da, Ea, A0, Bs, Pr.gT, Pr.gF, Pr.hT, Pr.hF, Pr.kT, Pr.kF, B7, Bw, C2, Bx, Du, Cw, Cc, Bh, Bj, Dn, Cp, Di, Dh]
 refine Lr (Hg _) fun iB1 eB1 B1 => Ak (B3 (c := ss s.fClient) B1 (Bb rfl) rfl (Dr rfl (Bl (Cu _ _) Ds) (AfW (n + 8) _ s.fClient hs) ?_))
 apply A8 ((Un s.fClient) && (decide (s.fBorn ≥ 0)))
 intro b2 q2
 refine Ah ((Un s.fClient)) (fun h2 => ?_) fun h2 => ?_
 exact As h2 (Ak (As h2 (B3 (c := si s.fBorn) B1 (Bb rfl) rfl (As h2 (A2 (v := sb (decide (s.fBorn ≥ 0))) (fun k => rfl) (Ch h2 (Hs q2 h2) rfl))))))
 exact Av h2 (Av h2 (Av h2 (Cg h2 (Hr q2 h2) rfl)))
 intro b2 q2
 apply A8 (b2 && (Ie s.fClean s.fConn s.fGen))
 intro b3 q3
 refine Ah (b2) (fun h3 => ?_) fun h3 => ?_
 exact As h3 (Ak (As h3 (B3 (c := sb s.fClean) B1 (Bb rfl) rfl (As h3 (Ak (As h3 (B3 (c := si s.fConn) B1 (Bb rfl) rfl (As h3 (Ak (As h3 (B3 (c := si s.fGen) B1 (Bb rfl) rfl (As h3 (Dr rfl (Bl (Cu _ _) (Bl (Cu _ _) (Bl (Cu _ _) Ds))) (Xa (n + 8) _ s.fClean s.fConn s.fGen) (Ch h3 (Hs q3 h3) rfl))))))))))))))
 exact Av h3 (Av h3 (Av h3 (Av h3 (Av h3 (Av h3 (Av h3 (Cg h3 (Hr q3 h3) rfl)))))))
 intro b3 q3
 apply A8 (b3 && (Gs s.fO))
 intro b4 q4
 refine Ah (b3) (fun h4 => ?_) fun h4 => ?_
 exact As h4 (Ak (As h4 (F1 (ds := A9 s.fO) B1 (Bb rfl) rfl (As h4 (Dr rfl (Bl (Fo _ (G2 _)) Ds) (AdS (n + 0) (by omega) _ s.fO hwo) (Ch h4 (Hs q4 h4) rfl))))))
 exact Av h4 (Av h4 (Av h4 (Cg h4 (Hr q4 h4) rfl)))
 intro b4 q4
 apply A8 (b4 && (Sz s.fIn))
 intro b5 q5
 refine Ah (b4) (fun h5 => ?_) fun h5 => ?_
 exact As h5 (Ak (As h5 (B3 (c := Df s.fIn) B1 (Bb rfl) rfl (As h5 (Dr rfl (Bl (Gk _ _ _) Ds) (AfJ (n + 6) (by omega) _ s.fIn hin) (Ch h5 (Hs q5 h5) rfl))))))
 exact Av h5 (Av h5 (Av h5 (Cg h5 (Hr q5 h5) rfl)))
 intro b5 q5
 exact Dv (by subst_vars; rfl)
theorem Mz (n : Nat) (hn : 1048576 < n) (ty : Nat) (s : At) (hs : s.fClient.size ≤ 1048576) (hwo : Eu s.fO ≤ 1048576) (hin : s.fIn.length ≤ 1048576) : C1 E0 (n + 11) ty 32 [.agg (Bq s)] = some (.sc (.bool (Cx s))) := by
 rw [A6, Ahx, f32]
 try simp only [C4, Cj, Br, A5, Bf, Ba, Db, Da, Ea, A0, Bs, Pr.gT, Pr.gF, Pr.hT, Pr.hF, Pr.kT, Pr.kF, B7, Bw, C2, Bx, Du, Cw, Cc, Bh, Bj, Dn, Cp, Di, Dh]
 refine Lr (Hg _) fun iB1 eB1 B1 => Ak (B3 (c := si s.fConn) B1 (Bb rfl) rfl (A2 (v := sb (s.fConn == (-1))) (fun k => rfl) ?_))
 apply A8 ((s.fConn == (-1)) && (s.fClean || (s.fGen != 0)))
 intro b2 q2
 refine Ah ((s.fConn == (-1))) (fun h2 => ?_) fun h2 => ?_
 refine As h2 (Ak (As h2 (B3 (c := sb s.fClean) B1 (Bb rfl) rfl (As h2 ?_))))
 apply A8 (s.fClean || (s.fGen != 0))
 intro b3 q3
 refine Ah (s.fClean) (fun h3 => ?_) fun h3 => ?_
 exact C8 h3 (C8 h3 (C8 h3 (As h2 (Ch h3 (mOT q3 h3) rfl))))
 exact Cy h3 (Ak (Cy h3 (B3 (c := si s.fGen) B1 (Bb rfl) rfl (Cy h3 (A2 (v := sb (s.fGen != 0)) (fun k => rfl) (As h2 (Cg h3 (mOF q3 h3) rfl)))))))
 intro b3 q3
 exact Ch h2 (by subst q3; exact Hs q2 h2) rfl
 exact Av h2 (Av h2 (Av h2 (Pz (Pz (Pz (Av h2 (Cg h2 (Hr q2 h2) rfl)))))))
 intro b2 q2
 refine Ah (b2) (fun h4 => ?_) fun h4 => ?_
 ·exact E2 h4 (Dv (by (try clear B1); (try clear hs); (try clear hwo); (try clear hin); subst_vars; unfold Cx Un Ie Ga; generalize Gs s.fO = o1 at *; generalize Sz s.fIn = o2 at *; generalize D9 s.fClient = o3 at *; generalize (s.fClient.toList == (⟨#[]⟩ : ByteArray).toList) = o4 at *; generalize s.fClean = cl at *; generalize s.fConn = c at *; generalize s.fGen = g at *; generalize s.fBorn = bo at *; cases o1 <;> cases o2 <;> cases o3 <;> cases o4 <;> cases cl <;> (try simp) <;> (try simp at *) <;> first | done | omega | (rw [zaM]; simp; omega) | (simp_all; omega) | (by_cases hc : c = -1 <;> simp [hc] at h4 ⊢ <;> first | done | (intros; omega) | (rw [zaM]; simp; omega) | (simp_all; done) | (simp_all; omega))))
 ·refine Fc h4 (Ak (B3 (c := ss s.fClient) B1 (Bb rfl) rfl (Dr rfl (Bl (Cu _ _) Ds) (Uj (n + 6) (by omega) _ s.fClient) ?_)))
  apply A8 ((D9 s.fClient) && (!(s.fClient.toList == (⟨#[]⟩ : ByteArray).toList)))
  intro b5 q5
  refine Ah ((D9 s.fClient)) (fun h5 => ?_) fun h5 => ?_
  exact As h5 (Ak (As h5 (B3 (c := ss s.fClient) B1 (Bb rfl) rfl (As h5 (A2 (v := sb (!(s.fClient.toList == (⟨#[]⟩ : ByteArray).toList))) (fun k => rfl) (Ch h5 (Hs q5 h5) rfl))))))
  exact Av h5 (Av h5 (Av h5 (Cg h5 (Hr q5 h5) rfl)))
  intro b5 q5
  apply A8 (b5 && (decide (s.fBorn ≥ 0)))
  intro b6 q6
  refine Ah (b5) (fun h6 => ?_) fun h6 => ?_
  exact As h6 (Ak (As h6 (B3 (c := si s.fBorn) B1 (Bb rfl) rfl (As h6 (A2 (v := sb (decide (s.fBorn ≥ 0))) (fun k => rfl) (Ch h6 (Hs q6 h6) rfl))))))
  exact Av h6 (Av h6 (Av h6 (Cg h6 (Hr q6 h6) rfl)))
  intro b6 q6
  apply A8 (b6 && (Ga s.fConn (-1) 3))
  intro b7 q7
  refine Ah (b6) (fun h7 => ?_) fun h7 => ?_
  exact As h7 (Ak (As h7 (B3 (c := si s.fConn) B1 (Bb rfl) rfl (As h7 (Dr rfl (Bl (Cu _ _) (Bl (Cu _ _) (Bl (Cu _ _) Ds))) (Ma (n + 9) _ s.fConn (-1) 3) (Ch h7 (Hs q7 h7) rfl))))))
  exact Av h7 (Av h7 (Av h7 (Cg h7 (Hr q7 h7) rfl)))
  intro b7 q7
  apply A8 (b7 && (decide (s.fGen ≥ 0)))
  intro b8 q8
  refine Ah (b7) (fun h8 => ?_) fun h8 => ?_
  exact As h8 (Ak (As h8 (B3 (c := si s.fGen) B1 (Bb rfl) rfl (As h8 (A2 (v := sb (decide (s.fGen ≥ 0))) (fun k => rfl) (Ch h8 (Hs q8 h8) rfl))))))
  exact Av h8 (Av h8 (Av h8 (Cg h8 (Hr q8 h8) rfl)))
  intro b8 q8
  apply A8 (b8 && (Gs s.fO))
  intro b9 q9
  refine Ah (b8) (fun h9 => ?_) fun h9 => ?_
  exact As h9 (Ak (As h9 (F1 (ds := A9 s.fO) B1 (Bb rfl) rfl (As h9 (Dr rfl (Bl (Fo _ (G2 _)) Ds) (Ou (n + 0) (by omega) _ s.fO hwo) (Ch h9 (Hs q9 h9) rfl))))))
  exact Av h9 (Av h9 (Av h9 (Cg h9 (Hr q9 h9) rfl)))
  intro b9 q9
  apply A8 (b9 && (Sz s.fIn))
  intro b10 q10
  refine Ah (b9) (fun h10 => ?_) fun h10 => ?_
  exact As h10 (Ak (As h10 (B3 (c := Df s.fIn) B1 (Bb rfl) rfl (As h10 (Dr rfl (Bl (Gk _ _ _) Ds) (Agq (n + 6) (by omega) _ s.fIn hin) (Ch h10 (Hs q10 h10) rfl))))))
  exact Av h10 (Av h10 (Av h10 (Cg h10 (Hr q10 h10) rfl)))
  intro b10 q10
  exact Dv (by (try clear B1); (try clear hs); (try clear hwo); (try clear hin); subst_vars; unfold Cx Un Ie Ga; generalize Gs s.fO = o1 at *; generalize Sz s.fIn = o2 at *; generalize D9 s.fClient = o3 at *; generalize (s.fClient.toList == (⟨#[]⟩ : ByteArray).toList) = o4 at *; generalize s.fClean = cl at *; generalize s.fConn = c at *; generalize s.fGen = g at *; generalize s.fBorn = bo at *; cases o1 <;> cases o2 <;> cases o3 <;> cases o4 <;> cases cl <;> (try simp) <;> (try simp at *) <;> first | done | omega | (rw [zaM]; simp; omega) | (simp_all; omega) | (by_cases hc : c = -1 <;> simp [hc] at h4 ⊢ <;> first | done | (intros; omega) | (rw [zaM]; simp; omega) | (simp_all; done) | (simp_all; omega)))
end
section
open Go
variable {β : Type} {n : Nat} {r : Option β}
def iv (l : List Int) : List Value := l.map fun z => .int .i64 z
theorem Rp (l : List Int) : (l.map fun z => AV.sc (.int .i64 z)) = (iv l).map AV.sc := by rw [iv, zbH]; rfl
theorem V0 (l : List Int) (hs : l.length ≤ 1048576) (H : Ab) (K : KO β) : G4 1 8 .nl (Df l) H K = K (.sl H.length 0 l.length 1) (H ++ [⟨l.map fun z => .sc (.int .i64 z), true, true⟩]) := by
 have e1 : C3 H 1 (Df l) = some (l.map fun z => si z) := by
  show (if (l.map fun z => AV.sc (.int .i64 z)).length = l.length * 1 then some (l.map fun z => AV.sc (.int .i64 z)) else none) = _
  rw [if_pos (by simp)]
 have e2 : C3 H 1 .nl = some [] := rfl
 have e3 : Gi (Df l) = some l.length := rfl
 simp only [G4, Gi, e1, e2, Lt, zab, e3]
 rw [if_pos (by omega), if_pos (by simp [Ap, Ku])]
 simp only [E9, zav, zah]
theorem W2 {H : Ab} {id d : Nat} {l : List Int} (h : H[id]? = some ⟨l.map fun z => .sc (.int .i64 z), true, true⟩) : B0 Aq E0.tp H (d + 2) 39 (.sl id 0 l.length 1) = some (Df l, [id]) := by
 rw [Fj]
 have ha : E7 H id = true := by simp only [E7, h]
 have hr : A3 H id 0 (l.length * 1) = some (l.map fun z => si z) := by
  simp only [A3, h, if_true, zav, Nat.mul_one, zb0, zai, za7]
  congr 1
  exact zbh (by simp)
 obtain ⟨i, j, h1, h2, h3, h4⟩ := Zv
 simp only [h1, h2, zab, h3, if_true, ha, hr]
 have ho := Vg (ti := Aq) (tp := E0.tp) (H := H) (d := d) (zad l.length j.cty).flatten (iv l) (by simp [iv, h4])
 rw [Rp, ho, zab, ← Rp]
theorem AbG (N : Nat) (l : List Int) : Bp Aq E0.tp N 39 (Df l) = (.sl N 0 l.length 1, [⟨l.map fun z => .sc (.int .i64 z), true, true⟩]) := by
 obtain ⟨i, j, h1, h2, h3, h4⟩ := Zv
 show Bp Aq E0.tp N 39 (.ro l.length (l.map fun z => .sc (.int .i64 z))) = _
 simp only [Bp, h1, zab, h2, za5, h3, Rp, N9]
theorem AaM (n : Nat) (l : List Int) (hs : l.length ≤ 1048576) : C1 E0 (n + 1) 39 109 [Df l] = some (Df l) := by
 rw [A6, AeY, f109]
 simp only [Cp]
 rw [V0 l hs, A4, W2 (d := 6) (l := l) rfl]
 rfl
def Vk (s : At) : Prop := Mi s.fO ∧ s.fIn.length ≤ 1048576
theorem W5 {H : Ab} {s : At} {ys : List AV} {N1 N2 m : Nat} (h1 : Ce (B0 Aq E0.tp H 7) Gf ys = some (A9 s.fO, zaV N1 m)) (hl : ys.length = 3) (h2 : H[N2]? = some ⟨s.fIn.map fun z => .sc (.int .i64 z), true, true⟩) (hd : N1 + m ≤ N2) :
  A4 Aq E0.tp 53 H (.agg ([ss s.fClient, si s.fBorn, sb s.fClean, si s.fConn, si s.fGen] ++ (ys ++ [.sl N2 0 s.fIn.length 1]))) = some (.agg (Bq s)) := by
 obtain ⟨i, hi, hc⟩ := Ae6
 have h3 := W2 (d := 5) h2
 have e1 : Ce (B0 Aq E0.tp H 7) [39] [.sl N2 0 s.fIn.length 1] = some ([Df s.fIn], [N2]) := by
  simp only [Ce, h3, zab, zam]
 have e2 := F5 h1 e1
 have e3 : Ce (B0 Aq E0.tp H 7) [9, 3, 4, 3, 3] [ss s.fClient, si s.fBorn, sb s.fClean, si s.fConn, si s.fGen] = some ([ss s.fClient, si s.fBorn, sb s.fClean, si s.fConn, si s.fGen], []) := by
  simp only [Ce, G7, zab, zam]
 have e4 := F5 e3 e2
 have hcy : Us = [9, 3, 4, 3, 3] ++ (Gf ++ [39]) := rfl
 rw [A4, Ee, hi, zab, hc, hcy, e4]
 simp only [zab, zah]
 rw [if_pos]
 rfl
 rw [zaI]
 refine ⟨zaP, by simp, fun a ha b hb => ?_⟩
 rw [zaJ] at ha
 rw [zbu] at hb
 omega
theorem ys3 {ys : List AV} (h : ys.length = 3) : ∃ a b c, ys = [a, b, c] := by
 match ys, h with
 | [a, b, c], _ => exact ⟨a, b, c, rfl⟩
theorem Tn (n : Nat) (hn : 1048576 < n) (s : At) (hs : Vk s) : C1 E0 (n + 5) 53 74 [.agg (Bq s)] = some (.agg (Bq s)) := by
 rw [A6, AhO, f74]
 simp only [C4, Cj, Br, A5, Bf, Je]
 rw [K6 _ _ _ (Hg s)]
 simp only [zat, zah, zao, zav]
 have hz : ([⟨[sE, i0, bF, i0, i0, i0, .nl, .nl, .nl], true, true⟩] : Ab) = [⟨Gg, true, true⟩] := rfl
 rw [hz]
 have hH : ([⟨Bq s, true, true⟩] ++ [⟨Gg, true, true⟩] : Ab)[0]? = some ⟨Bq s, true, true⟩ := rfl
 refine Ak (F1 (ds := A9 s.fO) hH (Bb rfl) rfl (Ak (B3 (c := Df s.fIn) hH (Bb rfl) rfl ?_)))
 rw [Fe (vs := [.agg (A9 s.fO)]) rfl (Bl (Fo _ (G2 _)) Ds) (Acp n hn s.fO hs.1)]
 obtain ⟨i, hi, hc⟩ := Xo
 rw [Ge, hi, za5, hc]
 simp only
 generalize hB : Bz Aq E0.tp ([⟨Bq s, true, true⟩] ++ [⟨Gg, true, true⟩] : Ab).length Gf (A9 s.fO) = B
 have hBl : B.1.length = 3 := by rw [← hB, Jh]; rfl
 have hBf : B.1.all Ap = true := by rw [← hB]; exact Jp _ _ _ (G2 _)
 refine Ak ?_
 rw [Fe (vs := [Df s.fIn]) rfl (Bl (Gk _ _ _) Ds) (AaM (n + 3) s.fIn hs.2), AbG]
 simp only
 have hN : ([⟨Bq s, true, true⟩] ++ [⟨Gg, true, true⟩] ++ B.2 : Ab).length = 2 + B.2.length := by simp; omega
 rw [hN]
 obtain ⟨a, b, c, habc⟩ := ys3 hBl
 have hBc : Cq (.agg B.1) = some [a, b, c] := by
  show (if _ then _ else none) = _
  rw [if_pos hBf, habc]
 rw [Fl 3 0 (0 + 5) (.agg B.1) ⟨Bq s, true, true⟩ [a, b, c] _ _ rfl hBc rfl (Bb rfl) rfl]
 refine Ak ?_
 rw [Fl 1 0 (0 + 8) (.sl (2 + B.2.length) 0 s.fIn.length 1) ⟨Cf (Bq s) (0 + 5) [a, b, c], true, true⟩ [.sl (2 + B.2.length) 0 s.fIn.length 1] _ _ rfl rfl rfl (Bb rfl) rfl]
 refine F1 (ds := [ss s.fClient, si s.fBorn, sb s.fClean, si s.fConn, si s.fGen, a, b, c, .sl (2 + B.2.length) 0 s.fIn.length 1]) (cs := [ss s.fClient, si s.fBorn, sb s.fClean, si s.fConn, si s.fGen, a, b, c, .sl (2 + B.2.length) 0 s.fIn.length 1]) rfl (Bb rfl) rfl ?_
 have hlf : [AV.sc (.string s.fClient), si s.fBorn, sb s.fClean, si s.fConn, si s.fGen, a, b, c, .sl (2 + B.2.length) 0 s.fIn.length 1].all Ap = true := by
  rw [habc] at hBf
  simp only [zaY, List.all_nil, Bool.and_true, zak] at hBf
  simp [Ap, Ku] at hBf ⊢
  exact hBf
 have hcc : Cq (.agg [ss s.fClient, si s.fBorn, sb s.fClean, si s.fConn, si s.fGen, a, b, c, .sl (2 + B.2.length) 0 s.fIn.length 1]) = some [ss s.fClient, si s.fBorn, sb s.fClean, si s.fConn, si s.fGen, a, b, c, .sl (2 + B.2.length) 0 s.fIn.length 1] := by
  show (if _ then _ else none) = _
  rw [if_pos hlf]
 rw [Fl 9 1 0 _ ⟨Gg, true, true⟩ _ _ _ rfl hcc rfl (by decide) rfl]
 refine F1 (ds := [ss s.fClient, si s.fBorn, sb s.fClean, si s.fConn, si s.fGen, a, b, c, .sl (2 + B.2.length) 0 s.fIn.length 1]) (cs := [ss s.fClient, si s.fBorn, sb s.fClean, si s.fConn, si s.fGen, a, b, c, .sl (2 + B.2.length) 0 s.fIn.length 1]) rfl (Bb rfl) rfl ?_
 have lB : ∀ (b0 b1 : Gh) (X : List Gh), Ce (B0 Aq E0.tp (b0 :: b1 :: (B.2 ++ X)) 7) Gf B.1 = some (A9 s.fO, zaV 2 B.2.length) := by
  intro b0 b1 X
  have := Id (H := b0 :: b1 :: (B.2 ++ X)) (fun ty t N h h' _ => Fk 7 ty t N h h') Gf (A9 s.fO) 2 (Aem 4 s.fO) (by
   rw [show Bz Aq E0.tp 2 Gf (A9 s.fO) = B from hB]
   exact K2 [b0, b1] B.2 X) (Er _ _ _)
  rw [show Bz Aq E0.tp 2 Gf (A9 s.fO) = B from hB] at this
  exact this
 have key := fun (b0 b1 : Gh) => W5 (H := b0 :: b1 :: (B.2 ++ [⟨s.fIn.map fun z => si z, true, true⟩])) (N2 := 2 + B.2.length) (lB b0 b1 _) hBl (by
  have := Iu (b0 :: b1 :: B.2) ⟨s.fIn.map fun z => si z, true, true⟩ []
  rw [zao, zao, show B.2.length + 1 + 1 = 2 + B.2.length by omega] at this
  exact this) (zai _)
 rw [habc] at key
 have hfin := key ⟨[ss s.fClient, si s.fBorn, sb s.fClean, si s.fConn, si s.fGen, a, b, c, .sl (2 + B.2.length) 0 s.fIn.length 1], true, true⟩ ⟨[ss s.fClient, si s.fBorn, sb s.fClean, si s.fConn, si s.fGen, a, b, c, .sl (2 + B.2.length) 0 s.fIn.length 1], true, true⟩
 exact hfin
theorem Aed (n : Nat) (hn : 1048576 < n) (s : At) (hs : Vk s) : C1 E0 (n + 5) 53 75 [.agg (Bq s)] = some (.agg (Bq s)) := by
 rw [A6, AhP, f75]
 simp only [C4, Cj, Br, A5, Bf, Cp, Je]
 rw [K6 _ _ _ (Hg s)]
 simp only [zat, zah, zao, zav]
 have hz : ([⟨[sE, i0, bF, i0, i0, i0, .nl, .nl, .nl], true, true⟩] : Ab) = [⟨Gg, true, true⟩] := rfl
 rw [hz]
 have hH : ([⟨Bq s, true, true⟩] ++ [⟨Gg, true, true⟩] : Ab)[0]? = some ⟨Bq s, true, true⟩ := rfl
 refine F1 (ds := Bq s) hH (Bb rfl) rfl ?_
 rw [show ([⟨Bq s, true, true⟩] ++ [⟨Gg, true, true⟩] : Ab).length = 2 from rfl]
 rw [Fl 9 2 0 (.agg (Bq s)) ⟨Gg, true, true⟩ (Bq s) _ _ rfl (Rh (Hg s)) rfl (by decide) rfl]
 have hH2 : ([⟨Bq s, true, true⟩] ++ [⟨Gg, true, true⟩] ++ [⟨Gg, true, true⟩] : Ab).set 2 ⟨Cf Gg 0 (Bq s), true, true⟩ = [⟨Bq s, true, true⟩, ⟨Gg, true, true⟩, ⟨Bq s, true, true⟩] := rfl
 simp only [hH2]
 refine Ak (F1 (ds := A9 s.fO) (cs := Bq s) rfl (Bb rfl) rfl ?_)
 rw [Fe (vs := [.agg (A9 s.fO)]) rfl (Bl (Fo _ (G2 _)) Ds) (Od n hn s.fO hs.1)]
 obtain ⟨i, hi, hc⟩ := Xo
 rw [Ge, hi, za5, hc]
 simp only
 generalize hB : Bz Aq E0.tp ([⟨Bq s, true, true⟩, ⟨Gg, true, true⟩, ⟨Bq s, true, true⟩] : Ab).length Gf (A9 s.fO) = B
 have hBl : B.1.length = 3 := by rw [← hB, Jh]; rfl
 have hBf : B.1.all Ap = true := by rw [← hB]; exact Jp _ _ _ (G2 _)
 obtain ⟨a, b, c, habc⟩ := ys3 hBl
 have hBc : Cq (.agg B.1) = some [a, b, c] := by
  show (if _ then _ else none) = _
  rw [if_pos hBf, habc]
 refine Ak ?_
 rw [Fl 3 2 (0 + 5) (.agg B.1) ⟨Bq s, true, true⟩ [a, b, c] _ _ rfl hBc rfl (Bb rfl) rfl]
 refine Ak (B3 (c := Df s.fIn) (cs := Bq s) rfl (Bb rfl) rfl ?_)
 rw [V0 s.fIn hs.2]
 have hset : ([⟨Bq s, true, true⟩, ⟨Gg, true, true⟩, ⟨Bq s, true, true⟩] ++ B.2 : Ab).set 2 ⟨Cf (Bq s) (0 + 5) [a, b, c], true, true⟩ = [⟨Bq s, true, true⟩, ⟨Gg, true, true⟩, ⟨Cf (Bq s) (0 + 5) [a, b, c], true, true⟩] ++ B.2 := rfl
 simp only [hset]
 have hN : ([⟨Bq s, true, true⟩, ⟨Gg, true, true⟩, ⟨Cf (Bq s) (0 + 5) [a, b, c], true, true⟩] ++ B.2 : Ab).length = 3 + B.2.length := by simp; omega
 rw [hN]
 refine Ak ?_
 rw [Fl 1 2 (0 + 8) (.sl (3 + B.2.length) 0 s.fIn.length 1) ⟨Cf (Bq s) (0 + 5) [a, b, c], true, true⟩ [.sl (3 + B.2.length) 0 s.fIn.length 1] _ _ rfl rfl rfl (Bb rfl) rfl]
 refine F1 (ds := [ss s.fClient, si s.fBorn, sb s.fClean, si s.fConn, si s.fGen, a, b, c, .sl (3 + B.2.length) 0 s.fIn.length 1]) (cs := [ss s.fClient, si s.fBorn, sb s.fClean, si s.fConn, si s.fGen, a, b, c, .sl (3 + B.2.length) 0 s.fIn.length 1]) rfl (Bb rfl) rfl ?_
 have hlf : [AV.sc (.string s.fClient), si s.fBorn, sb s.fClean, si s.fConn, si s.fGen, a, b, c, .sl (3 + B.2.length) 0 s.fIn.length 1].all Ap = true := by
  rw [habc] at hBf
  simp only [zaY, List.all_nil, Bool.and_true, zak] at hBf
  simp [Ap, Ku] at hBf ⊢
  exact hBf
 have hcc : Cq (.agg [ss s.fClient, si s.fBorn, sb s.fClean, si s.fConn, si s.fGen, a, b, c, .sl (3 + B.2.length) 0 s.fIn.length 1]) = some [ss s.fClient, si s.fBorn, sb s.fClean, si s.fConn, si s.fGen, a, b, c, .sl (3 + B.2.length) 0 s.fIn.length 1] := by
  show (if _ then _ else none) = _
  rw [if_pos hlf]
 rw [Fl 9 1 0 _ ⟨Gg, true, true⟩ _ _ _ rfl hcc rfl (by decide) rfl]
 refine F1 (ds := [ss s.fClient, si s.fBorn, sb s.fClean, si s.fConn, si s.fGen, a, b, c, .sl (3 + B.2.length) 0 s.fIn.length 1]) (cs := [ss s.fClient, si s.fBorn, sb s.fClean, si s.fConn, si s.fGen, a, b, c, .sl (3 + B.2.length) 0 s.fIn.length 1]) rfl (Bb rfl) rfl ?_
 have lB : ∀ (b0 b1 b2 : Gh) (X : List Gh), Ce (B0 Aq E0.tp (b0 :: b1 :: b2 :: (B.2 ++ X)) 7) Gf B.1 = some (A9 s.fO, zaV 3 B.2.length) := by
  intro b0 b1 b2 X
  have := Id (H := b0 :: b1 :: b2 :: (B.2 ++ X)) (fun ty t N h h' _ => Fk 7 ty t N h h') Gf (A9 s.fO) 3 (Aem 4 s.fO) (by
   rw [show Bz Aq E0.tp 3 Gf (A9 s.fO) = B from hB]
   exact K2 [b0, b1, b2] B.2 X) (Er _ _ _)
  rw [show Bz Aq E0.tp 3 Gf (A9 s.fO) = B from hB] at this
  exact this
 have key := fun (b0 b1 b2 : Gh) => W5 (H := b0 :: b1 :: b2 :: (B.2 ++ [⟨s.fIn.map fun z => si z, true, true⟩])) (N2 := 3 + B.2.length) (lB b0 b1 b2 _) hBl (by
  have := Iu (b0 :: b1 :: b2 :: B.2) ⟨s.fIn.map fun z => si z, true, true⟩ []
  rw [zao, zao, zao, show B.2.length + 1 + 1 + 1 = 3 + B.2.length by omega] at this
  exact this) (zai _)
 rw [habc] at key
 have hfin := key ⟨Bq s, true, true⟩ ⟨[ss s.fClient, si s.fBorn, sb s.fClean, si s.fConn, si s.fGen, a, b, c, .sl (3 + B.2.length) 0 s.fIn.length 1], true, true⟩ ⟨[ss s.fClient, si s.fBorn, sb s.fClean, si s.fConn, si s.fGen, a, b, c, .sl (3 + B.2.length) 0 s.fIn.length 1], true, true⟩
 exact hfin
end
section
open Go
theorem Ai1 (s : At) (h : Kn s ≤ 1048576) : Vk s := by
 have h2 := Agp s h
 exact ⟨⟨⟨h2.1.1, fun y hy => (h2.1.2 y hy).1⟩, ⟨h2.2.1.1, fun y hy => (h2.2.1.2 y hy).1⟩⟩, h2.2.2.1⟩
def Ec (s : At) : At := if Cx s && !s.fClean then { s with fConn := -1, fGen := 0 } else s
def Gv (s : At) (c : Bool) (cn g : Int) : At := if Cx s && Ie c cn g then { s with fClean := c, fConn := cn, fGen := g } else s
theorem Gq (s : At) (c : Bool) (cn g : Int) (h : Cx s = true) : Cx { s with fClean := c, fConn := cn, fGen := g } = Ie c cn g := by
 unfold Cx at h ⊢
 simp only [zak] at h
 obtain ⟨⟨⟨⟨h1, h2⟩, h3⟩, h4⟩, h5⟩ := h
 simp only [h1, h2, h4, h5, Bool.true_and, Bool.and_true]
theorem Xh (n : Nat) (hn : 1048576 < n) (x0 : At) (k0 : Vf x0) (b0 : Kn x0 ≤ 1048576) : C1 E0 (n + 12) 53 125 [.agg (Bq x0)] = some (.agg (Bq (Ec x0))) := by
 rw [A6, Afk, f125]
 refine H0 (G := (· = _)) ?_
 try simp only [Te, Td]
 have s0 : Sep [] [] := Hz
 refine N3 s0 (G1 (Hg _)) fun i1 H s2 => D1 s2 fun i3 H s4 => Ag s4 Aw rfl (Fi s4 rfl (.aggF (Hg _) .nil) (Aed (n + 6) (by omega) x0 (Ai1 x0 b0)) ⟨_, rfl, rfl⟩ (Jb _) ?_)
 rintro _ _ H ⟨x5, x6, x7, lx5, lx6, lx7, rfl, rfl⟩ s8
 simp only [zah, zax] at s8
 refine D1 s8 fun i9 H s10 => Bi (cs' := [ss x0.fClient, si x0.fBorn, sb x0.fClean, si x0.fConn, si x0.fGen, si x0.fO.fLast, x5, x6, x7]) s10 (.here) (Ac (Aa rfl (Aa rfl (Aa rfl (Aa rfl (Aa rfl (Aa rfl (Aa lx5 (Aa lx6 (Aa lx7 rfl)))))))))) rfl (Bb rfl) rfl fun H s11 => Ag s11 Fu rfl (D4 (v := (.bool (Cx x0))) s11 rfl (.aggF (Hg _) .nil) (Mz n (by omega) _ x0 (C0 x0 b0).1 (C0 x0 b0).2.1 (C0 x0 b0).2.2) (Ah ((Cx x0)) (fun h12 => ?_) fun h12 => ?_))
 refine Bd h12 (An (o' := 2) rfl (Bd h12 (Bg (c := sb x0.fClean) s11 Fu rfl (Bd h12 (Hw (Hh h12 (Ia (Ah (x0.fClean) (fun h13 => ?_) fun h13 => ?_))))))))
 refine Ci (nF h13) (Ag s11 (.here) rfl (Bi (cs' := [ss x0.fClient, si x0.fBorn, sb x0.fClean, si x0.fConn, si x0.fGen, si x0.fO.fLast, x5, x6, x7]) s11 F2 (Ac (Aa rfl (Aa rfl (Aa rfl (Aa rfl (Aa rfl (Aa rfl (Aa lx5 (Aa lx6 (Aa lx7 rfl)))))))))) rfl (Bb rfl) rfl fun H s14 => Ag s14 (.here) rfl (D5 (Ha s14 ⟨_, rfl, rfl⟩ (Lh (.own F2 (.own Bn (.own Ca .nil)))) (Lm ⟨(A7 (De x0.fO.fFl) (by decide)), ⟨(A7 (E1 x0.fO.fQ) (by decide)), ⟨(A7 (Mc x0.fIn) (by decide)), trivial⟩⟩⟩)) ?_)))
 have e15 : Ec x0 = (⟨x0.fClient, x0.fBorn, x0.fClean, x0.fConn, x0.fGen, ⟨x0.fO.fLast, x0.fO.fFl, x0.fO.fQ⟩, x0.fIn⟩ : At) := by
  clear s0 s2 s4 s8 s10 s11 s14
  unfold Ec
  (repeat' split) <;> first | rfl | (exfalso; simp_all []; done) | (simp_all []; done)
 ·rw [e15]
  first | done | rfl
 refine Dk (nT h13) (An (o' := 3) rfl (Cv s11 (.here) rfl rfl fun H s16 => An (o' := 4) rfl (Cv s16 (.here) rfl rfl fun H s17 => Ag s17 (.here) rfl (Bi (cs' := [ss x0.fClient, si x0.fBorn, sb x0.fClean, si (-1), i0, si x0.fO.fLast, x5, x6, x7]) s17 F2 (Ac (Aa rfl (Aa rfl (Aa rfl (Aa rfl (Aa rfl (Aa rfl (Aa lx5 (Aa lx6 (Aa lx7 rfl)))))))))) rfl (Bb rfl) rfl fun H s18 => Ag s18 (.here) rfl (D5 (Ha s18 ⟨_, rfl, rfl⟩ (Lh (.own F2 (.own Bn (.own Ca .nil)))) (Lm ⟨(A7 (De x0.fO.fFl) (by decide)), ⟨(A7 (E1 x0.fO.fQ) (by decide)), ⟨(A7 (Mc x0.fIn) (by decide)), trivial⟩⟩⟩)) ?_)))))
 have e19 : Ec x0 = (⟨x0.fClient, x0.fBorn, x0.fClean, (-1), 0, ⟨x0.fO.fLast, x0.fO.fFl, x0.fO.fQ⟩, x0.fIn⟩ : At) := by
  clear s0 s2 s4 s8 s10 s11 s16 s17 s18
  unfold Ec
  (repeat' split) <;> first | rfl | (exfalso; simp_all []; done) | (simp_all []; done)
 ·rw [e19]
  first | done | rfl
 refine Cb h12 (Cb h12 (Cb h12 (Fq h12 (Ia (Ci rfl (Ag s11 (.here) rfl (Bi (cs' := [ss x0.fClient, si x0.fBorn, sb x0.fClean, si x0.fConn, si x0.fGen, si x0.fO.fLast, x5, x6, x7]) s11 F2 (Ac (Aa rfl (Aa rfl (Aa rfl (Aa rfl (Aa rfl (Aa rfl (Aa lx5 (Aa lx6 (Aa lx7 rfl)))))))))) rfl (Bb rfl) rfl fun H s20 => Ag s20 (.here) rfl (D5 (Ha s20 ⟨_, rfl, rfl⟩ (Lh (.own F2 (.own Bn (.own Ca .nil)))) (Lm ⟨(A7 (De x0.fO.fFl) (by decide)), ⟨(A7 (E1 x0.fO.fQ) (by decide)), ⟨(A7 (Mc x0.fIn) (by decide)), trivial⟩⟩⟩)) ?_))))))))
 have e21 : Ec x0 = (⟨x0.fClient, x0.fBorn, x0.fClean, x0.fConn, x0.fGen, ⟨x0.fO.fLast, x0.fO.fFl, x0.fO.fQ⟩, x0.fIn⟩ : At) := by
  clear s0 s2 s4 s8 s10 s11 s20
  unfold Ec
  (repeat' split) <;> first | rfl | (exfalso; simp_all []; done) | (simp_all []; done)
 ·rw [e21]
  first | done | rfl
theorem Wi (n : Nat) (hn : 1048576 < n) (x0 : At) (k0 : Vf x0) (b0 : Kn x0 ≤ 1048576) : C1 E0 (n + 12) 53 29 [.agg (Bq x0)] = some (.agg (Bq (Ec x0))) := by
 rw [A6, Ahu, f29]
 refine H0 (G := (· = _)) ?_
 try simp only [Te, Td]
 have s0 : Sep [] [] := Hz
 refine N3 s0 (G1 (Hg _)) fun i1 H s2 => D1 s2 fun i3 H s4 => Ag s4 Aw rfl (Fi s4 rfl (.aggF (Hg _) .nil) (Tn (n + 6) (by omega) x0 (Ai1 x0 b0)) ⟨_, rfl, rfl⟩ (Jb _) ?_)
 rintro _ _ H ⟨x5, x6, x7, lx5, lx6, lx7, rfl, rfl⟩ s8
 simp only [zah, zax] at s8
 refine D1 s8 fun i9 H s10 => Bi (cs' := [ss x0.fClient, si x0.fBorn, sb x0.fClean, si x0.fConn, si x0.fGen, si x0.fO.fLast, x5, x6, x7]) s10 (.here) (Ac (Aa rfl (Aa rfl (Aa rfl (Aa rfl (Aa rfl (Aa rfl (Aa lx5 (Aa lx6 (Aa lx7 rfl)))))))))) rfl (Bb rfl) rfl fun H s11 => Ag s11 Fu rfl (D4 (v := (.bool (Cx x0))) s11 rfl (.aggF (Hg _) .nil) (Hn n (by omega) _ x0 (C0 x0 b0).1 (C0 x0 b0).2.1 (C0 x0 b0).2.2) (Ah ((Cx x0)) (fun h12 => ?_) fun h12 => ?_))
 refine Bd h12 (An (o' := 2) rfl (Bd h12 (Bg (c := sb x0.fClean) s11 Fu rfl (Bd h12 (Hw (Hh h12 (Ia (Ah (x0.fClean) (fun h13 => ?_) fun h13 => ?_))))))))
 refine Ci (nF h13) (Ag s11 (.here) rfl (Bi (cs' := [ss x0.fClient, si x0.fBorn, sb x0.fClean, si x0.fConn, si x0.fGen, si x0.fO.fLast, x5, x6, x7]) s11 F2 (Ac (Aa rfl (Aa rfl (Aa rfl (Aa rfl (Aa rfl (Aa rfl (Aa lx5 (Aa lx6 (Aa lx7 rfl)))))))))) rfl (Bb rfl) rfl fun H s14 => Ag s14 (.here) rfl (D5 (Ha s14 ⟨_, rfl, rfl⟩ (Lh (.own F2 (.own Bn (.own Ca .nil)))) (Lm ⟨(A7 (De x0.fO.fFl) (by decide)), ⟨(A7 (E1 x0.fO.fQ) (by decide)), ⟨(A7 (Mc x0.fIn) (by decide)), trivial⟩⟩⟩)) ?_)))
 have e15 : Ec x0 = (⟨x0.fClient, x0.fBorn, x0.fClean, x0.fConn, x0.fGen, ⟨x0.fO.fLast, x0.fO.fFl, x0.fO.fQ⟩, x0.fIn⟩ : At) := by
  clear s0 s2 s4 s8 s10 s11 s14
  unfold Ec
  (repeat' split) <;> first | rfl | (exfalso; simp_all []; done) | (simp_all []; done)
 ·rw [e15]
  first | done | rfl
 refine Dk (nT h13) (An (o' := 3) rfl (Cv s11 (.here) rfl rfl fun H s16 => An (o' := 4) rfl (Cv s16 (.here) rfl rfl fun H s17 => Ag s17 (.here) rfl (Bi (cs' := [ss x0.fClient, si x0.fBorn, sb x0.fClean, si (-1), i0, si x0.fO.fLast, x5, x6, x7]) s17 F2 (Ac (Aa rfl (Aa rfl (Aa rfl (Aa rfl (Aa rfl (Aa rfl (Aa lx5 (Aa lx6 (Aa lx7 rfl)))))))))) rfl (Bb rfl) rfl fun H s18 => Ag s18 (.here) rfl (D5 (Ha s18 ⟨_, rfl, rfl⟩ (Lh (.own F2 (.own Bn (.own Ca .nil)))) (Lm ⟨(A7 (De x0.fO.fFl) (by decide)), ⟨(A7 (E1 x0.fO.fQ) (by decide)), ⟨(A7 (Mc x0.fIn) (by decide)), trivial⟩⟩⟩)) ?_)))))
 have e19 : Ec x0 = (⟨x0.fClient, x0.fBorn, x0.fClean, (-1), 0, ⟨x0.fO.fLast, x0.fO.fFl, x0.fO.fQ⟩, x0.fIn⟩ : At) := by
  clear s0 s2 s4 s8 s10 s11 s16 s17 s18
  unfold Ec
  (repeat' split) <;> first | rfl | (exfalso; simp_all []; done) | (simp_all []; done)
 ·rw [e19]
  first | done | rfl
 refine Cb h12 (Cb h12 (Cb h12 (Fq h12 (Ia (Ci rfl (Ag s11 (.here) rfl (Bi (cs' := [ss x0.fClient, si x0.fBorn, sb x0.fClean, si x0.fConn, si x0.fGen, si x0.fO.fLast, x5, x6, x7]) s11 F2 (Ac (Aa rfl (Aa rfl (Aa rfl (Aa rfl (Aa rfl (Aa rfl (Aa lx5 (Aa lx6 (Aa lx7 rfl)))))))))) rfl (Bb rfl) rfl fun H s20 => Ag s20 (.here) rfl (D5 (Ha s20 ⟨_, rfl, rfl⟩ (Lh (.own F2 (.own Bn (.own Ca .nil)))) (Lm ⟨(A7 (De x0.fO.fFl) (by decide)), ⟨(A7 (E1 x0.fO.fQ) (by decide)), ⟨(A7 (Mc x0.fIn) (by decide)), trivial⟩⟩⟩)) ?_))))))))
 have e21 : Ec x0 = (⟨x0.fClient, x0.fBorn, x0.fClean, x0.fConn, x0.fGen, ⟨x0.fO.fLast, x0.fO.fFl, x0.fO.fQ⟩, x0.fIn⟩ : At) := by
  clear s0 s2 s4 s8 s10 s11 s20
  unfold Ec
  (repeat' split) <;> first | rfl | (exfalso; simp_all []; done) | (simp_all []; done)
 ·rw [e21]
  first | done | rfl
theorem Y3 (n : Nat) (hn : 1048576 < n) (x0 : At) (x1 : Bool) (x2 x3 : Int) (k0 : Vf x0) (k1 : True) (k2 : Ct x2) (k3 : Ct x3) (b0 : Kn x0 ≤ 1048576) : C1 E0 (n + 12) 53 28 [.agg (Bq x0), .sc (.bool x1), .sc (.int .i64 x2), .sc (.int .i64 x3)] = some (.agg (Bq (Gv x0 x1 x2 x3))) := by
 rw [A6, Aht, f28]
 refine H0 (G := (· = _)) ?_
 try simp only [Te, Td]
 have s0 : Sep [] [] := Hz
 refine N3 s0 (G1 (Hg _)) fun i1 H s2 => D1 s2 fun i3 H s4 => Ag s4 Aw rfl (Fi s4 rfl (.aggF (Hg _) .nil) (Tn (n + 6) (by omega) x0 (Ai1 x0 b0)) ⟨_, rfl, rfl⟩ (Jb _) ?_)
 rintro _ _ H ⟨x5, x6, x7, lx5, lx6, lx7, rfl, rfl⟩ s8
 simp only [zah, zax] at s8
 refine D1 s8 fun i9 H s10 => Bi (cs' := [ss x0.fClient, si x0.fBorn, sb x0.fClean, si x0.fConn, si x0.fGen, si x0.fO.fLast, x5, x6, x7]) s10 (.here) (Ac (Aa rfl (Aa rfl (Aa rfl (Aa rfl (Aa rfl (Aa rfl (Aa lx5 (Aa lx6 (Aa lx7 rfl)))))))))) rfl (Bb rfl) rfl fun H s11 => Ag s11 Fu rfl (D4 (v := (.bool (Cx x0))) s11 rfl (.aggF (Hg _) .nil) (Hn n (by omega) _ x0 (C0 x0 b0).1 (C0 x0 b0).2.1 (C0 x0 b0).2.2) (Ah ((Cx x0)) (fun h12 => ?_) fun h12 => ?_))
 refine Bd h12 (Bd h12 (Bd h12 (Bd h12 (D4 (v := (.bool (Ie x1 x2 x3))) s11 rfl (vS3 .nil) (Xa (n + 9) _ x1 x2 x3) (Hh h12 (Ia (Ah ((Ie x1 x2 x3)) (fun h13 => ?_) fun h13 => ?_)))))))
 refine Dk h13 (An (o' := 2) rfl (Cv s11 (.here) rfl rfl fun H s14 => An (o' := 3) rfl (Cv s14 (.here) rfl rfl fun H s15 => An (o' := 4) rfl (Cv s15 (.here) rfl rfl fun H s16 => Ag s16 (.here) rfl (Bi (cs' := [ss x0.fClient, si x0.fBorn, sb x1, si x2, si x3, si x0.fO.fLast, x5, x6, x7]) s16 F2 (Ac (Aa rfl (Aa rfl (Aa rfl (Aa rfl (Aa rfl (Aa rfl (Aa lx5 (Aa lx6 (Aa lx7 rfl)))))))))) rfl (Bb rfl) rfl fun H s17 => Ag s17 (.here) rfl (D5 (Ha s17 ⟨_, rfl, rfl⟩ (Lh (.own F2 (.own Bn (.own Ca .nil)))) (Lm ⟨(A7 (De x0.fO.fFl) (by decide)), ⟨(A7 (E1 x0.fO.fQ) (by decide)), ⟨(A7 (Mc x0.fIn) (by decide)), trivial⟩⟩⟩)) ?_))))))
 have e18 : Gv x0 x1 x2 x3 = (⟨x0.fClient, x0.fBorn, x1, x2, x3, ⟨x0.fO.fLast, x0.fO.fFl, x0.fO.fQ⟩, x0.fIn⟩ : At) := by
  clear s0 s2 s4 s8 s10 s11 s14 s15 s16 s17
  unfold Gv
  (repeat' split) <;> first | rfl | (exfalso; simp_all [Gq]; done) | (simp_all [Gq]; done)
 ·rw [e18]
  first | done | rfl
 refine Ci h13 (Ag s11 (.here) rfl (Bi (cs' := [ss x0.fClient, si x0.fBorn, sb x0.fClean, si x0.fConn, si x0.fGen, si x0.fO.fLast, x5, x6, x7]) s11 F2 (Ac (Aa rfl (Aa rfl (Aa rfl (Aa rfl (Aa rfl (Aa rfl (Aa lx5 (Aa lx6 (Aa lx7 rfl)))))))))) rfl (Bb rfl) rfl fun H s19 => Ag s19 (.here) rfl (D5 (Ha s19 ⟨_, rfl, rfl⟩ (Lh (.own F2 (.own Bn (.own Ca .nil)))) (Lm ⟨(A7 (De x0.fO.fFl) (by decide)), ⟨(A7 (E1 x0.fO.fQ) (by decide)), ⟨(A7 (Mc x0.fIn) (by decide)), trivial⟩⟩⟩)) ?_)))
 have e20 : Gv x0 x1 x2 x3 = (⟨x0.fClient, x0.fBorn, x0.fClean, x0.fConn, x0.fGen, ⟨x0.fO.fLast, x0.fO.fFl, x0.fO.fQ⟩, x0.fIn⟩ : At) := by
  clear s0 s2 s4 s8 s10 s11 s19
  unfold Gv
  (repeat' split) <;> first | rfl | (exfalso; simp_all [Gq]; done) | (simp_all [Gq]; done)
 ·rw [e20]
  first | done | rfl
 refine Cb h12 (Cb h12 (Cb h12 (Cb h12 (Fq h12 (Ia (Ci rfl (Ag s11 (.here) rfl (Bi (cs' := [ss x0.fClient, si x0.fBorn, sb x0.fClean, si x0.fConn, si x0.fGen, si x0.fO.fLast, x5, x6, x7]) s11 F2 (Ac (Aa rfl (Aa rfl (Aa rfl (Aa rfl (Aa rfl (Aa rfl (Aa lx5 (Aa lx6 (Aa lx7 rfl)))))))))) rfl (Bb rfl) rfl fun H s21 => Ag s21 (.here) rfl (D5 (Ha s21 ⟨_, rfl, rfl⟩ (Lh (.own F2 (.own Bn (.own Ca .nil)))) (Lm ⟨(A7 (De x0.fO.fFl) (by decide)), ⟨(A7 (E1 x0.fO.fQ) (by decide)), ⟨(A7 (Mc x0.fIn) (by decide)), trivial⟩⟩⟩)) ?_)))))))))
 have e22 : Gv x0 x1 x2 x3 = (⟨x0.fClient, x0.fBorn, x0.fClean, x0.fConn, x0.fGen, ⟨x0.fO.fLast, x0.fO.fFl, x0.fO.fQ⟩, x0.fIn⟩ : At) := by
  clear s0 s2 s4 s8 s10 s11 s21
  unfold Gv
  (repeat' split) <;> first | rfl | (exfalso; simp_all [Gq]; done) | (simp_all [Gq]; done)
 ·rw [e22]
  first | done | rfl
end
section
open Go
def zS : List AV := [.sc (.string ⟨#[]⟩), .sc (.int .i64 0), .sc (.bool false), .sc (.int .i64 0), .sc (.int .i64 0), .sc (.int .i64 0), .nl, .nl, .nl]
def AgP : At := ⟨⟨#[]⟩, 0, false, 0, 0, ⟨0, [], []⟩, []⟩
def Qf (c : ByteArray) (b : Int) (cl : Bool) (cn g : Int) : At := ⟨c, b, cl, cn, g, ⟨0, [], []⟩, []⟩
def O2 (c : ByteArray) (b : Int) (cl : Bool) (cn g : Int) : At := if Cx (Qf c b cl cn g) then Qf c b cl cn g else AgP
def G8 (c : ByteArray) (b : Int) (cl : Bool) (cn g : Int) : List AV := [.sc (.string c), .sc (.int .i64 b), .sc (.bool cl), .sc (.int .i64 cn), .sc (.int .i64 g), .sc (.int .i64 0), .nl, .nl, .nl]
theorem W4 (H : Ab) (c : ByteArray) (b : Int) (cl : Bool) (cn g : Int) : A4 Aq E0.tp 53 H (.agg (G8 c b cl cn g)) = some (.agg (Bq (Qf c b cl cn g))) := by
 obtain ⟨i, hi, hc⟩ := Ae6
 rw [A4, Ee, hi, zab, hc]
 rfl
theorem Qe {n g : Nat} {c : ByteArray} {b : Int} {cl : Bool} {cn gn : Int} {ok : Bool} (hg : Fz g = false) (tO : C1 E0 n 4 g [.agg (Bq (Qf c b cl cn gn))] = some (.sc (.bool ok))) :
  (Je zS [] fun t10 H => (Ek zS [(0, 1, ss c), (1, 1, si b), (2, 1, sb cl), (3, 1, si cn), (4, 1, si gn)]).bind fun ct17 => Je zS H fun t11 H => D7 9 t11 (.agg ct17) H fun H => C6 true 9 t11 H fun t18 => (PR n AV).call 4 (.fn g [] []) [t18] H fun t19 H => pUn .not t19 fun t20 => G5 t20
   ((Ek zS []).bind fun ct21 => D7 9 t10 (.agg ct21) H fun H => C6 true 9 t10 H fun r0 => A4 Aq E0.tp 53 H r0)
   (C6 true 9 t11 H fun t22 => D7 9 t10 t22 H fun H => C6 true 9 t10 H fun r0 => A4 Aq E0.tp 53 H r0)) =
  some (.agg (Bq (if ok then Qf c b cl cn gn else AgP))) := by
 have hf : Ek zS [(0, 1, ss c), (1, 1, si b), (2, 1, sb cl), (3, 1, si cn), (4, 1, si gn)] = some (G8 c b cl cn gn) := rfl
 simp only [Je, hf, zab, zah, zat]
 rw [show ([⟨zS, true, true⟩] : Ab).length = 1 from rfl]
 have hc : Cq (.agg (G8 c b cl cn gn)) = some (G8 c b cl cn gn) := rfl
 rw [Fl 9 1 0 _ ⟨zS, true, true⟩ (G8 c b cl cn gn) _ _ rfl hc rfl (Bb rfl) rfl]
 refine F1 (ds := G8 c b cl cn gn) (cs := G8 c b cl cn gn) rfl (Bb rfl) rfl (Dr hg (vs := [.agg (Bq (Qf c b cl cn gn))]) rfl tO (Gw ?_))
 cases ok
 refine E2 rfl ?_
 have hf2 : Ek zS [] = some zS := rfl
 rw [hf2, zab]
 rw [Fl 9 0 0 _ ⟨zS, true, true⟩ zS _ _ rfl rfl rfl (Bb rfl) rfl]
 exact F1 (ds := zS) (cs := zS) rfl (Bb rfl) rfl (W4 _ ⟨#[]⟩ 0 false 0 0)
 refine Fc rfl (F1 (ds := G8 c b cl cn gn) (cs := G8 c b cl cn gn) rfl (Bb rfl) rfl ?_)
 rw [Fl 9 0 0 _ ⟨zS, true, true⟩ (G8 c b cl cn gn) _ _ rfl hc rfl (Bb rfl) rfl]
 exact F1 (ds := G8 c b cl cn gn) (cs := G8 c b cl cn gn) rfl (Bb rfl) rfl (W4 _ c b cl cn gn)
theorem M9 (n : Nat) (hn : 1048576 < n) (x0 : ByteArray) (x1 : Int) (x2 : Bool) (x3 x4 : Int) (k0 : Iq x0) (k1 : Ct x1) (k2 : True) (k3 : Ct x3) (k4 : Ct x4) (b0 : x0.size ≤ 1048576) : C1 E0 (n + 12) 53 33 [.sc (.string x0), .sc (.int .i64 x1), .sc (.bool x2), .sc (.int .i64 x3), .sc (.int .i64 x4)] = some (.agg (Bq (O2 x0 x1 x2 x3 x4))) := by
 rw [A6, Ahy, f33]
 simp only [Cj, A5, Bf, Bj, Ea, A0]
 exact Qe rfl (Mz n hn _ (Qf x0 x1 x2 x3 x4) b0 (zbm _) (zbm _))
theorem Ta (n : Nat) (hn : 1048576 < n) (x0 : ByteArray) (x1 : Int) (x2 : Bool) (x3 x4 : Int) (k0 : Iq x0) (k1 : Ct x1) (k2 : True) (k3 : Ct x3) (k4 : Ct x4) (b0 : x0.size ≤ 1048576) : C1 E0 (n + 12) 53 31 [.sc (.string x0), .sc (.int .i64 x1), .sc (.bool x2), .sc (.int .i64 x3), .sc (.int .i64 x4)] = some (.agg (Bq (O2 x0 x1 x2 x3 x4))) := by
 rw [A6, Ahw, f31]
 simp only [Cj, A5, Bf, Bj, Ea, A0]
 exact Qe rfl (Hn n hn _ (Qf x0 x1 x2 x3 x4) b0 (zbm _) (zbm _))
end
section
open Go
section
variable {β : Type} {n : Nat} {H : Ab} {L L' L1 L2 : List Ck} {G : Option β → Prop} {KH : KO β}
theorem Af8 {ty : Nat} {cty : List Nat} {x y : AV} {l q : List Int} (hs : Sep H L) (hty : ∃ i j, Aq ty = some i ∧ Aq i.elem = some j ∧ j.size = 1 ∧ j.cty = cty) (hx : Pk L (.own x ty (Df l)) L1) (hy : Src H L1 1 cty y q.length (q.map fun z => AV.sc (.int .i64 z)) L2) (hok : Eh (Gj Aq E0.tp 5) (zad q.length cty).flatten (q.map fun z => AV.sc (.int .i64 z))) (hb : (l.length + q.length) * 8 ≤ 140737488355328)
  (h : ∀ x' H', Ap x' = true → Sep H' (.own x' ty (Df (l ++ q)) :: L2) → Gd G (KH x' H')) : Gd G (G4 1 8 x y H fun x H => KH x H) := by
 refine Wf hs hty hx hy hok hb fun x' H' lx hs' => h x' H' lx ?_
 have e : Df (l ++ q) = .ro (l.length + q.length) ((l.map fun z => AV.sc (.int .i64 z)) ++ (q.map fun z => AV.sc (.int .i64 z))) := by simp [Df]
 rw [e]
 exact hs'
end
def SessB (b : Nat) (s : At) : Prop := (Iq s.fClient ∧ Ct s.fBorn ∧ Ct s.fConn ∧ Ct s.fGen ∧ OutB b s.fO ∧ ∀ z ∈ s.fIn, Ct z) ∧ s.fClient.size + (Eu s.fO + s.fIn.length) ≤ b
theorem My {b : Nat} {s : At} (h : SessB b s) : s.fIn.length ≤ b ∧ Eu s.fO ≤ b ∧ s.fClient.size ≤ b := by
 have h3 := h.2
 omega
theorem SessB.ok {b : Nat} {s : At} (h : SessB b s) (hb : b ≤ 1048576) : Vf s := by
 have h1 := My h
 obtain ⟨⟨a1, a2, a3, a4, a5, a6⟩, _⟩ := h
 exact ⟨a1, a2, trivial, a3, a4, a5.ok hb, by omega, a6⟩
theorem SessB.wt {b : Nat} {s : At} (h : SessB b s) : Kn s ≤ b := by
 have h3 := h.2
 unfold Kn
 omega
theorem SessB.mono {a b : Nat} {s : At} (h : SessB a s) (hab : a ≤ b) : SessB b s := ⟨⟨h.1.1, h.1.2.1, h.1.2.2.1, h.1.2.2.2.1, h.1.2.2.2.2.1.mono hab, h.1.2.2.2.2.2⟩, zar h.2 hab⟩
theorem Bc {b k m : Nat} {c : ByteArray} {bo : Int} {cl : Bool} {cn g : Int} {o : Bv} {i : List Int} (h1 : Iq c) (h2 : Ct bo) (h3 : Ct cn) (h4 : Ct g) (h5 : OutB k o) (h6 : i.length ≤ m ∧ ∀ z ∈ i, Ct z) (h7 : c.size + (k + m) ≤ b) : SessB b ⟨c, bo, cl, cn, g, o, i⟩ := by
 have := h5.wt
 exact ⟨⟨h1, h2, h3, h4, h5.mono (by omega), h6.2⟩, by show c.size + (Eu o + i.length) ≤ b; omega⟩
theorem AgL {b : Nat} {c : ByteArray} {bo : Int} {cl : Bool} {cn g : Int} (hc : c.size ≤ b) (hb : b ≤ 1048576) (h2 : Ct bo) (h3 : Ct cn) (h4 : Ct g) : SessB b (O2 c bo cl cn g) := by
 unfold O2
 have h0 : OutB 0 (⟨0, [], []⟩ : Bv) := Eo (by constructor <;> decide) (fun z hz => by cases hz) (fun z hz => by cases hz) (zai 0)
 split
 exact Bc (k := 0) (m := 0) (by unfold Iq; omega) h2 h3 h4 h0 ⟨zai 0, fun z hz => by cases hz⟩ (by omega)
 exact Bc (k := 0) (m := 0) (by unfold Iq; decide) (by constructor <;> decide) (by constructor <;> decide) (by constructor <;> decide) h0 ⟨zai 0, fun z hz => by cases hz⟩ (by show 0 + 0 ≤ b; omega)
theorem Aat {b : Nat} {s : At} (h : SessB b s) : SessB b (Ec s) := by
 unfold Ec
 split
 exact ⟨⟨h.1.1, h.1.2.1, (by decide : (-9223372036854775808 : Int) ≤ -1 ∧ (-1 : Int) ≤ 9223372036854775807), (by decide : (-9223372036854775808 : Int) ≤ 0 ∧ (0 : Int) ≤ 9223372036854775807), h.1.2.2.2.2⟩, h.2⟩
 exact h
theorem Aex (n : Nat) (hn : 1048576 < n) (c : ByteArray) (bo : Int) (cl : Bool) (cn g : Int) (hc : c.size ≤ 3) (h2 : Ct bo) (h3 : Ct cn) (h4 : Ct g) : ∃ sv, SessB 3 sv ∧ C1 E0 (n + 12) 53 33 [.sc (.string c), .sc (.int .i64 bo), .sc (.bool cl), .sc (.int .i64 cn), .sc (.int .i64 g)] = some (.agg (Bq sv)) :=
 ⟨_, AgL hc (by decide) h2 h3 h4, M9 n hn c bo cl cn g (by unfold Iq; omega) h2 trivial h3 h4 (by omega)⟩
theorem Air (n : Nat) (hn : 1048576 < n) (s : At) (h : SessB 3 s) : ∃ sv, SessB 3 sv ∧ C1 E0 (n + 12) 53 125 [.agg (Bq s)] = some (.agg (Bq sv)) :=
 ⟨_, Aat h, Xh n hn s (h.ok (by decide)) (zar h.wt (by decide))⟩
theorem Rt (n : Nat) (hn : 1048576 < n) (code : ByteArray) (hcode : code.size ≤ 1048576) (c i : Nat) (h : Int)   {β : Type} {G : Option β → Prop} {KH : KO β} {H : Ab} {L : List Ck} (s0 : Sep H (Cr c code i h :: L)) (hk : ∀ (r0 : List Int) (r0x : AV) (i' : Nat) (h' : Int) (H' : Ab), (Ap r0x = true) → (r0.length ≤ 5 ∧ (∀ y ∈ r0, Ct y)) → Sep H' (.own r0x 39 (Df r0) :: Cr c code i' h' :: L) → Gd G (KH (r0x) H')) : Gd G (Dd E0 (n + 5) β 126 [.ptr c 0] H fun x H => KH x H) := by
 rw [Afl, f126]
 try simp only [Cj]
 have lp1 : ∀ (j m : Nat) (z : Int) (a1 : List Int) (a1x : AV) (i : Nat) (h : Int) (H : Ab), j < m → 0 ≤ z ∧ z + ((j : Nat) : Int) = max ((6 : Int)) 0 → Ap a1x = true → (a1.length + j ≤ 5 ∧ (∀ y ∈ a1, Ct y)) → Sep H (.own a1x 39 (Df a1) :: Cr c code i h :: L) → Gd G (J9 (PR ((n + 4)) β) ((n + 4)) (fun x H => KH x H) m (.ptr c 0) (a1x) (si z) H) := by
  clear s0
  intro j
  induction j with
  | zero =>
   intro m0 z a1 a1x i h H hm hz la1x hinv s0
   obtain ⟨m, rfl⟩ : ∃ m, m0 = m + 1 := ⟨m0 - 1, by omega⟩
   obtain ⟨hv1, hv2⟩ := hinv
   have hinv := And.intro hv1 hv2
   rw [J9]
   try simp only [Bh, Ba, A0, Bs, Pr.gT, Pr.gF, Pr.hT, Pr.hF, Pr.kT, Pr.kF, B7, Bw, Bj, Cp]
   refine L8 (Cb (decide_eq_false (by omega)) (Cb (decide_eq_false (by omega)) (Cb (decide_eq_false (by omega)) (Fq (decide_eq_false (by omega)) (Ci rfl ?_)))))
   have e2 : a1.length ≤ 5 ∧ (∀ y ∈ a1, Ct y) := by
    first | assumption | exact ⟨by simp, by simp⟩ | exact ⟨by omega, by assumption⟩
   exact hk a1 a1x i h _ la1x e2 (s0.sel (.cons (.here) (.cons (.here) .rest)))
  | succ j ih =>
   intro m0 z a1 a1x i h H hm hz la1x hinv s0
   obtain ⟨m, rfl⟩ : ∃ m, m0 = m + 1 := ⟨m0 - 1, by omega⟩
   obtain ⟨hv1, hv2⟩ := hinv
   have hinv := And.intro hv1 hv2
   rw [J9]
   try simp only [Bh, Ba, A0, Bs, Pr.gT, Pr.gF, Pr.hT, Pr.hF, Pr.kT, Pr.kF, B7, Bw, Bj, Cp]
   refine L8 (Bd (decide_eq_true (by omega)) (Bd (decide_eq_true (by omega)) (Kd s0 (.here) (Bd (decide_eq_true (by omega)) (L8 (Hh (decide_eq_true (by omega)) (Ah ((decide (((a1.length : Nat) : Int) < 4))) (fun h3 => ?_) fun h3 => ?_)))))))
   refine Dk h3 (F4 hcode (by omega) s0 Aw fun b4 iq5 hq5 H sq5 => Ah (b4) (fun h6 => ?_) fun h6 => ?_)
   refine Dk h6 (Az (cs := [.sc (.int .i64 z)]) rfl (Au sq5 fun i7 H s8 => U4 s8 Ca (.here) ⟨_, _, rfl, rfl, rfl, rfl⟩ rfl (by first | omega | (simp only [zb0]; omega)) fun x9 H lx9 s10 => Hm (by omega) (by omega) ?_))
   have e11 : (a1 ++ [z]).length + j ≤ 5 ∧ (∀ y ∈ (a1 ++ [z]), Ct y) := by
    refine ⟨by first | omega | (simp only [zae, zal, zat]; omega), ?_⟩; intro y hy; first | (cases hy; done) | exact hinv.2 y hy | (rcases zaB.1 hy with hy | hy; exact hinv.2 y hy; rw [zbu.1 hy]; constructor <;> omega)
   exact ih m _ (a1 ++ [z]) x9 iq5 hq5 _ (by omega) (by omega) lx9 e11 (s10.sel (.cons (.here) (.cons (.here) .rest)))
   refine Ci h6 (Hm (by omega) (by omega) ?_)
   have e12 : a1.length + j ≤ 5 ∧ (∀ y ∈ a1, Ct y) := by
    refine ⟨by first | omega | (simp only [zae, zal, zat]; omega), ?_⟩; intro y hy; first | (cases hy; done) | exact hinv.2 y hy | (rcases zaB.1 hy with hy | hy; exact hinv.2 y hy; rw [zbu.1 hy]; constructor <;> omega)
   exact ih m _ a1 a1x iq5 hq5 _ (by omega) (by omega) la1x e12 (sq5.sel (.cons Aw (.cons (.here) .rest)))
   refine Ci h3 ?_
   have e13 : a1.length ≤ 5 ∧ (∀ y ∈ a1, Ct y) := by
    first | assumption | exact ⟨by simp, by simp⟩ | exact ⟨by omega, by assumption⟩
   exact hk a1 a1x i h _ la1x e13 (s0.sel (.cons (.here) (.cons (.here) .rest)))
 have s14 := s0.nl (ty := 39) ⟨_, _, rfl, rfl⟩
 have e15 : ([] : List Int).length + (max ((6 : Int)) 0 - 1).toNat ≤ 5 ∧ (∀ y ∈ ([] : List Int), Ct y) := by
  refine ⟨by first | omega | (simp only [zae, zal, zat]; omega), ?_⟩; intro y hy; first | (cases hy; done) | exact hinv.2 y hy | (rcases zaB.1 hy with hy | hy; exact hinv.2 y hy; rw [zbu.1 hy]; constructor <;> omega)
 exact lp1 (max ((6 : Int)) 0 - 1).toNat _ _ ([] : List Int) .nl i h _ (by omega) (by omega) rfl e15 (s14.sel (.cons (.here) (.cons (.here) .rest)))
theorem Aee (n : Nat) (hn : 1048576 < n) (code : ByteArray) (hcode : code.size ≤ 1048576) (c i : Nat) (h : Int) (client : ByteArray) (hc0 : client.size ≤ 3) {β : Type} {r : Option β} {KH : KO β} {H : Ab} {L : List Ck} (s0 : Sep H (Cr c code i h :: L)) (hk : ∀ (r0 : At) (r0x6 : AV) (r0x7 : AV) (r0x8 : AV) (i' : Nat) (h' : Int) (H' : Ab), (Ap r0x6 = true) → (Ap r0x7 = true) → (Ap r0x8 = true) → (SessB 118 r0) → Sep H' (.own r0x6 24 (Am Ar r0.fO.fFl) :: .own r0x7 25 (Am Ao r0.fO.fQ) :: .own r0x8 39 (Df r0.fIn) :: Cr c code i' h' :: L) → Gd (· = r) (KH (.agg [.sc (.string r0.fClient), .sc (.int .i64 r0.fBorn), .sc (.bool r0.fClean), .sc (.int .i64 r0.fConn), .sc (.int .i64 r0.fGen), .sc (.int .i64 r0.fO.fLast), r0x6, r0x7, r0x8]) H')) : Gd (· = r) (Dd E0 (n + 18) β 106 [.ptr c 0, .sc (.string client)] H fun x H => KH x H) := by
 rw [AeV, f106]
 try simp only [Cj, Br, A5, Bf, Ba, A0]
 refine D1 s0 fun i1 H s2 => Fp (m := 5) hcode (by omega) s2 Aw fun z3 iq4 hq4 H hz3 sq4 => ?_
 replace hz3 : 0 ≤ z3 ∧ z3 < 5 := by omega
 refine F4 hcode (by omega) sq4 (.here) fun b5 iq6 hq6 H sq6 => Fp (m := 4) hcode (by omega) sq6 (.here) fun z7 iq8 hq8 H hz7 sq8 => ?_
 replace hz7 : 0 ≤ z7 ∧ z7 < 4 := by omega
 refine Fp (m := 4) hcode (by omega) sq8 (.here) fun z9 iq10 hq10 H hz9 sq10 => ?_
 replace hz9 : 0 ≤ z9 ∧ z9 < 4 := by omega
 refine Hm (by omega) (by omega) ?_
 obtain ⟨v11, hv11, ev11⟩ := Aex (n + 5) (by omega) client z3 b5 z7 (1 + z9) (by omega) (by simp only [Ct]; omega) (by simp only [Ct]; omega) (by simp only [Ct]; omega)
 have khv11 := hv11
 obtain ⟨⟨hv111, hv112, hv113, hv114, hv115, hv116⟩, hv117⟩ := khv11
 refine Fi sq10 rfl (S0 .nil) (ev11) ⟨_, rfl, rfl⟩ (Jb _) ?_
 rintro _ _ H ⟨x12, x13, x14, lx12, lx13, lx14, rfl, rfl⟩ s15
 simp only [zah, zax] at s15
 refine D1 s15 fun i16 H s17 => Bi (cs' := [ss v11.fClient, si v11.fBorn, sb v11.fClean, si v11.fConn, si v11.fGen, si v11.fO.fLast, x12, x13, x14]) s17 (.here) (Ac (Aa rfl (Aa rfl (Aa rfl (Aa rfl (Aa rfl (Aa rfl (Aa lx12 (Aa lx13 (Aa lx14 rfl)))))))))) rfl (Bb rfl) rfl fun H s18 => F4 hcode (by omega) s18 F2 fun b19 iq20 hq20 H sq20 => Ia (Ah (b19) (fun h21 => ?_) fun h21 => ?_)
 refine Dk h21 (Ag sq20 Aw rfl ?_)
 obtain ⟨v22, hv22, ev22⟩ := Air (n + 5) (by omega) v11 hv11
 have khv22 := hv22
 obtain ⟨⟨hv221, hv222, hv223, hv224, hv225, hv226⟩, hv227⟩ := khv22
 refine Fi sq20 rfl (.agg (Iz (.cons (.own (by decide) F2) (.cons (.own (by decide) Bn) (.cons (.own (by decide) Ca) .nil)))) .nil) (ev22) ⟨_, rfl, rfl⟩ (Jb _) ?_
 rintro _ _ H ⟨x23, x24, x25, lx23, lx24, lx25, rfl, rfl⟩ s26
 simp only [zah, zax] at s26
 refine Bi (cs' := [ss v22.fClient, si v22.fBorn, sb v22.fClean, si v22.fConn, si v22.fGen, si v22.fO.fLast, x23, x24, x25]) s26 F2 (Ac (Aa rfl (Aa rfl (Aa rfl (Aa rfl (Aa rfl (Aa rfl (Aa lx23 (Aa lx24 (Aa lx25 rfl)))))))))) rfl (Bb rfl) rfl fun H s27 => Gx rfl rfl (Rr _ (by omega) code hcode c iq20 hq20   (s27.pick F2) fun r28 r28x1 r28x2 iq29 hq29 H lr28x1 lr28x2 hr28 sq29 => ?_)
 have kr28 := hr28
 obtain ⟨⟨oar28, obr28, ocr28⟩, wr28⟩ := kr28
 have gr28 := Md hr28
 refine An (o' := 5) rfl (Bi (cs' := [ss v22.fClient, si v22.fBorn, sb v22.fClean, si v22.fConn, si v22.fGen, si r28.fLast, r28x1, r28x2, x25]) sq29 Bn (Ac (Aa rfl (Aa lr28x1 (Aa lr28x2 rfl)))) rfl (Bb rfl) rfl fun H s30 => Gx rfl rfl (Rt _ (by omega) code hcode c iq29 hq29   (s30.pick Bn) fun r31 r31x iq32 hq32 H lr31x hr31 sq32 => ?_))
 obtain ⟨gr31, or31⟩ := hr31
 refine An (o' := 8) rfl (Cv sq32 Ca lr31x rfl fun H s33 => Ag s33 (.here) rfl (Bi (cs' := [ss v22.fClient, si v22.fBorn, sb v22.fClean, si v22.fConn, si v22.fGen, si r28.fLast, r28x1, r28x2, r31x]) s33 Hl (Ac (Aa rfl (Aa rfl (Aa rfl (Aa rfl (Aa rfl (Aa rfl (Aa lr28x1 (Aa lr28x2 (Aa lr31x rfl)))))))))) rfl (Bb rfl) rfl fun H s34 => Ag s34 (.here) rfl ?_))
 have e35 : SessB 118 (⟨v22.fClient, v22.fBorn, v22.fClean, v22.fConn, v22.fGen, r28, r31⟩ : At) := by
  refine Bc (k := 110) (m := 5) ?_ ?_ ?_ ?_ (by assumption) ⟨by omega, by assumption⟩ (by omega) <;> assumption
 exact hk (⟨v22.fClient, v22.fBorn, v22.fClean, v22.fConn, v22.fGen, r28, r31⟩ : At) r28x1 r28x2 r31x iq32 hq32 _ lr28x1 lr28x2 lr31x e35 (s34.sel (.cons F2 (.cons F2 (.cons Ca (.cons Ca zS8)))))
 refine Ci h21 (Gx rfl rfl (Rr _ (by omega) code hcode c iq20 hq20   (sq20.pick (.here)) fun r36 r36x1 r36x2 iq37 hq37 H lr36x1 lr36x2 hr36 sq37 => ?_))
 have kr36 := hr36
 obtain ⟨⟨oar36, obr36, ocr36⟩, wr36⟩ := kr36
 have gr36 := Md hr36
 refine An (o' := 5) rfl (Bi (cs' := [ss v11.fClient, si v11.fBorn, sb v11.fClean, si v11.fConn, si v11.fGen, si r36.fLast, r36x1, r36x2, x14]) sq37 Bn (Ac (Aa rfl (Aa lr36x1 (Aa lr36x2 rfl)))) rfl (Bb rfl) rfl fun H s38 => Gx rfl rfl (Rt _ (by omega) code hcode c iq37 hq37   (s38.pick Bn) fun r39 r39x iq40 hq40 H lr39x hr39 sq40 => ?_))
 obtain ⟨gr39, or39⟩ := hr39
 refine An (o' := 8) rfl (Cv sq40 Ca lr39x rfl fun H s41 => Ag s41 (.here) rfl (Bi (cs' := [ss v11.fClient, si v11.fBorn, sb v11.fClean, si v11.fConn, si v11.fGen, si r36.fLast, r36x1, r36x2, r39x]) s41 zP8 (Ac (Aa rfl (Aa rfl (Aa rfl (Aa rfl (Aa rfl (Aa rfl (Aa lr36x1 (Aa lr36x2 (Aa lr39x rfl)))))))))) rfl (Bb rfl) rfl fun H s42 => Ag s42 (.here) rfl ?_))
 have e43 : SessB 118 (⟨v11.fClient, v11.fBorn, v11.fClean, v11.fConn, v11.fGen, r36, r39⟩ : At) := by
  refine Bc (k := 110) (m := 5) ?_ ?_ ?_ ?_ (by assumption) ⟨by omega, by assumption⟩ (by omega) <;> assumption
 exact hk (⟨v11.fClient, v11.fBorn, v11.fClean, v11.fConn, v11.fGen, r36, r39⟩ : At) r36x1 r36x2 r39x iq40 hq40 _ lr36x1 lr36x2 lr39x e43 (s42.sel (.cons F2 (.cons F2 (.cons Ca (.cons Ca zS5)))))
theorem Aas (n : Nat) (hn : 1048576 < n) (code : ByteArray) (hcode : code.size ≤ 1048576) (c i : Nat) (h : Int)   {β : Type} {G : Option β → Prop} {KH : KO β} {H : Ab} {L : List Ck} (s0 : Sep H (Cr c code i h :: L)) (hk : ∀ (r0 : ByteArray) (i' : Nat) (h' : Int) (H' : Ab), (r0.size ≤ 3) → Sep H' (Cr c code i' h' :: L) → Gd G (KH (.sc (.string r0)) H')) : Gd G (Dd E0 (n + 5) β 80 [.ptr c 0] H fun x H => KH x H) := by
 rw [AhT, f80]
 try simp only [Bh, Bj]
 refine Az (cs := [ss (⟨#[97, 110, 110]⟩), ss (⟨#[98, 111, 98]⟩), ss (⟨#[99, 105, 100]⟩), ss (⟨#[100, 111, 116]⟩), ss (⟨#[101, 118, 101]⟩)]) rfl (Au s0 fun i1 H s2 => AbX hcode (by omega) (by omega) rfl s2 Aw (.here) fun z3a iq4 hq4 H mz3 sq4 => ?_)
 have s5 := (sq4.pick Aw).tail
 obtain ⟨z3, rfl, hz3⟩ := Kw (l := [⟨#[97, 110, 110]⟩, ⟨#[98, 111, 98]⟩, ⟨#[99, 105, 100]⟩, ⟨#[100, 111, 116]⟩, ⟨#[101, 118, 101]⟩]) (m := 3) mz3 (by decide)
 have e6 : z3.size ≤ 3 := by
  first | omega | (simp only [Af, Ad]; omega) | (simp; omega)
 exact hk z3 iq4 hq4 _ e6 (s5.sel (.cons (.here) .rest))
theorem AfO (n : Nat) (hn : 1048576 < n) (code : ByteArray) (hcode : code.size ≤ 1048576) (c i : Nat) (h : Int)   {β : Type} {G : Option β → Prop} {KH : KO β} {H : Ab} {L : List Ck} (s0 : Sep H (Cr c code i h :: L)) (hk : ∀ (r0 : List Int) (r0x : AV) (i' : Nat) (h' : Int) (H' : Ab), (Ap r0x = true) → (r0.length ≤ 10 ∧ (∀ y ∈ r0, Ct y)) → Sep H' (.own r0x 39 (Df r0) :: Cr c code i' h' :: L) → Gd G (KH (r0x) H')) : Gd G (Dd E0 (n + 6) β 108 [.ptr c 0] H fun x H => KH x H) := by
 rw [AeX, f108]
 try simp only [Bh, Ba, A0, Bj, Cp]
 refine Gx rfl rfl (Rt _ (by omega) code hcode c i h   (s0.pick (.here)) fun r1 r1x iq2 hq2 H lr1x hr1 sq2 => ?_)
 obtain ⟨gr1, or1⟩ := hr1
 refine Fp (m := 8) hcode (by omega) sq2 Aw fun z3 iq4 hq4 H hz3 sq4 => ?_
 replace hz3 : 0 ≤ z3 ∧ z3 < 8 := by omega
 refine Cd (Ah ((decide (z3 = 0))) (fun h5 => ?_) fun h5 => ?_)
 refine Dk h5 (Az (cs := [i0, si 1, si 65535, si 65536]) rfl (Au sq4 fun i6 H s7 => Bo hcode (by omega) (by omega) rfl s7 Aw (.here) fun z8a iq9 hq9 H mz8 sq9 => ?_))
 have s10 := (sq9.pick Aw).tail
 obtain ⟨z8, rfl, hz8⟩ := Ae (l := [0, 1, 65535, 65536]) (lo := 0) (hi := 65536) mz8 (by decide)
 refine Az (cs := [.sc (.int .i64 z8)]) rfl (Au s10 fun i11 H s12 => U4 s12 Ca (.here) ⟨_, _, rfl, rfl, rfl, rfl⟩ rfl (by first | omega | (simp only [zb0]; omega)) fun x13 H lx13 s14 => ?_)
 have e15 : (r1 ++ [z8]).length ≤ 10 ∧ (∀ y ∈ (r1 ++ [z8]), Ct y) := by
  first | exact ⟨by omega, by assumption⟩ | exact ⟨by simp only [zae, zal, zao, zat]; omega, zaz.2 ⟨by assumption, by intro z hz; simp only [zay, za2, or_false] at hz; first | (subst hz; simp only [Ct]; omega) | (rcases hz with rfl | rfl | rfl | rfl | rfl <;> (simp only [Ct]; omega))⟩⟩ | exact ⟨by decide, by intro z hz; simp only [zay, za2, or_false] at hz; rcases hz with rfl | rfl | rfl | rfl <;> (simp only [Ct]; omega)⟩
 exact hk (r1 ++ [z8]) x13 iq9 hq9 _ lx13 e15 (s14.sel (.cons (.here) (.cons (.here) .rest)))
 refine Ci h5 (Cd (Ah ((decide (z3 = 1))) (fun h16 => ?_) fun h16 => ?_))
 refine Dk h16 (Az (cs := [si 1, si 2, si 3, si 4]) rfl (Au sq4 fun i17 H s18 => ?_))
 have s19 := Sep.closeR (ty := 39) (sz := 1) (m := 4) (pre := []) (cells := [.sc (.int .i64 1), .sc (.int .i64 2), .sc (.int .i64 3), .sc (.int .i64 4)]) (post := []) ⟨_, _, rfl, rfl, rfl, rfl⟩ (by simpa using s18.pick (.here)) rfl rfl
 have e20 : ([1, 2, 3, 4] : List Int).length ≤ 10 ∧ (∀ y ∈ ([1, 2, 3, 4] : List Int), Ct y) := by
  first | exact ⟨by omega, by assumption⟩ | exact ⟨by simp only [zae, zal, zao, zat]; omega, zaz.2 ⟨by assumption, by intro z hz; simp only [zay, za2, or_false] at hz; first | (subst hz; simp only [Ct]; omega) | (rcases hz with rfl | rfl | rfl | rfl | rfl <;> (simp only [Ct]; omega))⟩⟩ | exact ⟨by decide, by intro z hz; simp only [zay, za2, or_false] at hz; rcases hz with rfl | rfl | rfl | rfl <;> (simp only [Ct]; omega)⟩
 exact hk ([1, 2, 3, 4] : List Int) (.sl i17 0 4 1) iq4 hq4 _ rfl e20 (s19.sel (.cons (.here) (.cons (.here) (.skip .rest))))
 refine Ci h16 (Cd (Ah ((decide (z3 = 2))) (fun h21 => ?_) fun h21 => ?_))
 refine Dk h21 (Az (cs := [.sc (.int .i64 7), .sc (.int .i64 8), .sc (.int .i64 9), .sc (.int .i64 10), .sc (.int .i64 11)]) rfl (Au sq4 fun i22 H s23 => Af8 (cty := [3]) (q := [7, 8, 9, 10, 11]) s23 ⟨_, _, rfl, rfl, rfl, rfl⟩ Ca (Ox (.here) rfl rfl (Ws .nil) (Vm trivial)) (Vm trivial) (by simp only [zao, zat]; omega) fun x24 H lx24 s25 => ?_))
 have e26 : (r1 ++ [7, 8, 9, 10, 11]).length ≤ 10 ∧ (∀ y ∈ (r1 ++ [7, 8, 9, 10, 11]), Ct y) := by
  first | exact ⟨by omega, by assumption⟩ | exact ⟨by simp only [zae, zal, zao, zat]; omega, zaz.2 ⟨by assumption, by intro z hz; simp only [zay, za2, or_false] at hz; first | (subst hz; simp only [Ct]; omega) | (rcases hz with rfl | rfl | rfl | rfl | rfl <;> (simp only [Ct]; omega))⟩⟩ | exact ⟨by decide, by intro z hz; simp only [zay, za2, or_false] at hz; rcases hz with rfl | rfl | rfl | rfl <;> (simp only [Ct]; omega)⟩
 exact hk (r1 ++ [7, 8, 9, 10, 11]) x24 iq4 hq4 _ lx24 e26 (s25.sel (.cons (.here) (.cons (.here) .rest)))
 refine Ci h21 ?_
 have e27 : r1.length ≤ 10 ∧ (∀ y ∈ r1, Ct y) := by
  first | exact ⟨by omega, by assumption⟩ | exact ⟨by simp only [zae, zal, zao, zat]; omega, zaz.2 ⟨by assumption, by intro z hz; simp only [zay, za2, or_false] at hz; first | (subst hz; simp only [Ct]; omega) | (rcases hz with rfl | rfl | rfl | rfl | rfl <;> (simp only [Ct]; omega))⟩⟩ | exact ⟨by decide, by intro z hz; simp only [zay, za2, or_false] at hz; rcases hz with rfl | rfl | rfl | rfl <;> (simp only [Ct]; omega)⟩
 exact hk r1 r1x iq4 hq4 _ lr1x e27 (sq4.sel (.cons Aw (.cons (.here) .rest)))
theorem AfP (n : Nat) (hn : 1048576 < n) (code : ByteArray) (hcode : code.size ≤ 1048576) (c i : Nat) (h : Int)   {β : Type} {r : Option β} {KH : KO β} {H : Ab} {L : List Ck} (s0 : Sep H (Cr c code i h :: L)) (hk : ∀ (r0 : At) (r0x6 : AV) (r0x7 : AV) (r0x8 : AV) (i' : Nat) (h' : Int) (H' : Ab), (Ap r0x6 = true) → (Ap r0x7 = true) → (Ap r0x8 = true) → (SessB 700 r0) → Sep H' (.own r0x6 24 (Am Ar r0.fO.fFl) :: .own r0x7 25 (Am Ao r0.fO.fQ) :: .own r0x8 39 (Df r0.fIn) :: Cr c code i' h' :: L) → Gd (· = r) (KH (.agg [.sc (.string r0.fClient), .sc (.int .i64 r0.fBorn), .sc (.bool r0.fClean), .sc (.int .i64 r0.fConn), .sc (.int .i64 r0.fGen), .sc (.int .i64 r0.fO.fLast), r0x6, r0x7, r0x8]) H')) : Gd (· = r) (Dd E0 (n + 20) β 73 [.ptr c 0] H fun x H => KH x H) := by
 rw [AhN, f73]
 try simp only [Cj, Bh, Br, A5, Bf, Ba, Ea, A0, Bj]
 refine D1 s0 fun i1 H s2 => Gx rfl rfl (Aas _ (by omega) code hcode c i h   (s2.pick Aw) fun r3 iq4 hq4 H hr3 sq4 => Gx rfl rfl (Aee _ (by omega) code hcode c iq4 hq4 r3 (by omega) (sq4.pick (.here)) fun r5 r5x6 r5x7 r5x8 iq6 hq6 H lr5x6 lr5x7 lr5x8 hr5 sq6 => ?_))
 have kr5 := hr5
 obtain ⟨⟨oar5, obr5, ocr5, odr5, oer5, ofr5⟩, wr5⟩ := kr5
 have gr5 := My hr5
 refine D1 sq6 fun i7 H s8 => Bi (cs' := [ss r5.fClient, si r5.fBorn, sb r5.fClean, si r5.fConn, si r5.fGen, si r5.fO.fLast, r5x6, r5x7, r5x8]) s8 (.here) (Ac (Aa rfl (Aa rfl (Aa rfl (Aa rfl (Aa rfl (Aa rfl (Aa lr5x6 (Aa lr5x7 (Aa lr5x8 rfl)))))))))) rfl (Bb rfl) rfl fun H s9 => Fp (m := 18) hcode (by omega) s9 F2 fun z10 iq11 hq11 H hz10 sq11 => ?_
 replace hz10 : 0 ≤ z10 ∧ z10 < 18 := by omega
 refine Cd (Ah ((decide (z10 = 0))) (fun h12 => ?_) fun h12 => ?_)
 refine Dk h12 (Az (cs := [sE, ss (⟨#[255]⟩)]) rfl (Au sq11 fun i13 H s14 => AbX hcode (by omega) (by omega) rfl s14 Aw (.here) fun z15a iq16 hq16 H mz15 sq16 => ?_))
 have s17 := (sq16.pick Aw).tail
 obtain ⟨z15, rfl, hz15⟩ := Kw (l := [⟨#[]⟩, ⟨#[255]⟩]) (m := 1) mz15 (by decide)
 refine An (o' := 0) rfl (Cv s17 Aw rfl rfl fun H s18 => Ag s18 (.here) rfl (Bi (cs' := [ss z15, si r5.fBorn, sb r5.fClean, si r5.fConn, si r5.fGen, si r5.fO.fLast, r5x6, r5x7, r5x8]) s18 Fu (Ac (Aa rfl (Aa rfl (Aa rfl (Aa rfl (Aa rfl (Aa rfl (Aa lr5x6 (Aa lr5x7 (Aa lr5x8 rfl)))))))))) rfl (Bb rfl) rfl fun H s19 => Ag s19 (.here) rfl ?_))
 have e20 : SessB 700 (⟨z15, r5.fBorn, r5.fClean, r5.fConn, r5.fGen, r5.fO, r5.fIn⟩ : At) := by
  first | exact SessB.mono (by assumption) (by omega) | (refine Bc (k := 400) (m := 118) ?_ ?_ ?_ ?_ ?_ ?_ ?_ <;> first | assumption | (simp only [Ct]; omega) | (simp only [Iq]; omega) | exact OutB.mono (by assumption) (by omega) | exact ⟨by omega, by assumption⟩ | omega)
 exact hk (⟨z15, r5.fBorn, r5.fClean, r5.fConn, r5.fGen, r5.fO, r5.fIn⟩ : At) r5x6 r5x7 r5x8 iq16 hq16 _ lr5x6 lr5x7 lr5x8 e20 (s19.sel (.cons Bn (.cons Bn (.cons Bn (.cons Ca Qw)))))
 refine Ci h12 (Cd (Ah ((decide (z10 = 1))) (fun h21 => ?_) fun h21 => ?_))
 refine Dk h21 (An (o' := 1) rfl (Cv sq11 Aw rfl rfl fun H s22 => Ag s22 (.here) rfl (Bi (cs' := [ss r5.fClient, si (-1), sb r5.fClean, si r5.fConn, si r5.fGen, si r5.fO.fLast, r5x6, r5x7, r5x8]) s22 Fu (Ac (Aa rfl (Aa rfl (Aa rfl (Aa rfl (Aa rfl (Aa rfl (Aa lr5x6 (Aa lr5x7 (Aa lr5x8 rfl)))))))))) rfl (Bb rfl) rfl fun H s23 => Ag s23 (.here) rfl ?_)))
 have e24 : SessB 700 (⟨r5.fClient, (-1), r5.fClean, r5.fConn, r5.fGen, r5.fO, r5.fIn⟩ : At) := by
  first | exact SessB.mono (by assumption) (by omega) | (refine Bc (k := 400) (m := 118) ?_ ?_ ?_ ?_ ?_ ?_ ?_ <;> first | assumption | (simp only [Ct]; omega) | (simp only [Iq]; omega) | exact OutB.mono (by assumption) (by omega) | exact ⟨by omega, by assumption⟩ | omega)
 exact hk (⟨r5.fClient, (-1), r5.fClean, r5.fConn, r5.fGen, r5.fO, r5.fIn⟩ : At) r5x6 r5x7 r5x8 iq11 hq11 _ lr5x6 lr5x7 lr5x8 e24 (s23.sel (.cons Bn (.cons Bn (.cons Bn (.cons Ca Qw)))))
 refine Ci h21 (Cd (Ah ((decide (z10 = 2))) (fun h25 => ?_) fun h25 => ?_))
 refine Dk h25 (An (o' := 2) rfl (Bg (c := sb r5.fClean) sq11 Aw rfl (Hw (An (o' := 2) rfl (Cv sq11 Aw rfl rfl fun H s26 => Ag s26 (.here) rfl (Bi (cs' := [ss r5.fClient, si r5.fBorn, sb (!r5.fClean), si r5.fConn, si r5.fGen, si r5.fO.fLast, r5x6, r5x7, r5x8]) s26 Fu (Ac (Aa rfl (Aa rfl (Aa rfl (Aa rfl (Aa rfl (Aa rfl (Aa lr5x6 (Aa lr5x7 (Aa lr5x8 rfl)))))))))) rfl (Bb rfl) rfl fun H s27 => Ag s27 (.here) rfl ?_))))))
 have e28 : SessB 700 (⟨r5.fClient, r5.fBorn, (!r5.fClean), r5.fConn, r5.fGen, r5.fO, r5.fIn⟩ : At) := by
  first | exact SessB.mono (by assumption) (by omega) | (refine Bc (k := 400) (m := 118) ?_ ?_ ?_ ?_ ?_ ?_ ?_ <;> first | assumption | (simp only [Ct]; omega) | (simp only [Iq]; omega) | exact OutB.mono (by assumption) (by omega) | exact ⟨by omega, by assumption⟩ | omega)
 exact hk (⟨r5.fClient, r5.fBorn, (!r5.fClean), r5.fConn, r5.fGen, r5.fO, r5.fIn⟩ : At) r5x6 r5x7 r5x8 iq11 hq11 _ lr5x6 lr5x7 lr5x8 e28 (s27.sel (.cons Bn (.cons Bn (.cons Bn (.cons Ca Qw)))))
 refine Ci h25 (Cd (Ah ((decide (z10 = 3))) (fun h29 => ?_) fun h29 => ?_))
 refine Dk h29 (Az (cs := [si (-2), si (-1), si 4]) rfl (Au sq11 fun i30 H s31 => Bo hcode (by omega) (by omega) rfl s31 Aw (.here) fun z32a iq33 hq33 H mz32 sq33 => ?_))
 have s34 := (sq33.pick Aw).tail
 obtain ⟨z32, rfl, hz32⟩ := Ae (l := [(-2), (-1), 4]) (lo := -2) (hi := 4) mz32 (by decide)
 refine An (o' := 3) rfl (Cv s34 Aw rfl rfl fun H s35 => Ag s35 (.here) rfl (Bi (cs' := [ss r5.fClient, si r5.fBorn, sb r5.fClean, si z32, si r5.fGen, si r5.fO.fLast, r5x6, r5x7, r5x8]) s35 Fu (Ac (Aa rfl (Aa rfl (Aa rfl (Aa rfl (Aa rfl (Aa rfl (Aa lr5x6 (Aa lr5x7 (Aa lr5x8 rfl)))))))))) rfl (Bb rfl) rfl fun H s36 => Ag s36 (.here) rfl ?_))
 have e37 : SessB 700 (⟨r5.fClient, r5.fBorn, r5.fClean, z32, r5.fGen, r5.fO, r5.fIn⟩ : At) := by
  first | exact SessB.mono (by assumption) (by omega) | (refine Bc (k := 400) (m := 118) ?_ ?_ ?_ ?_ ?_ ?_ ?_ <;> first | assumption | (simp only [Ct]; omega) | (simp only [Iq]; omega) | exact OutB.mono (by assumption) (by omega) | exact ⟨by omega, by assumption⟩ | omega)
 exact hk (⟨r5.fClient, r5.fBorn, r5.fClean, z32, r5.fGen, r5.fO, r5.fIn⟩ : At) r5x6 r5x7 r5x8 iq33 hq33 _ lr5x6 lr5x7 lr5x8 e37 (s36.sel (.cons Bn (.cons Bn (.cons Bn (.cons Ca Qw)))))
 refine Ci h29 (Cd (Ah ((decide (z10 = 4))) (fun h38 => ?_) fun h38 => ?_))
 refine Dk h38 (Az (cs := [si (-1), i0]) rfl (Au sq11 fun i39 H s40 => Bo hcode (by omega) (by omega) rfl s40 Aw (.here) fun z41a iq42 hq42 H mz41 sq42 => ?_))
 have s43 := (sq42.pick Aw).tail
 obtain ⟨z41, rfl, hz41⟩ := Ae (l := [(-1), 0]) (lo := -1) (hi := 0) mz41 (by decide)
 refine An (o' := 4) rfl (Cv s43 Aw rfl rfl fun H s44 => Ag s44 (.here) rfl (Bi (cs' := [ss r5.fClient, si r5.fBorn, sb r5.fClean, si r5.fConn, si z41, si r5.fO.fLast, r5x6, r5x7, r5x8]) s44 Fu (Ac (Aa rfl (Aa rfl (Aa rfl (Aa rfl (Aa rfl (Aa rfl (Aa lr5x6 (Aa lr5x7 (Aa lr5x8 rfl)))))))))) rfl (Bb rfl) rfl fun H s45 => Ag s45 (.here) rfl ?_))
 have e46 : SessB 700 (⟨r5.fClient, r5.fBorn, r5.fClean, r5.fConn, z41, r5.fO, r5.fIn⟩ : At) := by
  first | exact SessB.mono (by assumption) (by omega) | (refine Bc (k := 400) (m := 118) ?_ ?_ ?_ ?_ ?_ ?_ ?_ <;> first | assumption | (simp only [Ct]; omega) | (simp only [Iq]; omega) | exact OutB.mono (by assumption) (by omega) | exact ⟨by omega, by assumption⟩ | omega)
 exact hk (⟨r5.fClient, r5.fBorn, r5.fClean, r5.fConn, z41, r5.fO, r5.fIn⟩ : At) r5x6 r5x7 r5x8 iq42 hq42 _ lr5x6 lr5x7 lr5x8 e46 (s45.sel (.cons Bn (.cons Bn (.cons Bn (.cons Ca Qw)))))
 refine Ci h38 (Cd (Ah ((decide (z10 = 5))) (fun h47 => ?_) fun h47 => ?_))
 refine Dk h47 (Gx rfl rfl (AfN _ (by omega) code hcode c iq11 hq11   (sq11.pick (.here)) fun r48 r48x1 r48x2 iq49 hq49 H lr48x1 lr48x2 hr48 sq49 => ?_))
 have kr48 := hr48
 obtain ⟨⟨oar48, obr48, ocr48⟩, wr48⟩ := kr48
 have gr48 := Md hr48
 refine An (o' := 5) rfl (Bi (cs' := [ss r5.fClient, si r5.fBorn, sb r5.fClean, si r5.fConn, si r5.fGen, si r48.fLast, r48x1, r48x2, r5x8]) sq49 Bn (Ac (Aa rfl (Aa lr48x1 (Aa lr48x2 rfl)))) rfl (Bb rfl) rfl fun H s50 => Ag s50 (.here) rfl (Bi (cs' := [ss r5.fClient, si r5.fBorn, sb r5.fClean, si r5.fConn, si r5.fGen, si r48.fLast, r48x1, r48x2, r5x8]) s50 S4 (Ac (Aa rfl (Aa rfl (Aa rfl (Aa rfl (Aa rfl (Aa rfl (Aa lr48x1 (Aa lr48x2 (Aa lr5x8 rfl)))))))))) rfl (Bb rfl) rfl fun H s51 => Ag s51 (.here) rfl ?_))
 have e52 : SessB 700 (⟨r5.fClient, r5.fBorn, r5.fClean, r5.fConn, r5.fGen, r48, r5.fIn⟩ : At) := by
  first | exact SessB.mono (by assumption) (by omega) | (refine Bc (k := 400) (m := 118) ?_ ?_ ?_ ?_ ?_ ?_ ?_ <;> first | assumption | (simp only [Ct]; omega) | (simp only [Iq]; omega) | exact OutB.mono (by assumption) (by omega) | exact ⟨by omega, by assumption⟩ | omega)
 exact hk (⟨r5.fClient, r5.fBorn, r5.fClean, r5.fConn, r5.fGen, r48, r5.fIn⟩ : At) r48x1 r48x2 r5x8 iq49 hq49 _ lr48x1 lr48x2 lr5x8 e52 (s51.sel (.cons Ca (.cons Ca (.cons Fu (.cons Ca zS4)))))
 refine Ci h47 (Cd (Ah ((decide (z10 = 6))) (fun h53 => ?_) fun h53 => ?_))
 refine Dk h53 (Gx rfl rfl (AfO _ (by omega) code hcode c iq11 hq11   (sq11.pick (.here)) fun r54 r54x iq55 hq55 H lr54x hr54 sq55 => ?_))
 obtain ⟨gr54, or54⟩ := hr54
 refine An (o' := 8) rfl (Cv sq55 Ca lr54x rfl fun H s56 => Ag s56 (.here) rfl (Bi (cs' := [ss r5.fClient, si r5.fBorn, sb r5.fClean, si r5.fConn, si r5.fGen, si r5.fO.fLast, r5x6, r5x7, r54x]) s56 Xq (Ac (Aa rfl (Aa rfl (Aa rfl (Aa rfl (Aa rfl (Aa rfl (Aa lr5x6 (Aa lr5x7 (Aa lr54x rfl)))))))))) rfl (Bb rfl) rfl fun H s57 => Ag s57 (.here) rfl ?_))
 have e58 : SessB 700 (⟨r5.fClient, r5.fBorn, r5.fClean, r5.fConn, r5.fGen, r5.fO, r54⟩ : At) := by
  first | exact SessB.mono (by assumption) (by omega) | (refine Bc (k := 400) (m := 118) ?_ ?_ ?_ ?_ ?_ ?_ ?_ <;> first | assumption | (simp only [Ct]; omega) | (simp only [Iq]; omega) | exact OutB.mono (by assumption) (by omega) | exact ⟨by omega, by assumption⟩ | omega)
 exact hk (⟨r5.fClient, r5.fBorn, r5.fClean, r5.fConn, r5.fGen, r5.fO, r54⟩ : At) r5x6 r5x7 r54x iq55 hq55 _ lr5x6 lr5x7 lr54x e58 (s57.sel (.cons F2 (.cons F2 (.cons Ca (.cons Ca It)))))
 refine Ci h53 (Ag sq11 Aw rfl (Bi (cs' := [ss r5.fClient, si r5.fBorn, sb r5.fClean, si r5.fConn, si r5.fGen, si r5.fO.fLast, r5x6, r5x7, r5x8]) sq11 Fu (Ac (Aa rfl (Aa rfl (Aa rfl (Aa rfl (Aa rfl (Aa rfl (Aa lr5x6 (Aa lr5x7 (Aa lr5x8 rfl)))))))))) rfl (Bb rfl) rfl fun H s59 => Ag s59 (.here) rfl ?_))
 have e60 : SessB 700 (r5 : At) := by
  first | exact SessB.mono (by assumption) (by omega) | (refine Bc (k := 400) (m := 118) ?_ ?_ ?_ ?_ ?_ ?_ ?_ <;> first | assumption | (simp only [Ct]; omega) | (simp only [Iq]; omega) | exact OutB.mono (by assumption) (by omega) | exact ⟨by omega, by assumption⟩ | omega)
 exact hk (r5 : At) r5x6 r5x7 r5x8 iq11 hq11 _ lr5x6 lr5x7 lr5x8 e60 (s59.sel (.cons Bn (.cons Bn (.cons Bn (.cons Aw Qw)))))
end
section
open Go
theorem AjW (n ty : Nat) (s : ByteArray) : C1 E0 (n + 1) ty 7 [Bt s] = some (.sc (.bool (decide ((1048576 : Int) < (s.size : Nat))))) := by
 rw [A6, AiD, f7]
 simp only [Te, Td]
 refine Do ?_
 rfl
theorem Ai4 {b : Nat} {s : At} {c : Bool} {cn g : Int} (h : SessB b s) (h3 : Ct cn) (h4 : Ct g) : SessB b (Gv s c cn g) := by
 unfold Gv
 split
 exact ⟨⟨h.1.1, h.1.2.1, h3, h4, h.1.2.2.2.2⟩, h.2⟩
 exact h
theorem AjR (n : Nat) (hn : 1048576 < n) (s : At) (c : Bool) (cn g : Int) (h : SessB 700 s) (h3 : Ct cn) (h4 : Ct g) : ∃ x, x = Gv s c cn g ∧ SessB 700 x ∧ C1 E0 (n + 12) 53 28 [.agg (Bq s), .sc (.bool c), .sc (.int .i64 cn), .sc (.int .i64 g)] = some (.agg (Bq x)) :=
 ⟨_, rfl, Ai4 h h3 h4, Y3 n hn s c cn g (h.ok (by decide)) trivial h3 h4 (zar h.wt (by decide))⟩
theorem Ais (n : Nat) (hn : 1048576 < n) (s : At) (h : SessB 700 s) : ∃ x, x = Ec s ∧ SessB 700 x ∧ C1 E0 (n + 12) 53 29 [.agg (Bq s)] = some (.agg (Bq x)) :=
 ⟨_, rfl, Aat h, Wi n hn s (h.ok (by decide)) (zar h.wt (by decide))⟩
theorem Akr (n : Nat) (hn : 1048576 < n) (c : ByteArray) (bo : Int) (cl : Bool) (cn g : Int) (hc : c.size ≤ 61) (h2 : Ct bo) (h3 : Ct cn) (h4 : Ct g) : ∃ x, SessB 61 x ∧ C1 E0 (n + 12) 53 31 [.sc (.string c), .sc (.int .i64 bo), .sc (.bool cl), .sc (.int .i64 cn), .sc (.int .i64 g)] = some (.agg (Bq x)) ∧ C1 E0 (n + 12) 53 33 [.sc (.string c), .sc (.int .i64 bo), .sc (.bool cl), .sc (.int .i64 cn), .sc (.int .i64 g)] = some (.agg (Bq x)) :=
 ⟨_, AgL hc (by decide) h2 h3 h4, Ta n hn c bo cl cn g (by unfold Iq; omega) h2 trivial h3 h4 (by omega), M9 n hn c bo cl cn g (by unfold Iq; omega) h2 trivial h3 h4 (by omega)⟩
section
variable {s x y : At} {c : Bool} {cn g : Int}
theorem Kc (ex : x = Gv s c cn g) (h : Cx s = true) : Cx x = true := by
 subst ex
 unfold Gv
 split
 rename_i hc
 rw [zak] at hc
 rw [Gq s c cn g h]
 exact hc.2
 exact h
theorem Uk (ey : y = Ec x) (h : Cx x = true) : Cx y = true := by
 subst ey
 unfold Ec
 split
 rename_i hc
 simp only [zak, Bool.not_eq_true'] at hc
 have h2 := Gq x x.fClean (-1) 0 h
 have h3 : ({ x with fClean := x.fClean, fConn := -1, fGen := 0 } : At) = { x with fConn := -1, fGen := 0 } := rfl
 rw [← h3, h2, hc.2]
 rfl
 exact h
theorem Sv (ex : x = Gv s c cn g) (h : Cx s = false) : x.fConn = s.fConn ∧ x.fGen = s.fGen := by
 subst ex
 unfold Gv
 rw [h]
 exact ⟨rfl, rfl⟩
theorem Np (ex : x = Gv s c cn g) : x.fBorn = s.fBorn ∧ x.fO = s.fO ∧ x.fIn = s.fIn := by
 subst ex
 unfold Gv
 split <;> exact ⟨rfl, rfl, rfl⟩
theorem Nn (ey : y = Ec x) : y.fBorn = x.fBorn ∧ y.fO = x.fO ∧ y.fIn = x.fIn := by
 subst ey
 unfold Ec
 split <;> exact ⟨rfl, rfl, rfl⟩
theorem Io (ex : x = Gv s c cn g) (ey : y = Ec x) : y.fBorn = s.fBorn := (Nn ey).1.trans (Np ex).1
theorem Lu (ex : x = Gv s c cn g) (ey : y = Ec x) : y.fO = s.fO := (Nn ey).2.1.trans (Np ex).2.1
theorem AgR (ex : x = Gv s c cn g) (ey : y = Ec x) : y.fIn = s.fIn := (Nn ey).2.2.trans (Np ex).2.2
theorem AgQ (ex : x = Gv s c cn g) (h : Cx s = true) (h1 : decide (0 ≤ cn) = true) (h2 : decide (cn ≤ 3) = true) (h3 : decide (0 ≤ g) = true) : x.fConn = cn ∧ x.fGen = g ∧ x.fClean = c := by
 have hp : Ie c cn g = true := by
  have := of_decide_eq_true h1
  have := of_decide_eq_true h2
  have := of_decide_eq_true h3
  unfold Ie Ga
  rw [if_neg (by rw [beq_iff_eq]; omega)]
  simp only [zak, decide_eq_true_eq]
  omega
 subst ex
 unfold Gv
 rw [h, hp]
 exact ⟨rfl, rfl, rfl⟩
theorem Oy (ex : x = Gv s c cn g) (h : Cx s = true) (h1 : decide (0 ≤ cn) = true) (h2 : decide (cn ≤ 3) = true) (h3 : decide (0 ≤ g) = true) : (decide (x.fConn = cn) && decide (x.fGen = g)) = true := by
 have := AgQ ex h h1 h2 h3
 rw [this.1, this.2.1]
 simp
theorem Ae3 (ex : x = Gv s c cn g) (h : Cx s = true) (h1 : decide (0 ≤ cn) = true) (h2 : decide (cn ≤ 3) = true) (h3 : decide (0 ≤ g) = true) : (x.fClean == c) = true := by
 rw [(AgQ ex h h1 h2 h3).2.2]
 simp
theorem D2 (ey : y = Ec x) (h : x.fClean = true) : y.fConn = x.fConn := by
 subst ey
 unfold Ec
 rw [h]
 simp
theorem Vl (ey : y = Ec x) (h : x.fClean = false) (hx : Cx x = true) : y.fConn = -1 := by
 subst ey
 unfold Ec
 rw [h, hx]
 rfl
end
theorem AbE (n : Nat) (hn : 1048576 < n) (s : At) (c : Int) (g : Int) : C1 E0 (n + 2) 4 35 [.agg (Bq s), .sc (.int .i64 c), .sc (.int .i64 g)] = some (.sc (.bool (decide (s.fConn = c) && decide (s.fGen = g)))) := by
 rw [A6, Ah0, f35]
 refine H0 (G := (· = some (sb (decide (s.fConn = c) && decide (s.fGen = g))))) ?_
 try simp only [Te, Td]
 have s0 : Sep [] [] := Hz
 refine N3 s0 (G1 (Hg _)) fun i1 H s2 => An (o' := 3) rfl (Bg (c := si s.fConn) s2 (.here) rfl (Cd (Ah ((decide (s.fConn = c))) (fun h3 => ?_) fun h3 => ?_)))
 ·refine Bd h3 (An (o' := 4) rfl (Bd h3 (Bg (c := si s.fGen) s2 (.here) rfl (Bd h3 (Bd h3 (Cd (Hh h3 (D5 rfl ?_))))))))
  first | rfl | (simp_all; done)
 ·refine Cb h3 (Cb h3 (Cb h3 (Cb h3 (Fq h3 (D5 rfl ?_)))))
  first | rfl | (simp_all; done)
theorem Ot (n : Nat) (hn : 1048576 < n) (a : List Int) (ha : a.length ≤ 1048576)   : ∀ (t pre : List Int) (m : Nat) (i : Int) (H : Ab), a = pre ++ t → i = ((pre.length : Nat) : Int) → t.length < m → Sep H [] → Gd (· = some (.sc (.bool true))) (Ni (PR (n + 2) AV) (n + 2) (fun x H => A4 Aq E0.tp 4 H x) m (Df a) (Df a) (.sc (.int .i64 i)) H)
 | [], pre, m + 1, i, H, he, hi, hm, s0 => by
  obtain rfl : a = pre := by simpa using he
  rw [Ni]
  try simp only [Te, Td]
  refine P6 (L8 (Ci (by simp [hi]) (D5 rfl ?_)))
  first | rfl | (simp_all; done)
 | y :: t, pre, m + 1, i, H, he, hi, hm, s0 => by
  have hlt : pre.length < a.length := by rw [he]; simp
  rw [Ni]
  try simp only [Te, Td]
  exact P6 (L8 (Dk (by simp [hi]; omega) (Ph hi he (Aap (c := .sc (.int .i64 y)) rfl (Ph hi he (Aap (c := .sc (.int .i64 y)) rfl (M5 (Ci (nF (decide_eq_true rfl)) (Hm (by omega) (by omega) (Ot n hn a ha   t (pre ++ [y]) m _ _ (by rw [he]; simp) (by rw [hi]; simp) (by simpa using hm) (by simpa only [za8, za0, zbv] using (s0.sel .nil))))))))))))
theorem AbR (n : Nat) (hn : 1048576 < n) (a : List Int) (ha : a.length ≤ 1048576) : C1 E0 (n + 3) 4 34 [Df a, Df a] = some (.sc (.bool true)) := by
 rw [A6, Ahz, f34]
 refine H0 (G := (· = some bT)) ?_
 try simp only [Te, Td]
 have s0 : Sep [] [] := Hz
 exact P6 (P6 (M5 (Ci (nF (decide_eq_true rfl)) (Ot n hn a ha   a [] _ 0 _ rfl rfl (by omega) s0))))
theorem AbQ (n : Nat) (hn : 1048576 < n) (a b : List Int) (e : a = b) (ha : a.length ≤ 1048576) : C1 E0 (n + 3) 4 34 [Df a, Df b] = some (.sc (.bool true)) := by
 subst e
 exact AbR n hn a ha
theorem AfQ (n : Nat) (hn : 1048576 < n) (code : ByteArray) (hcode : code.size ≤ 1048576) (c i : Nat) (h : Int)   {β : Type} {G : Option β → Prop} {KH : KO β} {H : Ab} {L : List Ck} (s0 : Sep H (Cr c code i h :: L)) (hk : ∀ (r0 : ByteArray) (i' : Nat) (h' : Int) (H' : Ab), (r0.size ≤ 61) → Sep H' (Cr c code i' h' :: L) → Gd G (KH (.sc (.string r0)) H')) : Gd G (Dd E0 (n + 5) β 81 [.ptr c 0] H fun x H => KH x H) := by
 rw [AhU, f81]
 try simp only [Te, Td]
 refine Az (cs := [sE, ss (⟨#[97]⟩), ss (⟨#[104, 101, 108, 108, 111]⟩), ss (⟨#[195, 169]⟩), ss (⟨#[226, 130, 172]⟩), ss (⟨#[240, 159, 152, 128]⟩), ss (⟨#[97, 47, 98]⟩), ss (⟨#[0]⟩), ss (⟨#[255]⟩), ss (⟨#[192, 128]⟩), ss (⟨#[237, 160, 128]⟩), ss (⟨#[226, 130]⟩), ss (⟨#[244, 144, 128, 128]⟩), ss (⟨#[49, 50, 51, 52, 53, 54, 55, 56, 57, 48, 49, 50, 51, 52, 53, 54, 55, 56, 57, 48, 49, 50, 51, 52, 53, 54, 55, 56, 57, 48, 49, 50, 51, 52, 53, 54, 55, 56, 57, 48, 49, 50, 51, 52, 53, 54, 55, 56, 57, 48, 49, 50, 51, 52, 53, 54, 55, 56, 57, 48]⟩), ss (⟨#[49, 50, 51, 52, 53, 54, 55, 56, 57, 48, 49, 50, 51, 52, 53, 54, 55, 56, 57, 48, 49, 50, 51, 52, 53, 54, 55, 56, 57, 48, 49, 50, 51, 52, 53, 54, 55, 56, 57, 48, 49, 50, 51, 52, 53, 54, 55, 56, 57, 48, 49, 50, 51, 52, 53, 54, 55, 56, 57, 48, 49]⟩), ss (⟨#[120, 223, 191, 121, 224, 160, 128]⟩)]) rfl (Au s0 fun i1 H s2 => AbX hcode (by omega) (by omega) rfl s2 Aw (.here) fun z3a iq4 hq4 H mz3 sq4 => ?_)
 have s5 := (sq4.pick Aw).tail
 obtain ⟨z3, rfl, hz3⟩ := Kw (l := [⟨#[]⟩, ⟨#[97]⟩, ⟨#[104, 101, 108, 108, 111]⟩, ⟨#[195, 169]⟩, ⟨#[226, 130, 172]⟩, ⟨#[240, 159, 152, 128]⟩, ⟨#[97, 47, 98]⟩, ⟨#[0]⟩, ⟨#[255]⟩, ⟨#[192, 128]⟩, ⟨#[237, 160, 128]⟩, ⟨#[226, 130]⟩, ⟨#[244, 144, 128, 128]⟩, ⟨#[49, 50, 51, 52, 53, 54, 55, 56, 57, 48, 49, 50, 51, 52, 53, 54, 55, 56, 57, 48, 49, 50, 51, 52, 53, 54, 55, 56, 57, 48, 49, 50, 51, 52, 53, 54, 55, 56, 57, 48, 49, 50, 51, 52, 53, 54, 55, 56, 57, 48, 49, 50, 51, 52, 53, 54, 55, 56, 57, 48]⟩, ⟨#[49, 50, 51, 52, 53, 54, 55, 56, 57, 48, 49, 50, 51, 52, 53, 54, 55, 56, 57, 48, 49, 50, 51, 52, 53, 54, 55, 56, 57, 48, 49, 50, 51, 52, 53, 54, 55, 56, 57, 48, 49, 50, 51, 52, 53, 54, 55, 56, 57, 48, 49, 50, 51, 52, 53, 54, 55, 56, 57, 48, 49]⟩, ⟨#[120, 223, 191, 121, 224, 160, 128]⟩]) (m := 61) mz3 (by decide)
 have e6 : z3.size ≤ 61 := by
  first | omega | (simp only [Af, Ad]; omega) | (simp; omega)
 exact hk z3 iq4 hq4 _ e6 (s5.sel (.cons (.here) .rest))
theorem AaQ (n : Nat) (hn : 1048576 < n) (code : ByteArray) (hcode : code.size ≤ 1048576)   {β : Type} {r : Option β} {KH : KO β} {H : Ab} {L : List Ck} (s0 : Sep H (L)) (hk : ∀ (r0 : At) (r0x6 : AV) (r0x7 : AV) (r0x8 : AV) (r1 : Bool) (r2 : Int) (r3 : Int) (H' : Ab), (Ap r0x6 = true) → (Ap r0x7 = true) → (Ap r0x8 = true) → (SessB 700 r0) → (-1 ≤ r2 ∧ r2 ≤ 4) → (-1 ≤ r3 ∧ r3 ≤ 7) → Sep H' (.own r0x6 24 (Am Ar r0.fO.fFl) :: .own r0x7 25 (Am Ao r0.fO.fQ) :: .own r0x8 39 (Df r0.fIn) :: L) → Gd (· = r) (KH (.tup [.agg [.sc (.string r0.fClient), .sc (.int .i64 r0.fBorn), .sc (.bool r0.fClean), .sc (.int .i64 r0.fConn), .sc (.int .i64 r0.fGen), .sc (.int .i64 r0.fO.fLast), r0x6, r0x7, r0x8], .sc (.bool r1), .sc (.int .i64 r2), .sc (.int .i64 r3)]) H')) : Gd (· = r) (Dd E0 (n + 22) β 27 [Bt code] H fun x H => KH x H) := by
 rw [Ahs, f27]
 try simp only [Te, Td]
 refine D1 s0 fun i1 H s2 => AjJ hcode (by omega) s2 fun c3 hq4 H sq4 => Gx rfl rfl (AfP _ (by omega) code hcode c3 0 hq4   (sq4.pick (.here)) fun r5 r5x6 r5x7 r5x8 iq6 hq6 H lr5x6 lr5x7 lr5x8 hr5 sq6 => ?_)
 have kr5 := hr5
 obtain ⟨⟨oar5, obr5, ocr5, odr5, oer5, ofr5⟩, wr5⟩ := kr5
 have gr5 := My hr5
 refine D1 sq6 fun i7 H s8 => Bi (cs' := [ss r5.fClient, si r5.fBorn, sb r5.fClean, si r5.fConn, si r5.fGen, si r5.fO.fLast, r5x6, r5x7, r5x8]) s8 (.here) (Ac (Aa rfl (Aa rfl (Aa rfl (Aa rfl (Aa rfl (Aa rfl (Aa lr5x6 (Aa lr5x7 (Aa lr5x8 rfl)))))))))) rfl (Bb rfl) rfl fun H s9 => Gd.bothE ?_ ?_
 refine Ag s9 (.here) rfl (Gd.bothE ?_ ?_)
 refine F4 hcode (by omega) s9 F2 fun b10 iq11 hq11 H sq11 => Gd.bothE ?_ ?_
 refine Az (cs := [i0, si 1, si 2, si 3, si 4, si (-1)]) rfl (Au sq11 fun i12 H s13 => Gd.bothE ?_ ?_)
 refine Bo hcode (by omega) (by omega) rfl s13 Aw (.here) fun z14a iq15 hq15 H mz14 sq15 => ?_
 have s16 := (sq15.pick Aw).tail
 obtain ⟨z14, rfl, hz14⟩ := Ae (l := [0, 1, 2, 3, 4, (-1)]) (lo := -1) (hi := 4) mz14 (by decide)
 refine Az (cs := [i0, si 1, si 2, si 7, si (-1)]) rfl (Au s16 fun i17 H s18 => Bo hcode (by omega) (by omega) rfl s18 Aw (.here) fun z19a iq20 hq20 H mz19 sq20 => ?_)
 have s21 := (sq20.pick Aw).tail
 obtain ⟨z19, rfl, hz19⟩ := Ae (l := [0, 1, 2, 7, (-1)]) (lo := -1) (hi := 7) mz19 (by decide)
 refine Bi (cs' := [ss r5.fClient, si r5.fBorn, sb r5.fClean, si r5.fConn, si r5.fGen, si r5.fO.fLast, r5x6, r5x7, r5x8]) s21 Fu (Ac (Aa rfl (Aa rfl (Aa rfl (Aa rfl (Aa rfl (Aa rfl (Aa lr5x6 (Aa lr5x7 (Aa lr5x8 rfl)))))))))) rfl (Bb rfl) rfl fun H s22 => Ag s22 (.here) rfl ?_
 have e23 : SessB 700 (r5 : At) := by
  first | assumption | exact hinv | (apply Bc <;> first | assumption | omega | (unfold Ct; omega) | (intro z hz; cases hz; done))
 have e24 : -1 ≤ z14 ∧ z14 ≤ 4 := by
  first | omega | (simp only [Af, Ad]; omega) | (simp; omega)
 have e25 : -1 ≤ z19 ∧ z19 ≤ 7 := by
  first | omega | (simp only [Af, Ad]; omega) | (simp; omega)
 exact hk (r5 : At) r5x6 r5x7 r5x8 b10 z14 z19 _ lr5x6 lr5x7 lr5x8 e23 e24 e25 (s22.sel (.cons Bn (.cons Bn (.cons Bn It))))
 refine Az (cs := [i0, si 1, si 2, si 7, si (-1)]) rfl (Au s13 fun i26 H s27 => Bo hcode (by omega) (by omega) rfl s27 Ca Aw fun z28a iq29 hq29 H mz28 sq29 => ?_)
 have s30 := (sq29.pick Ca).tail
 obtain ⟨z28, rfl, hz28⟩ := Ae (l := [0, 1, 2, 3, 4, (-1)]) (lo := -1) (hi := 4) mz28 (by decide)
 refine Bo hcode (by omega) (by omega) rfl s30 (.here) (.here) fun z31a iq32 hq32 H mz31 sq32 => ?_
 have s33 := (sq32.pick Aw).tail
 obtain ⟨z31, rfl, hz31⟩ := Ae (l := [0, 1, 2, 7, (-1)]) (lo := -1) (hi := 7) mz31 (by decide)
 refine Bi (cs' := [ss r5.fClient, si r5.fBorn, sb r5.fClean, si r5.fConn, si r5.fGen, si r5.fO.fLast, r5x6, r5x7, r5x8]) s33 Fu (Ac (Aa rfl (Aa rfl (Aa rfl (Aa rfl (Aa rfl (Aa rfl (Aa lr5x6 (Aa lr5x7 (Aa lr5x8 rfl)))))))))) rfl (Bb rfl) rfl fun H s34 => Ag s34 (.here) rfl ?_
 have e35 : SessB 700 (r5 : At) := by
  first | assumption | exact hinv | (apply Bc <;> first | assumption | omega | (unfold Ct; omega) | (intro z hz; cases hz; done))
 have e36 : -1 ≤ z28 ∧ z28 ≤ 4 := by
  first | omega | (simp only [Af, Ad]; omega) | (simp; omega)
 have e37 : -1 ≤ z31 ∧ z31 ≤ 7 := by
  first | omega | (simp only [Af, Ad]; omega) | (simp; omega)
 exact hk (r5 : At) r5x6 r5x7 r5x8 b10 z28 z31 _ lr5x6 lr5x7 lr5x8 e35 e36 e37 (s34.sel (.cons Bn (.cons Bn (.cons Bn It))))
 refine Az (cs := [i0, si 1, si 2, si 7, si (-1)]) rfl (Au sq11 fun i38 H s39 => Az (cs := [i0, si 1, si 2, si 3, si 4, si (-1)]) rfl (Au s39 fun i40 H s41 => Bo hcode (by omega) (by omega) rfl s41 Ca (.here) fun z42a iq43 hq43 H mz42 sq43 => ?_))
 have s44 := (sq43.pick Aw).tail
 obtain ⟨z42, rfl, hz42⟩ := Ae (l := [0, 1, 2, 3, 4, (-1)]) (lo := -1) (hi := 4) mz42 (by decide)
 refine Bo hcode (by omega) (by omega) rfl s44 (.here) (.here) fun z45a iq46 hq46 H mz45 sq46 => ?_
 have s47 := (sq46.pick Aw).tail
 obtain ⟨z45, rfl, hz45⟩ := Ae (l := [0, 1, 2, 7, (-1)]) (lo := -1) (hi := 7) mz45 (by decide)
 refine Bi (cs' := [ss r5.fClient, si r5.fBorn, sb r5.fClean, si r5.fConn, si r5.fGen, si r5.fO.fLast, r5x6, r5x7, r5x8]) s47 Fu (Ac (Aa rfl (Aa rfl (Aa rfl (Aa rfl (Aa rfl (Aa rfl (Aa lr5x6 (Aa lr5x7 (Aa lr5x8 rfl)))))))))) rfl (Bb rfl) rfl fun H s48 => Ag s48 (.here) rfl ?_
 have e49 : SessB 700 (r5 : At) := by
  first | assumption | exact hinv | (apply Bc <;> first | assumption | omega | (unfold Ct; omega) | (intro z hz; cases hz; done))
 have e50 : -1 ≤ z42 ∧ z42 ≤ 4 := by
  first | omega | (simp only [Af, Ad]; omega) | (simp; omega)
 have e51 : -1 ≤ z45 ∧ z45 ≤ 7 := by
  first | omega | (simp only [Af, Ad]; omega) | (simp; omega)
 exact hk (r5 : At) r5x6 r5x7 r5x8 b10 z42 z45 _ lr5x6 lr5x7 lr5x8 e49 e50 e51 (s48.sel (.cons Bn (.cons Bn (.cons Bn It))))
 refine Gd.bothE ?_ ?_
 refine Az (cs := [i0, si 1, si 2, si 3, si 4, si (-1)]) rfl (Au s9 fun i52 H s53 => Gd.bothE ?_ ?_)
 refine F4 hcode (by omega) s53 Fu fun b54 iq55 hq55 H sq55 => Gd.bothE ?_ ?_
 refine Bo hcode (by omega) (by omega) rfl sq55 (.here) (.here) fun z56a iq57 hq57 H mz56 sq57 => ?_
 have s58 := (sq57.pick Aw).tail
 obtain ⟨z56, rfl, hz56⟩ := Ae (l := [0, 1, 2, 3, 4, (-1)]) (lo := -1) (hi := 4) mz56 (by decide)
 refine Az (cs := [i0, si 1, si 2, si 7, si (-1)]) rfl (Au s58 fun i59 H s60 => Bo hcode (by omega) (by omega) rfl s60 Aw (.here) fun z61a iq62 hq62 H mz61 sq62 => ?_)
 have s63 := (sq62.pick Aw).tail
 obtain ⟨z61, rfl, hz61⟩ := Ae (l := [0, 1, 2, 7, (-1)]) (lo := -1) (hi := 7) mz61 (by decide)
 refine Bi (cs' := [ss r5.fClient, si r5.fBorn, sb r5.fClean, si r5.fConn, si r5.fGen, si r5.fO.fLast, r5x6, r5x7, r5x8]) s63 Fu (Ac (Aa rfl (Aa rfl (Aa rfl (Aa rfl (Aa rfl (Aa rfl (Aa lr5x6 (Aa lr5x7 (Aa lr5x8 rfl)))))))))) rfl (Bb rfl) rfl fun H s64 => Ag s64 (.here) rfl ?_
 have e65 : SessB 700 (r5 : At) := by
  first | assumption | exact hinv | (apply Bc <;> first | assumption | omega | (unfold Ct; omega) | (intro z hz; cases hz; done))
 have e66 : -1 ≤ z56 ∧ z56 ≤ 4 := by
  first | omega | (simp only [Af, Ad]; omega) | (simp; omega)
 have e67 : -1 ≤ z61 ∧ z61 ≤ 7 := by
  first | omega | (simp only [Af, Ad]; omega) | (simp; omega)
 exact hk (r5 : At) r5x6 r5x7 r5x8 b54 z56 z61 _ lr5x6 lr5x7 lr5x8 e65 e66 e67 (s64.sel (.cons Bn (.cons Bn (.cons Bn It))))
 refine Az (cs := [i0, si 1, si 2, si 7, si (-1)]) rfl (Au sq55 fun i68 H s69 => Bo hcode (by omega) (by omega) rfl s69 Aw Aw fun z70a iq71 hq71 H mz70 sq71 => ?_)
 have s72 := (sq71.pick Ca).tail
 obtain ⟨z70, rfl, hz70⟩ := Ae (l := [0, 1, 2, 3, 4, (-1)]) (lo := -1) (hi := 4) mz70 (by decide)
 refine Bo hcode (by omega) (by omega) rfl s72 (.here) (.here) fun z73a iq74 hq74 H mz73 sq74 => ?_
 have s75 := (sq74.pick Aw).tail
 obtain ⟨z73, rfl, hz73⟩ := Ae (l := [0, 1, 2, 7, (-1)]) (lo := -1) (hi := 7) mz73 (by decide)
 refine Bi (cs' := [ss r5.fClient, si r5.fBorn, sb r5.fClean, si r5.fConn, si r5.fGen, si r5.fO.fLast, r5x6, r5x7, r5x8]) s75 Fu (Ac (Aa rfl (Aa rfl (Aa rfl (Aa rfl (Aa rfl (Aa rfl (Aa lr5x6 (Aa lr5x7 (Aa lr5x8 rfl)))))))))) rfl (Bb rfl) rfl fun H s76 => Ag s76 (.here) rfl ?_
 have e77 : SessB 700 (r5 : At) := by
  first | assumption | exact hinv | (apply Bc <;> first | assumption | omega | (unfold Ct; omega) | (intro z hz; cases hz; done))
 have e78 : -1 ≤ z70 ∧ z70 ≤ 4 := by
  first | omega | (simp only [Af, Ad]; omega) | (simp; omega)
 have e79 : -1 ≤ z73 ∧ z73 ≤ 7 := by
  first | omega | (simp only [Af, Ad]; omega) | (simp; omega)
 exact hk (r5 : At) r5x6 r5x7 r5x8 b54 z70 z73 _ lr5x6 lr5x7 lr5x8 e77 e78 e79 (s76.sel (.cons Bn (.cons Bn (.cons Bn It))))
 refine Az (cs := [i0, si 1, si 2, si 7, si (-1)]) rfl (Au s53 fun i80 H s81 => F4 hcode (by omega) s81 Xq fun b82 iq83 hq83 H sq83 => Bo hcode (by omega) (by omega) rfl sq83 (.here) Aw fun z84a iq85 hq85 H mz84 sq85 => ?_)
 have s86 := (sq85.pick Ca).tail
 obtain ⟨z84, rfl, hz84⟩ := Ae (l := [0, 1, 2, 3, 4, (-1)]) (lo := -1) (hi := 4) mz84 (by decide)
 refine Bo hcode (by omega) (by omega) rfl s86 (.here) (.here) fun z87a iq88 hq88 H mz87 sq88 => ?_
 have s89 := (sq88.pick Aw).tail
 obtain ⟨z87, rfl, hz87⟩ := Ae (l := [0, 1, 2, 7, (-1)]) (lo := -1) (hi := 7) mz87 (by decide)
 refine Bi (cs' := [ss r5.fClient, si r5.fBorn, sb r5.fClean, si r5.fConn, si r5.fGen, si r5.fO.fLast, r5x6, r5x7, r5x8]) s89 Fu (Ac (Aa rfl (Aa rfl (Aa rfl (Aa rfl (Aa rfl (Aa rfl (Aa lr5x6 (Aa lr5x7 (Aa lr5x8 rfl)))))))))) rfl (Bb rfl) rfl fun H s90 => Ag s90 (.here) rfl ?_
 have e91 : SessB 700 (r5 : At) := by
  first | assumption | exact hinv | (apply Bc <;> first | assumption | omega | (unfold Ct; omega) | (intro z hz; cases hz; done))
 have e92 : -1 ≤ z84 ∧ z84 ≤ 4 := by
  first | omega | (simp only [Af, Ad]; omega) | (simp; omega)
 have e93 : -1 ≤ z87 ∧ z87 ≤ 7 := by
  first | omega | (simp only [Af, Ad]; omega) | (simp; omega)
 exact hk (r5 : At) r5x6 r5x7 r5x8 b82 z84 z87 _ lr5x6 lr5x7 lr5x8 e91 e92 e93 (s90.sel (.cons Bn (.cons Bn (.cons Bn It))))
 refine Az (cs := [i0, si 1, si 2, si 7, si (-1)]) rfl (Au s9 fun i94 H s95 => Gd.bothE ?_ ?_)
 refine F4 hcode (by omega) s95 Fu fun b96 iq97 hq97 H sq97 => Az (cs := [i0, si 1, si 2, si 3, si 4, si (-1)]) rfl (Au sq97 fun i98 H s99 => Bo hcode (by omega) (by omega) rfl s99 Aw (.here) fun z100a iq101 hq101 H mz100 sq101 => ?_)
 have s102 := (sq101.pick Aw).tail
 obtain ⟨z100, rfl, hz100⟩ := Ae (l := [0, 1, 2, 3, 4, (-1)]) (lo := -1) (hi := 4) mz100 (by decide)
 refine Bo hcode (by omega) (by omega) rfl s102 (.here) (.here) fun z103a iq104 hq104 H mz103 sq104 => ?_
 have s105 := (sq104.pick Aw).tail
 obtain ⟨z103, rfl, hz103⟩ := Ae (l := [0, 1, 2, 7, (-1)]) (lo := -1) (hi := 7) mz103 (by decide)
 refine Bi (cs' := [ss r5.fClient, si r5.fBorn, sb r5.fClean, si r5.fConn, si r5.fGen, si r5.fO.fLast, r5x6, r5x7, r5x8]) s105 Fu (Ac (Aa rfl (Aa rfl (Aa rfl (Aa rfl (Aa rfl (Aa rfl (Aa lr5x6 (Aa lr5x7 (Aa lr5x8 rfl)))))))))) rfl (Bb rfl) rfl fun H s106 => Ag s106 (.here) rfl ?_
 have e107 : SessB 700 (r5 : At) := by
  first | assumption | exact hinv | (apply Bc <;> first | assumption | omega | (unfold Ct; omega) | (intro z hz; cases hz; done))
 have e108 : -1 ≤ z100 ∧ z100 ≤ 4 := by
  first | omega | (simp only [Af, Ad]; omega) | (simp; omega)
 have e109 : -1 ≤ z103 ∧ z103 ≤ 7 := by
  first | omega | (simp only [Af, Ad]; omega) | (simp; omega)
 exact hk (r5 : At) r5x6 r5x7 r5x8 b96 z100 z103 _ lr5x6 lr5x7 lr5x8 e107 e108 e109 (s106.sel (.cons Bn (.cons Bn (.cons Bn It))))
 refine Az (cs := [i0, si 1, si 2, si 3, si 4, si (-1)]) rfl (Au s95 fun i110 H s111 => F4 hcode (by omega) s111 Xq fun b112 iq113 hq113 H sq113 => Bo hcode (by omega) (by omega) rfl sq113 (.here) (.here) fun z114a iq115 hq115 H mz114 sq115 => ?_)
 have s116 := (sq115.pick Aw).tail
 obtain ⟨z114, rfl, hz114⟩ := Ae (l := [0, 1, 2, 3, 4, (-1)]) (lo := -1) (hi := 4) mz114 (by decide)
 refine Bo hcode (by omega) (by omega) rfl s116 (.here) (.here) fun z117a iq118 hq118 H mz117 sq118 => ?_
 have s119 := (sq118.pick Aw).tail
 obtain ⟨z117, rfl, hz117⟩ := Ae (l := [0, 1, 2, 7, (-1)]) (lo := -1) (hi := 7) mz117 (by decide)
 refine Bi (cs' := [ss r5.fClient, si r5.fBorn, sb r5.fClean, si r5.fConn, si r5.fGen, si r5.fO.fLast, r5x6, r5x7, r5x8]) s119 Fu (Ac (Aa rfl (Aa rfl (Aa rfl (Aa rfl (Aa rfl (Aa rfl (Aa lr5x6 (Aa lr5x7 (Aa lr5x8 rfl)))))))))) rfl (Bb rfl) rfl fun H s120 => Ag s120 (.here) rfl ?_
 have e121 : SessB 700 (r5 : At) := by
  first | assumption | exact hinv | (apply Bc <;> first | assumption | omega | (unfold Ct; omega) | (intro z hz; cases hz; done))
 have e122 : -1 ≤ z114 ∧ z114 ≤ 4 := by
  first | omega | (simp only [Af, Ad]; omega) | (simp; omega)
 have e123 : -1 ≤ z117 ∧ z117 ≤ 7 := by
  first | omega | (simp only [Af, Ad]; omega) | (simp; omega)
 exact hk (r5 : At) r5x6 r5x7 r5x8 b112 z114 z117 _ lr5x6 lr5x7 lr5x8 e121 e122 e123 (s120.sel (.cons Bn (.cons Bn (.cons Bn It))))
 refine Gd.bothE ?_ ?_
 refine F4 hcode (by omega) s9 F2 fun b124 iq125 hq125 H sq125 => Gd.bothE ?_ ?_
 refine Ag sq125 Aw rfl (Gd.bothE ?_ ?_)
 refine Az (cs := [i0, si 1, si 2, si 3, si 4, si (-1)]) rfl (Au sq125 fun i126 H s127 => Gd.bothE ?_ ?_)
 refine Bo hcode (by omega) (by omega) rfl s127 Aw (.here) fun z128a iq129 hq129 H mz128 sq129 => ?_
 have s130 := (sq129.pick Aw).tail
 obtain ⟨z128, rfl, hz128⟩ := Ae (l := [0, 1, 2, 3, 4, (-1)]) (lo := -1) (hi := 4) mz128 (by decide)
 refine Az (cs := [i0, si 1, si 2, si 7, si (-1)]) rfl (Au s130 fun i131 H s132 => Bo hcode (by omega) (by omega) rfl s132 Aw (.here) fun z133a iq134 hq134 H mz133 sq134 => ?_)
 have s135 := (sq134.pick Aw).tail
 obtain ⟨z133, rfl, hz133⟩ := Ae (l := [0, 1, 2, 7, (-1)]) (lo := -1) (hi := 7) mz133 (by decide)
 refine Bi (cs' := [ss r5.fClient, si r5.fBorn, sb r5.fClean, si r5.fConn, si r5.fGen, si r5.fO.fLast, r5x6, r5x7, r5x8]) s135 Fu (Ac (Aa rfl (Aa rfl (Aa rfl (Aa rfl (Aa rfl (Aa rfl (Aa lr5x6 (Aa lr5x7 (Aa lr5x8 rfl)))))))))) rfl (Bb rfl) rfl fun H s136 => Ag s136 (.here) rfl ?_
 have e137 : SessB 700 (r5 : At) := by
  first | assumption | exact hinv | (apply Bc <;> first | assumption | omega | (unfold Ct; omega) | (intro z hz; cases hz; done))
 have e138 : -1 ≤ z128 ∧ z128 ≤ 4 := by
  first | omega | (simp only [Af, Ad]; omega) | (simp; omega)
 have e139 : -1 ≤ z133 ∧ z133 ≤ 7 := by
  first | omega | (simp only [Af, Ad]; omega) | (simp; omega)
 exact hk (r5 : At) r5x6 r5x7 r5x8 b124 z128 z133 _ lr5x6 lr5x7 lr5x8 e137 e138 e139 (s136.sel (.cons Bn (.cons Bn (.cons Bn It))))
 refine Az (cs := [i0, si 1, si 2, si 7, si (-1)]) rfl (Au s127 fun i140 H s141 => Bo hcode (by omega) (by omega) rfl s141 Ca Aw fun z142a iq143 hq143 H mz142 sq143 => ?_)
 have s144 := (sq143.pick Ca).tail
 obtain ⟨z142, rfl, hz142⟩ := Ae (l := [0, 1, 2, 3, 4, (-1)]) (lo := -1) (hi := 4) mz142 (by decide)
 refine Bo hcode (by omega) (by omega) rfl s144 (.here) (.here) fun z145a iq146 hq146 H mz145 sq146 => ?_
 have s147 := (sq146.pick Aw).tail
 obtain ⟨z145, rfl, hz145⟩ := Ae (l := [0, 1, 2, 7, (-1)]) (lo := -1) (hi := 7) mz145 (by decide)
 refine Bi (cs' := [ss r5.fClient, si r5.fBorn, sb r5.fClean, si r5.fConn, si r5.fGen, si r5.fO.fLast, r5x6, r5x7, r5x8]) s147 Fu (Ac (Aa rfl (Aa rfl (Aa rfl (Aa rfl (Aa rfl (Aa rfl (Aa lr5x6 (Aa lr5x7 (Aa lr5x8 rfl)))))))))) rfl (Bb rfl) rfl fun H s148 => Ag s148 (.here) rfl ?_
 have e149 : SessB 700 (r5 : At) := by
  first | assumption | exact hinv | (apply Bc <;> first | assumption | omega | (unfold Ct; omega) | (intro z hz; cases hz; done))
 have e150 : -1 ≤ z142 ∧ z142 ≤ 4 := by
  first | omega | (simp only [Af, Ad]; omega) | (simp; omega)
 have e151 : -1 ≤ z145 ∧ z145 ≤ 7 := by
  first | omega | (simp only [Af, Ad]; omega) | (simp; omega)
 exact hk (r5 : At) r5x6 r5x7 r5x8 b124 z142 z145 _ lr5x6 lr5x7 lr5x8 e149 e150 e151 (s148.sel (.cons Bn (.cons Bn (.cons Bn It))))
 refine Az (cs := [i0, si 1, si 2, si 7, si (-1)]) rfl (Au sq125 fun i152 H s153 => Az (cs := [i0, si 1, si 2, si 3, si 4, si (-1)]) rfl (Au s153 fun i154 H s155 => Bo hcode (by omega) (by omega) rfl s155 Ca (.here) fun z156a iq157 hq157 H mz156 sq157 => ?_))
 have s158 := (sq157.pick Aw).tail
 obtain ⟨z156, rfl, hz156⟩ := Ae (l := [0, 1, 2, 3, 4, (-1)]) (lo := -1) (hi := 4) mz156 (by decide)
 refine Bo hcode (by omega) (by omega) rfl s158 (.here) (.here) fun z159a iq160 hq160 H mz159 sq160 => ?_
 have s161 := (sq160.pick Aw).tail
 obtain ⟨z159, rfl, hz159⟩ := Ae (l := [0, 1, 2, 7, (-1)]) (lo := -1) (hi := 7) mz159 (by decide)
 refine Bi (cs' := [ss r5.fClient, si r5.fBorn, sb r5.fClean, si r5.fConn, si r5.fGen, si r5.fO.fLast, r5x6, r5x7, r5x8]) s161 Fu (Ac (Aa rfl (Aa rfl (Aa rfl (Aa rfl (Aa rfl (Aa rfl (Aa lr5x6 (Aa lr5x7 (Aa lr5x8 rfl)))))))))) rfl (Bb rfl) rfl fun H s162 => Ag s162 (.here) rfl ?_
 have e163 : SessB 700 (r5 : At) := by
  first | assumption | exact hinv | (apply Bc <;> first | assumption | omega | (unfold Ct; omega) | (intro z hz; cases hz; done))
 have e164 : -1 ≤ z156 ∧ z156 ≤ 4 := by
  first | omega | (simp only [Af, Ad]; omega) | (simp; omega)
 have e165 : -1 ≤ z159 ∧ z159 ≤ 7 := by
  first | omega | (simp only [Af, Ad]; omega) | (simp; omega)
 exact hk (r5 : At) r5x6 r5x7 r5x8 b124 z156 z159 _ lr5x6 lr5x7 lr5x8 e163 e164 e165 (s162.sel (.cons Bn (.cons Bn (.cons Bn It))))
 refine Gd.bothE ?_ ?_
 refine Az (cs := [i0, si 1, si 2, si 3, si 4, si (-1)]) rfl (Au sq125 fun i166 H s167 => Gd.bothE ?_ ?_)
 refine Ag s167 Ca rfl (Gd.bothE ?_ ?_)
 refine Bo hcode (by omega) (by omega) rfl s167 Aw (.here) fun z168a iq169 hq169 H mz168 sq169 => ?_
 have s170 := (sq169.pick Aw).tail
 obtain ⟨z168, rfl, hz168⟩ := Ae (l := [0, 1, 2, 3, 4, (-1)]) (lo := -1) (hi := 4) mz168 (by decide)
 refine Az (cs := [i0, si 1, si 2, si 7, si (-1)]) rfl (Au s170 fun i171 H s172 => Bo hcode (by omega) (by omega) rfl s172 Aw (.here) fun z173a iq174 hq174 H mz173 sq174 => ?_)
 have s175 := (sq174.pick Aw).tail
 obtain ⟨z173, rfl, hz173⟩ := Ae (l := [0, 1, 2, 7, (-1)]) (lo := -1) (hi := 7) mz173 (by decide)
 refine Bi (cs' := [ss r5.fClient, si r5.fBorn, sb r5.fClean, si r5.fConn, si r5.fGen, si r5.fO.fLast, r5x6, r5x7, r5x8]) s175 Fu (Ac (Aa rfl (Aa rfl (Aa rfl (Aa rfl (Aa rfl (Aa rfl (Aa lr5x6 (Aa lr5x7 (Aa lr5x8 rfl)))))))))) rfl (Bb rfl) rfl fun H s176 => Ag s176 (.here) rfl ?_
 have e177 : SessB 700 (r5 : At) := by
  first | assumption | exact hinv | (apply Bc <;> first | assumption | omega | (unfold Ct; omega) | (intro z hz; cases hz; done))
 have e178 : -1 ≤ z168 ∧ z168 ≤ 4 := by
  first | omega | (simp only [Af, Ad]; omega) | (simp; omega)
 have e179 : -1 ≤ z173 ∧ z173 ≤ 7 := by
  first | omega | (simp only [Af, Ad]; omega) | (simp; omega)
 exact hk (r5 : At) r5x6 r5x7 r5x8 b124 z168 z173 _ lr5x6 lr5x7 lr5x8 e177 e178 e179 (s176.sel (.cons Bn (.cons Bn (.cons Bn It))))
 refine Az (cs := [i0, si 1, si 2, si 7, si (-1)]) rfl (Au s167 fun i180 H s181 => Bo hcode (by omega) (by omega) rfl s181 Ca Aw fun z182a iq183 hq183 H mz182 sq183 => ?_)
 have s184 := (sq183.pick Ca).tail
 obtain ⟨z182, rfl, hz182⟩ := Ae (l := [0, 1, 2, 3, 4, (-1)]) (lo := -1) (hi := 4) mz182 (by decide)
 refine Bo hcode (by omega) (by omega) rfl s184 (.here) (.here) fun z185a iq186 hq186 H mz185 sq186 => ?_
 have s187 := (sq186.pick Aw).tail
 obtain ⟨z185, rfl, hz185⟩ := Ae (l := [0, 1, 2, 7, (-1)]) (lo := -1) (hi := 7) mz185 (by decide)
 refine Bi (cs' := [ss r5.fClient, si r5.fBorn, sb r5.fClean, si r5.fConn, si r5.fGen, si r5.fO.fLast, r5x6, r5x7, r5x8]) s187 Fu (Ac (Aa rfl (Aa rfl (Aa rfl (Aa rfl (Aa rfl (Aa rfl (Aa lr5x6 (Aa lr5x7 (Aa lr5x8 rfl)))))))))) rfl (Bb rfl) rfl fun H s188 => Ag s188 (.here) rfl ?_
 have e189 : SessB 700 (r5 : At) := by
  first | assumption | exact hinv | (apply Bc <;> first | assumption | omega | (unfold Ct; omega) | (intro z hz; cases hz; done))
 have e190 : -1 ≤ z182 ∧ z182 ≤ 4 := by
  first | omega | (simp only [Af, Ad]; omega) | (simp; omega)
 have e191 : -1 ≤ z185 ∧ z185 ≤ 7 := by
  first | omega | (simp only [Af, Ad]; omega) | (simp; omega)
 exact hk (r5 : At) r5x6 r5x7 r5x8 b124 z182 z185 _ lr5x6 lr5x7 lr5x8 e189 e190 e191 (s188.sel (.cons Bn (.cons Bn (.cons Bn It))))
 refine Gd.bothE ?_ ?_
 refine Bo hcode (by omega) (by omega) rfl s167 Aw (.here) fun z192a iq193 hq193 H mz192 sq193 => ?_
 have s194 := (sq193.pick Aw).tail
 obtain ⟨z192, rfl, hz192⟩ := Ae (l := [0, 1, 2, 3, 4, (-1)]) (lo := -1) (hi := 4) mz192 (by decide)
 refine Gd.bothE ?_ ?_
 refine Ag s194 Aw rfl (Az (cs := [i0, si 1, si 2, si 7, si (-1)]) rfl (Au s194 fun i195 H s196 => Bo hcode (by omega) (by omega) rfl s196 Aw (.here) fun z197a iq198 hq198 H mz197 sq198 => ?_))
 have s199 := (sq198.pick Aw).tail
 obtain ⟨z197, rfl, hz197⟩ := Ae (l := [0, 1, 2, 7, (-1)]) (lo := -1) (hi := 7) mz197 (by decide)
 refine Bi (cs' := [ss r5.fClient, si r5.fBorn, sb r5.fClean, si r5.fConn, si r5.fGen, si r5.fO.fLast, r5x6, r5x7, r5x8]) s199 Fu (Ac (Aa rfl (Aa rfl (Aa rfl (Aa rfl (Aa rfl (Aa rfl (Aa lr5x6 (Aa lr5x7 (Aa lr5x8 rfl)))))))))) rfl (Bb rfl) rfl fun H s200 => Ag s200 (.here) rfl ?_
 have e201 : SessB 700 (r5 : At) := by
  first | assumption | exact hinv | (apply Bc <;> first | assumption | omega | (unfold Ct; omega) | (intro z hz; cases hz; done))
 have e202 : -1 ≤ z192 ∧ z192 ≤ 4 := by
  first | omega | (simp only [Af, Ad]; omega) | (simp; omega)
 have e203 : -1 ≤ z197 ∧ z197 ≤ 7 := by
  first | omega | (simp only [Af, Ad]; omega) | (simp; omega)
 exact hk (r5 : At) r5x6 r5x7 r5x8 b124 z192 z197 _ lr5x6 lr5x7 lr5x8 e201 e202 e203 (s200.sel (.cons Bn (.cons Bn (.cons Bn It))))
 refine Az (cs := [i0, si 1, si 2, si 7, si (-1)]) rfl (Au s194 fun i204 H s205 => Gd.bothE ?_ ?_)
 refine Ag s205 Ca rfl (Bo hcode (by omega) (by omega) rfl s205 Aw (.here) fun z206a iq207 hq207 H mz206 sq207 => ?_)
 have s208 := (sq207.pick Aw).tail
 obtain ⟨z206, rfl, hz206⟩ := Ae (l := [0, 1, 2, 7, (-1)]) (lo := -1) (hi := 7) mz206 (by decide)
 refine Bi (cs' := [ss r5.fClient, si r5.fBorn, sb r5.fClean, si r5.fConn, si r5.fGen, si r5.fO.fLast, r5x6, r5x7, r5x8]) s208 Fu (Ac (Aa rfl (Aa rfl (Aa rfl (Aa rfl (Aa rfl (Aa rfl (Aa lr5x6 (Aa lr5x7 (Aa lr5x8 rfl)))))))))) rfl (Bb rfl) rfl fun H s209 => Ag s209 (.here) rfl ?_
 have e210 : SessB 700 (r5 : At) := by
  first | assumption | exact hinv | (apply Bc <;> first | assumption | omega | (unfold Ct; omega) | (intro z hz; cases hz; done))
 have e211 : -1 ≤ z192 ∧ z192 ≤ 4 := by
  first | omega | (simp only [Af, Ad]; omega) | (simp; omega)
 have e212 : -1 ≤ z206 ∧ z206 ≤ 7 := by
  first | omega | (simp only [Af, Ad]; omega) | (simp; omega)
 exact hk (r5 : At) r5x6 r5x7 r5x8 b124 z192 z206 _ lr5x6 lr5x7 lr5x8 e210 e211 e212 (s209.sel (.cons Bn (.cons Bn (.cons Bn It))))
 refine Bo hcode (by omega) (by omega) rfl s205 Aw (.here) fun z213a iq214 hq214 H mz213 sq214 => ?_
 have s215 := (sq214.pick Aw).tail
 obtain ⟨z213, rfl, hz213⟩ := Ae (l := [0, 1, 2, 7, (-1)]) (lo := -1) (hi := 7) mz213 (by decide)
 refine Ag s215 Aw rfl (Bi (cs' := [ss r5.fClient, si r5.fBorn, sb r5.fClean, si r5.fConn, si r5.fGen, si r5.fO.fLast, r5x6, r5x7, r5x8]) s215 Fu (Ac (Aa rfl (Aa rfl (Aa rfl (Aa rfl (Aa rfl (Aa rfl (Aa lr5x6 (Aa lr5x7 (Aa lr5x8 rfl)))))))))) rfl (Bb rfl) rfl fun H s216 => Ag s216 (.here) rfl ?_)
 have e217 : SessB 700 (r5 : At) := by
  first | assumption | exact hinv | (apply Bc <;> first | assumption | omega | (unfold Ct; omega) | (intro z hz; cases hz; done))
 have e218 : -1 ≤ z192 ∧ z192 ≤ 4 := by
  first | omega | (simp only [Af, Ad]; omega) | (simp; omega)
 have e219 : -1 ≤ z213 ∧ z213 ≤ 7 := by
  first | omega | (simp only [Af, Ad]; omega) | (simp; omega)
 exact hk (r5 : At) r5x6 r5x7 r5x8 b124 z192 z213 _ lr5x6 lr5x7 lr5x8 e217 e218 e219 (s216.sel (.cons Bn (.cons Bn (.cons Bn It))))
 refine Az (cs := [i0, si 1, si 2, si 7, si (-1)]) rfl (Au s167 fun i220 H s221 => Gd.bothE ?_ ?_)
 refine Ag s221 Bn rfl (Bo hcode (by omega) (by omega) rfl s221 Ca Aw fun z222a iq223 hq223 H mz222 sq223 => ?_)
 have s224 := (sq223.pick Ca).tail
 obtain ⟨z222, rfl, hz222⟩ := Ae (l := [0, 1, 2, 3, 4, (-1)]) (lo := -1) (hi := 4) mz222 (by decide)
 refine Bo hcode (by omega) (by omega) rfl s224 (.here) (.here) fun z225a iq226 hq226 H mz225 sq226 => ?_
 have s227 := (sq226.pick Aw).tail
 obtain ⟨z225, rfl, hz225⟩ := Ae (l := [0, 1, 2, 7, (-1)]) (lo := -1) (hi := 7) mz225 (by decide)
 refine Bi (cs' := [ss r5.fClient, si r5.fBorn, sb r5.fClean, si r5.fConn, si r5.fGen, si r5.fO.fLast, r5x6, r5x7, r5x8]) s227 Fu (Ac (Aa rfl (Aa rfl (Aa rfl (Aa rfl (Aa rfl (Aa rfl (Aa lr5x6 (Aa lr5x7 (Aa lr5x8 rfl)))))))))) rfl (Bb rfl) rfl fun H s228 => Ag s228 (.here) rfl ?_
 have e229 : SessB 700 (r5 : At) := by
  first | assumption | exact hinv | (apply Bc <;> first | assumption | omega | (unfold Ct; omega) | (intro z hz; cases hz; done))
 have e230 : -1 ≤ z222 ∧ z222 ≤ 4 := by
  first | omega | (simp only [Af, Ad]; omega) | (simp; omega)
 have e231 : -1 ≤ z225 ∧ z225 ≤ 7 := by
  first | omega | (simp only [Af, Ad]; omega) | (simp; omega)
 exact hk (r5 : At) r5x6 r5x7 r5x8 b124 z222 z225 _ lr5x6 lr5x7 lr5x8 e229 e230 e231 (s228.sel (.cons Bn (.cons Bn (.cons Bn It))))
 refine Bo hcode (by omega) (by omega) rfl s221 Ca Aw fun z232a iq233 hq233 H mz232 sq233 => ?_
 have s234 := (sq233.pick Ca).tail
 obtain ⟨z232, rfl, hz232⟩ := Ae (l := [0, 1, 2, 3, 4, (-1)]) (lo := -1) (hi := 4) mz232 (by decide)
 refine Gd.bothE ?_ ?_
 refine Ag s234 Ca rfl (Bo hcode (by omega) (by omega) rfl s234 (.here) (.here) fun z235a iq236 hq236 H mz235 sq236 => ?_)
 have s237 := (sq236.pick Aw).tail
 obtain ⟨z235, rfl, hz235⟩ := Ae (l := [0, 1, 2, 7, (-1)]) (lo := -1) (hi := 7) mz235 (by decide)
 refine Bi (cs' := [ss r5.fClient, si r5.fBorn, sb r5.fClean, si r5.fConn, si r5.fGen, si r5.fO.fLast, r5x6, r5x7, r5x8]) s237 Fu (Ac (Aa rfl (Aa rfl (Aa rfl (Aa rfl (Aa rfl (Aa rfl (Aa lr5x6 (Aa lr5x7 (Aa lr5x8 rfl)))))))))) rfl (Bb rfl) rfl fun H s238 => Ag s238 (.here) rfl ?_
 have e239 : SessB 700 (r5 : At) := by
  first | assumption | exact hinv | (apply Bc <;> first | assumption | omega | (unfold Ct; omega) | (intro z hz; cases hz; done))
 have e240 : -1 ≤ z232 ∧ z232 ≤ 4 := by
  first | omega | (simp only [Af, Ad]; omega) | (simp; omega)
 have e241 : -1 ≤ z235 ∧ z235 ≤ 7 := by
  first | omega | (simp only [Af, Ad]; omega) | (simp; omega)
 exact hk (r5 : At) r5x6 r5x7 r5x8 b124 z232 z235 _ lr5x6 lr5x7 lr5x8 e239 e240 e241 (s238.sel (.cons Bn (.cons Bn (.cons Bn It))))
 refine Bo hcode (by omega) (by omega) rfl s234 (.here) (.here) fun z242a iq243 hq243 H mz242 sq243 => ?_
 have s244 := (sq243.pick Aw).tail
 obtain ⟨z242, rfl, hz242⟩ := Ae (l := [0, 1, 2, 7, (-1)]) (lo := -1) (hi := 7) mz242 (by decide)
 refine Ag s244 Aw rfl (Bi (cs' := [ss r5.fClient, si r5.fBorn, sb r5.fClean, si r5.fConn, si r5.fGen, si r5.fO.fLast, r5x6, r5x7, r5x8]) s244 Fu (Ac (Aa rfl (Aa rfl (Aa rfl (Aa rfl (Aa rfl (Aa rfl (Aa lr5x6 (Aa lr5x7 (Aa lr5x8 rfl)))))))))) rfl (Bb rfl) rfl fun H s245 => Ag s245 (.here) rfl ?_)
 have e246 : SessB 700 (r5 : At) := by
  first | assumption | exact hinv | (apply Bc <;> first | assumption | omega | (unfold Ct; omega) | (intro z hz; cases hz; done))
 have e247 : -1 ≤ z232 ∧ z232 ≤ 4 := by
  first | omega | (simp only [Af, Ad]; omega) | (simp; omega)
 have e248 : -1 ≤ z242 ∧ z242 ≤ 7 := by
  first | omega | (simp only [Af, Ad]; omega) | (simp; omega)
 exact hk (r5 : At) r5x6 r5x7 r5x8 b124 z232 z242 _ lr5x6 lr5x7 lr5x8 e246 e247 e248 (s245.sel (.cons Bn (.cons Bn (.cons Bn It))))
 refine Az (cs := [i0, si 1, si 2, si 7, si (-1)]) rfl (Au sq125 fun i249 H s250 => Gd.bothE ?_ ?_)
 refine Ag s250 Ca rfl (Az (cs := [i0, si 1, si 2, si 3, si 4, si (-1)]) rfl (Au s250 fun i251 H s252 => Bo hcode (by omega) (by omega) rfl s252 Ca (.here) fun z253a iq254 hq254 H mz253 sq254 => ?_))
 have s255 := (sq254.pick Aw).tail
 obtain ⟨z253, rfl, hz253⟩ := Ae (l := [0, 1, 2, 3, 4, (-1)]) (lo := -1) (hi := 4) mz253 (by decide)
 refine Bo hcode (by omega) (by omega) rfl s255 (.here) (.here) fun z256a iq257 hq257 H mz256 sq257 => ?_
 have s258 := (sq257.pick Aw).tail
 obtain ⟨z256, rfl, hz256⟩ := Ae (l := [0, 1, 2, 7, (-1)]) (lo := -1) (hi := 7) mz256 (by decide)
 refine Bi (cs' := [ss r5.fClient, si r5.fBorn, sb r5.fClean, si r5.fConn, si r5.fGen, si r5.fO.fLast, r5x6, r5x7, r5x8]) s258 Fu (Ac (Aa rfl (Aa rfl (Aa rfl (Aa rfl (Aa rfl (Aa rfl (Aa lr5x6 (Aa lr5x7 (Aa lr5x8 rfl)))))))))) rfl (Bb rfl) rfl fun H s259 => Ag s259 (.here) rfl ?_
 have e260 : SessB 700 (r5 : At) := by
  first | assumption | exact hinv | (apply Bc <;> first | assumption | omega | (unfold Ct; omega) | (intro z hz; cases hz; done))
 have e261 : -1 ≤ z253 ∧ z253 ≤ 4 := by
  first | omega | (simp only [Af, Ad]; omega) | (simp; omega)
 have e262 : -1 ≤ z256 ∧ z256 ≤ 7 := by
  first | omega | (simp only [Af, Ad]; omega) | (simp; omega)
 exact hk (r5 : At) r5x6 r5x7 r5x8 b124 z253 z256 _ lr5x6 lr5x7 lr5x8 e260 e261 e262 (s259.sel (.cons Bn (.cons Bn (.cons Bn It))))
 refine Az (cs := [i0, si 1, si 2, si 3, si 4, si (-1)]) rfl (Au s250 fun i263 H s264 => Gd.bothE ?_ ?_)
 refine Ag s264 Bn rfl (Bo hcode (by omega) (by omega) rfl s264 Ca (.here) fun z265a iq266 hq266 H mz265 sq266 => ?_)
 have s267 := (sq266.pick Aw).tail
 obtain ⟨z265, rfl, hz265⟩ := Ae (l := [0, 1, 2, 3, 4, (-1)]) (lo := -1) (hi := 4) mz265 (by decide)
 refine Bo hcode (by omega) (by omega) rfl s267 (.here) (.here) fun z268a iq269 hq269 H mz268 sq269 => ?_
 have s270 := (sq269.pick Aw).tail
 obtain ⟨z268, rfl, hz268⟩ := Ae (l := [0, 1, 2, 7, (-1)]) (lo := -1) (hi := 7) mz268 (by decide)
 refine Bi (cs' := [ss r5.fClient, si r5.fBorn, sb r5.fClean, si r5.fConn, si r5.fGen, si r5.fO.fLast, r5x6, r5x7, r5x8]) s270 Fu (Ac (Aa rfl (Aa rfl (Aa rfl (Aa rfl (Aa rfl (Aa rfl (Aa lr5x6 (Aa lr5x7 (Aa lr5x8 rfl)))))))))) rfl (Bb rfl) rfl fun H s271 => Ag s271 (.here) rfl ?_
 have e272 : SessB 700 (r5 : At) := by
  first | assumption | exact hinv | (apply Bc <;> first | assumption | omega | (unfold Ct; omega) | (intro z hz; cases hz; done))
 have e273 : -1 ≤ z265 ∧ z265 ≤ 4 := by
  first | omega | (simp only [Af, Ad]; omega) | (simp; omega)
 have e274 : -1 ≤ z268 ∧ z268 ≤ 7 := by
  first | omega | (simp only [Af, Ad]; omega) | (simp; omega)
 exact hk (r5 : At) r5x6 r5x7 r5x8 b124 z265 z268 _ lr5x6 lr5x7 lr5x8 e272 e273 e274 (s271.sel (.cons Bn (.cons Bn (.cons Bn It))))
 refine Bo hcode (by omega) (by omega) rfl s264 Ca (.here) fun z275a iq276 hq276 H mz275 sq276 => ?_
 have s277 := (sq276.pick Aw).tail
 obtain ⟨z275, rfl, hz275⟩ := Ae (l := [0, 1, 2, 3, 4, (-1)]) (lo := -1) (hi := 4) mz275 (by decide)
 refine Gd.bothE ?_ ?_
 refine Ag s277 Ca rfl (Bo hcode (by omega) (by omega) rfl s277 (.here) (.here) fun z278a iq279 hq279 H mz278 sq279 => ?_)
 have s280 := (sq279.pick Aw).tail
 obtain ⟨z278, rfl, hz278⟩ := Ae (l := [0, 1, 2, 7, (-1)]) (lo := -1) (hi := 7) mz278 (by decide)
 refine Bi (cs' := [ss r5.fClient, si r5.fBorn, sb r5.fClean, si r5.fConn, si r5.fGen, si r5.fO.fLast, r5x6, r5x7, r5x8]) s280 Fu (Ac (Aa rfl (Aa rfl (Aa rfl (Aa rfl (Aa rfl (Aa rfl (Aa lr5x6 (Aa lr5x7 (Aa lr5x8 rfl)))))))))) rfl (Bb rfl) rfl fun H s281 => Ag s281 (.here) rfl ?_
 have e282 : SessB 700 (r5 : At) := by
  first | assumption | exact hinv | (apply Bc <;> first | assumption | omega | (unfold Ct; omega) | (intro z hz; cases hz; done))
 have e283 : -1 ≤ z275 ∧ z275 ≤ 4 := by
  first | omega | (simp only [Af, Ad]; omega) | (simp; omega)
 have e284 : -1 ≤ z278 ∧ z278 ≤ 7 := by
  first | omega | (simp only [Af, Ad]; omega) | (simp; omega)
 exact hk (r5 : At) r5x6 r5x7 r5x8 b124 z275 z278 _ lr5x6 lr5x7 lr5x8 e282 e283 e284 (s281.sel (.cons Bn (.cons Bn (.cons Bn It))))
 refine Bo hcode (by omega) (by omega) rfl s277 (.here) (.here) fun z285a iq286 hq286 H mz285 sq286 => ?_
 have s287 := (sq286.pick Aw).tail
 obtain ⟨z285, rfl, hz285⟩ := Ae (l := [0, 1, 2, 7, (-1)]) (lo := -1) (hi := 7) mz285 (by decide)
 refine Ag s287 Aw rfl (Bi (cs' := [ss r5.fClient, si r5.fBorn, sb r5.fClean, si r5.fConn, si r5.fGen, si r5.fO.fLast, r5x6, r5x7, r5x8]) s287 Fu (Ac (Aa rfl (Aa rfl (Aa rfl (Aa rfl (Aa rfl (Aa rfl (Aa lr5x6 (Aa lr5x7 (Aa lr5x8 rfl)))))))))) rfl (Bb rfl) rfl fun H s288 => Ag s288 (.here) rfl ?_)
 have e289 : SessB 700 (r5 : At) := by
  first | assumption | exact hinv | (apply Bc <;> first | assumption | omega | (unfold Ct; omega) | (intro z hz; cases hz; done))
 have e290 : -1 ≤ z275 ∧ z275 ≤ 4 := by
  first | omega | (simp only [Af, Ad]; omega) | (simp; omega)
 have e291 : -1 ≤ z285 ∧ z285 ≤ 7 := by
  first | omega | (simp only [Af, Ad]; omega) | (simp; omega)
 exact hk (r5 : At) r5x6 r5x7 r5x8 b124 z275 z285 _ lr5x6 lr5x7 lr5x8 e289 e290 e291 (s288.sel (.cons Bn (.cons Bn (.cons Bn It))))
 refine Gd.bothE ?_ ?_
 refine Az (cs := [i0, si 1, si 2, si 3, si 4, si (-1)]) rfl (Au s9 fun i292 H s293 => Gd.bothE ?_ ?_)
 refine Ag s293 Aw rfl (Gd.bothE ?_ ?_)
 refine F4 hcode (by omega) s293 Fu fun b294 iq295 hq295 H sq295 => Gd.bothE ?_ ?_
 refine Bo hcode (by omega) (by omega) rfl sq295 (.here) (.here) fun z296a iq297 hq297 H mz296 sq297 => ?_
 have s298 := (sq297.pick Aw).tail
 obtain ⟨z296, rfl, hz296⟩ := Ae (l := [0, 1, 2, 3, 4, (-1)]) (lo := -1) (hi := 4) mz296 (by decide)
 refine Az (cs := [i0, si 1, si 2, si 7, si (-1)]) rfl (Au s298 fun i299 H s300 => Bo hcode (by omega) (by omega) rfl s300 Aw (.here) fun z301a iq302 hq302 H mz301 sq302 => ?_)
 have s303 := (sq302.pick Aw).tail
 obtain ⟨z301, rfl, hz301⟩ := Ae (l := [0, 1, 2, 7, (-1)]) (lo := -1) (hi := 7) mz301 (by decide)
 refine Bi (cs' := [ss r5.fClient, si r5.fBorn, sb r5.fClean, si r5.fConn, si r5.fGen, si r5.fO.fLast, r5x6, r5x7, r5x8]) s303 Fu (Ac (Aa rfl (Aa rfl (Aa rfl (Aa rfl (Aa rfl (Aa rfl (Aa lr5x6 (Aa lr5x7 (Aa lr5x8 rfl)))))))))) rfl (Bb rfl) rfl fun H s304 => Ag s304 (.here) rfl ?_
 have e305 : SessB 700 (r5 : At) := by
  first | assumption | exact hinv | (apply Bc <;> first | assumption | omega | (unfold Ct; omega) | (intro z hz; cases hz; done))
 have e306 : -1 ≤ z296 ∧ z296 ≤ 4 := by
  first | omega | (simp only [Af, Ad]; omega) | (simp; omega)
 have e307 : -1 ≤ z301 ∧ z301 ≤ 7 := by
  first | omega | (simp only [Af, Ad]; omega) | (simp; omega)
 exact hk (r5 : At) r5x6 r5x7 r5x8 b294 z296 z301 _ lr5x6 lr5x7 lr5x8 e305 e306 e307 (s304.sel (.cons Bn (.cons Bn (.cons Bn It))))
 refine Az (cs := [i0, si 1, si 2, si 7, si (-1)]) rfl (Au sq295 fun i308 H s309 => Bo hcode (by omega) (by omega) rfl s309 Aw Aw fun z310a iq311 hq311 H mz310 sq311 => ?_)
 have s312 := (sq311.pick Ca).tail
 obtain ⟨z310, rfl, hz310⟩ := Ae (l := [0, 1, 2, 3, 4, (-1)]) (lo := -1) (hi := 4) mz310 (by decide)
 refine Bo hcode (by omega) (by omega) rfl s312 (.here) (.here) fun z313a iq314 hq314 H mz313 sq314 => ?_
 have s315 := (sq314.pick Aw).tail
 obtain ⟨z313, rfl, hz313⟩ := Ae (l := [0, 1, 2, 7, (-1)]) (lo := -1) (hi := 7) mz313 (by decide)
 refine Bi (cs' := [ss r5.fClient, si r5.fBorn, sb r5.fClean, si r5.fConn, si r5.fGen, si r5.fO.fLast, r5x6, r5x7, r5x8]) s315 Fu (Ac (Aa rfl (Aa rfl (Aa rfl (Aa rfl (Aa rfl (Aa rfl (Aa lr5x6 (Aa lr5x7 (Aa lr5x8 rfl)))))))))) rfl (Bb rfl) rfl fun H s316 => Ag s316 (.here) rfl ?_
 have e317 : SessB 700 (r5 : At) := by
  first | assumption | exact hinv | (apply Bc <;> first | assumption | omega | (unfold Ct; omega) | (intro z hz; cases hz; done))
 have e318 : -1 ≤ z310 ∧ z310 ≤ 4 := by
  first | omega | (simp only [Af, Ad]; omega) | (simp; omega)
 have e319 : -1 ≤ z313 ∧ z313 ≤ 7 := by
  first | omega | (simp only [Af, Ad]; omega) | (simp; omega)
 exact hk (r5 : At) r5x6 r5x7 r5x8 b294 z310 z313 _ lr5x6 lr5x7 lr5x8 e317 e318 e319 (s316.sel (.cons Bn (.cons Bn (.cons Bn It))))
 refine Az (cs := [i0, si 1, si 2, si 7, si (-1)]) rfl (Au s293 fun i320 H s321 => F4 hcode (by omega) s321 Xq fun b322 iq323 hq323 H sq323 => Bo hcode (by omega) (by omega) rfl sq323 (.here) Aw fun z324a iq325 hq325 H mz324 sq325 => ?_)
 have s326 := (sq325.pick Ca).tail
 obtain ⟨z324, rfl, hz324⟩ := Ae (l := [0, 1, 2, 3, 4, (-1)]) (lo := -1) (hi := 4) mz324 (by decide)
 refine Bo hcode (by omega) (by omega) rfl s326 (.here) (.here) fun z327a iq328 hq328 H mz327 sq328 => ?_
 have s329 := (sq328.pick Aw).tail
 obtain ⟨z327, rfl, hz327⟩ := Ae (l := [0, 1, 2, 7, (-1)]) (lo := -1) (hi := 7) mz327 (by decide)
 refine Bi (cs' := [ss r5.fClient, si r5.fBorn, sb r5.fClean, si r5.fConn, si r5.fGen, si r5.fO.fLast, r5x6, r5x7, r5x8]) s329 Fu (Ac (Aa rfl (Aa rfl (Aa rfl (Aa rfl (Aa rfl (Aa rfl (Aa lr5x6 (Aa lr5x7 (Aa lr5x8 rfl)))))))))) rfl (Bb rfl) rfl fun H s330 => Ag s330 (.here) rfl ?_
 have e331 : SessB 700 (r5 : At) := by
  first | assumption | exact hinv | (apply Bc <;> first | assumption | omega | (unfold Ct; omega) | (intro z hz; cases hz; done))
 have e332 : -1 ≤ z324 ∧ z324 ≤ 4 := by
  first | omega | (simp only [Af, Ad]; omega) | (simp; omega)
 have e333 : -1 ≤ z327 ∧ z327 ≤ 7 := by
  first | omega | (simp only [Af, Ad]; omega) | (simp; omega)
 exact hk (r5 : At) r5x6 r5x7 r5x8 b322 z324 z327 _ lr5x6 lr5x7 lr5x8 e331 e332 e333 (s330.sel (.cons Bn (.cons Bn (.cons Bn It))))
 refine Gd.bothE ?_ ?_
 refine F4 hcode (by omega) s293 Fu fun b334 iq335 hq335 H sq335 => Gd.bothE ?_ ?_
 refine Ag sq335 Ca rfl (Gd.bothE ?_ ?_)
 refine Bo hcode (by omega) (by omega) rfl sq335 (.here) (.here) fun z336a iq337 hq337 H mz336 sq337 => ?_
 have s338 := (sq337.pick Aw).tail
 obtain ⟨z336, rfl, hz336⟩ := Ae (l := [0, 1, 2, 3, 4, (-1)]) (lo := -1) (hi := 4) mz336 (by decide)
 refine Az (cs := [i0, si 1, si 2, si 7, si (-1)]) rfl (Au s338 fun i339 H s340 => Bo hcode (by omega) (by omega) rfl s340 Aw (.here) fun z341a iq342 hq342 H mz341 sq342 => ?_)
 have s343 := (sq342.pick Aw).tail
 obtain ⟨z341, rfl, hz341⟩ := Ae (l := [0, 1, 2, 7, (-1)]) (lo := -1) (hi := 7) mz341 (by decide)
 refine Bi (cs' := [ss r5.fClient, si r5.fBorn, sb r5.fClean, si r5.fConn, si r5.fGen, si r5.fO.fLast, r5x6, r5x7, r5x8]) s343 Fu (Ac (Aa rfl (Aa rfl (Aa rfl (Aa rfl (Aa rfl (Aa rfl (Aa lr5x6 (Aa lr5x7 (Aa lr5x8 rfl)))))))))) rfl (Bb rfl) rfl fun H s344 => Ag s344 (.here) rfl ?_
 have e345 : SessB 700 (r5 : At) := by
  first | assumption | exact hinv | (apply Bc <;> first | assumption | omega | (unfold Ct; omega) | (intro z hz; cases hz; done))
 have e346 : -1 ≤ z336 ∧ z336 ≤ 4 := by
  first | omega | (simp only [Af, Ad]; omega) | (simp; omega)
 have e347 : -1 ≤ z341 ∧ z341 ≤ 7 := by
  first | omega | (simp only [Af, Ad]; omega) | (simp; omega)
 exact hk (r5 : At) r5x6 r5x7 r5x8 b334 z336 z341 _ lr5x6 lr5x7 lr5x8 e345 e346 e347 (s344.sel (.cons Bn (.cons Bn (.cons Bn It))))
 refine Az (cs := [i0, si 1, si 2, si 7, si (-1)]) rfl (Au sq335 fun i348 H s349 => Bo hcode (by omega) (by omega) rfl s349 Aw Aw fun z350a iq351 hq351 H mz350 sq351 => ?_)
 have s352 := (sq351.pick Ca).tail
 obtain ⟨z350, rfl, hz350⟩ := Ae (l := [0, 1, 2, 3, 4, (-1)]) (lo := -1) (hi := 4) mz350 (by decide)
 refine Bo hcode (by omega) (by omega) rfl s352 (.here) (.here) fun z353a iq354 hq354 H mz353 sq354 => ?_
 have s355 := (sq354.pick Aw).tail
 obtain ⟨z353, rfl, hz353⟩ := Ae (l := [0, 1, 2, 7, (-1)]) (lo := -1) (hi := 7) mz353 (by decide)
 refine Bi (cs' := [ss r5.fClient, si r5.fBorn, sb r5.fClean, si r5.fConn, si r5.fGen, si r5.fO.fLast, r5x6, r5x7, r5x8]) s355 Fu (Ac (Aa rfl (Aa rfl (Aa rfl (Aa rfl (Aa rfl (Aa rfl (Aa lr5x6 (Aa lr5x7 (Aa lr5x8 rfl)))))))))) rfl (Bb rfl) rfl fun H s356 => Ag s356 (.here) rfl ?_
 have e357 : SessB 700 (r5 : At) := by
  first | assumption | exact hinv | (apply Bc <;> first | assumption | omega | (unfold Ct; omega) | (intro z hz; cases hz; done))
 have e358 : -1 ≤ z350 ∧ z350 ≤ 4 := by
  first | omega | (simp only [Af, Ad]; omega) | (simp; omega)
 have e359 : -1 ≤ z353 ∧ z353 ≤ 7 := by
  first | omega | (simp only [Af, Ad]; omega) | (simp; omega)
 exact hk (r5 : At) r5x6 r5x7 r5x8 b334 z350 z353 _ lr5x6 lr5x7 lr5x8 e357 e358 e359 (s356.sel (.cons Bn (.cons Bn (.cons Bn It))))
 refine Gd.bothE ?_ ?_
 refine Bo hcode (by omega) (by omega) rfl sq335 (.here) (.here) fun z360a iq361 hq361 H mz360 sq361 => ?_
 have s362 := (sq361.pick Aw).tail
 obtain ⟨z360, rfl, hz360⟩ := Ae (l := [0, 1, 2, 3, 4, (-1)]) (lo := -1) (hi := 4) mz360 (by decide)
 refine Gd.bothE ?_ ?_
 refine Ag s362 Aw rfl (Az (cs := [i0, si 1, si 2, si 7, si (-1)]) rfl (Au s362 fun i363 H s364 => Bo hcode (by omega) (by omega) rfl s364 Aw (.here) fun z365a iq366 hq366 H mz365 sq366 => ?_))
 have s367 := (sq366.pick Aw).tail
 obtain ⟨z365, rfl, hz365⟩ := Ae (l := [0, 1, 2, 7, (-1)]) (lo := -1) (hi := 7) mz365 (by decide)
 refine Bi (cs' := [ss r5.fClient, si r5.fBorn, sb r5.fClean, si r5.fConn, si r5.fGen, si r5.fO.fLast, r5x6, r5x7, r5x8]) s367 Fu (Ac (Aa rfl (Aa rfl (Aa rfl (Aa rfl (Aa rfl (Aa rfl (Aa lr5x6 (Aa lr5x7 (Aa lr5x8 rfl)))))))))) rfl (Bb rfl) rfl fun H s368 => Ag s368 (.here) rfl ?_
 have e369 : SessB 700 (r5 : At) := by
  first | assumption | exact hinv | (apply Bc <;> first | assumption | omega | (unfold Ct; omega) | (intro z hz; cases hz; done))
 have e370 : -1 ≤ z360 ∧ z360 ≤ 4 := by
  first | omega | (simp only [Af, Ad]; omega) | (simp; omega)
 have e371 : -1 ≤ z365 ∧ z365 ≤ 7 := by
  first | omega | (simp only [Af, Ad]; omega) | (simp; omega)
 exact hk (r5 : At) r5x6 r5x7 r5x8 b334 z360 z365 _ lr5x6 lr5x7 lr5x8 e369 e370 e371 (s368.sel (.cons Bn (.cons Bn (.cons Bn It))))
 refine Az (cs := [i0, si 1, si 2, si 7, si (-1)]) rfl (Au s362 fun i372 H s373 => Gd.bothE ?_ ?_)
 refine Ag s373 Ca rfl (Bo hcode (by omega) (by omega) rfl s373 Aw (.here) fun z374a iq375 hq375 H mz374 sq375 => ?_)
 have s376 := (sq375.pick Aw).tail
 obtain ⟨z374, rfl, hz374⟩ := Ae (l := [0, 1, 2, 7, (-1)]) (lo := -1) (hi := 7) mz374 (by decide)
 refine Bi (cs' := [ss r5.fClient, si r5.fBorn, sb r5.fClean, si r5.fConn, si r5.fGen, si r5.fO.fLast, r5x6, r5x7, r5x8]) s376 Fu (Ac (Aa rfl (Aa rfl (Aa rfl (Aa rfl (Aa rfl (Aa rfl (Aa lr5x6 (Aa lr5x7 (Aa lr5x8 rfl)))))))))) rfl (Bb rfl) rfl fun H s377 => Ag s377 (.here) rfl ?_
 have e378 : SessB 700 (r5 : At) := by
  first | assumption | exact hinv | (apply Bc <;> first | assumption | omega | (unfold Ct; omega) | (intro z hz; cases hz; done))
 have e379 : -1 ≤ z360 ∧ z360 ≤ 4 := by
  first | omega | (simp only [Af, Ad]; omega) | (simp; omega)
 have e380 : -1 ≤ z374 ∧ z374 ≤ 7 := by
  first | omega | (simp only [Af, Ad]; omega) | (simp; omega)
 exact hk (r5 : At) r5x6 r5x7 r5x8 b334 z360 z374 _ lr5x6 lr5x7 lr5x8 e378 e379 e380 (s377.sel (.cons Bn (.cons Bn (.cons Bn It))))
 refine Bo hcode (by omega) (by omega) rfl s373 Aw (.here) fun z381a iq382 hq382 H mz381 sq382 => ?_
 have s383 := (sq382.pick Aw).tail
 obtain ⟨z381, rfl, hz381⟩ := Ae (l := [0, 1, 2, 7, (-1)]) (lo := -1) (hi := 7) mz381 (by decide)
 refine Ag s383 Aw rfl (Bi (cs' := [ss r5.fClient, si r5.fBorn, sb r5.fClean, si r5.fConn, si r5.fGen, si r5.fO.fLast, r5x6, r5x7, r5x8]) s383 Fu (Ac (Aa rfl (Aa rfl (Aa rfl (Aa rfl (Aa rfl (Aa rfl (Aa lr5x6 (Aa lr5x7 (Aa lr5x8 rfl)))))))))) rfl (Bb rfl) rfl fun H s384 => Ag s384 (.here) rfl ?_)
 have e385 : SessB 700 (r5 : At) := by
  first | assumption | exact hinv | (apply Bc <;> first | assumption | omega | (unfold Ct; omega) | (intro z hz; cases hz; done))
 have e386 : -1 ≤ z360 ∧ z360 ≤ 4 := by
  first | omega | (simp only [Af, Ad]; omega) | (simp; omega)
 have e387 : -1 ≤ z381 ∧ z381 ≤ 7 := by
  first | omega | (simp only [Af, Ad]; omega) | (simp; omega)
 exact hk (r5 : At) r5x6 r5x7 r5x8 b334 z360 z381 _ lr5x6 lr5x7 lr5x8 e385 e386 e387 (s384.sel (.cons Bn (.cons Bn (.cons Bn It))))
 refine Az (cs := [i0, si 1, si 2, si 7, si (-1)]) rfl (Au sq335 fun i388 H s389 => Gd.bothE ?_ ?_)
 refine Ag s389 Bn rfl (Bo hcode (by omega) (by omega) rfl s389 Aw Aw fun z390a iq391 hq391 H mz390 sq391 => ?_)
 have s392 := (sq391.pick Ca).tail
 obtain ⟨z390, rfl, hz390⟩ := Ae (l := [0, 1, 2, 3, 4, (-1)]) (lo := -1) (hi := 4) mz390 (by decide)
 refine Bo hcode (by omega) (by omega) rfl s392 (.here) (.here) fun z393a iq394 hq394 H mz393 sq394 => ?_
 have s395 := (sq394.pick Aw).tail
 obtain ⟨z393, rfl, hz393⟩ := Ae (l := [0, 1, 2, 7, (-1)]) (lo := -1) (hi := 7) mz393 (by decide)
 refine Bi (cs' := [ss r5.fClient, si r5.fBorn, sb r5.fClean, si r5.fConn, si r5.fGen, si r5.fO.fLast, r5x6, r5x7, r5x8]) s395 Fu (Ac (Aa rfl (Aa rfl (Aa rfl (Aa rfl (Aa rfl (Aa rfl (Aa lr5x6 (Aa lr5x7 (Aa lr5x8 rfl)))))))))) rfl (Bb rfl) rfl fun H s396 => Ag s396 (.here) rfl ?_
 have e397 : SessB 700 (r5 : At) := by
  first | assumption | exact hinv | (apply Bc <;> first | assumption | omega | (unfold Ct; omega) | (intro z hz; cases hz; done))
 have e398 : -1 ≤ z390 ∧ z390 ≤ 4 := by
  first | omega | (simp only [Af, Ad]; omega) | (simp; omega)
 have e399 : -1 ≤ z393 ∧ z393 ≤ 7 := by
  first | omega | (simp only [Af, Ad]; omega) | (simp; omega)
 exact hk (r5 : At) r5x6 r5x7 r5x8 b334 z390 z393 _ lr5x6 lr5x7 lr5x8 e397 e398 e399 (s396.sel (.cons Bn (.cons Bn (.cons Bn It))))
 refine Bo hcode (by omega) (by omega) rfl s389 Aw Aw fun z400a iq401 hq401 H mz400 sq401 => ?_
 have s402 := (sq401.pick Ca).tail
 obtain ⟨z400, rfl, hz400⟩ := Ae (l := [0, 1, 2, 3, 4, (-1)]) (lo := -1) (hi := 4) mz400 (by decide)
 refine Gd.bothE ?_ ?_
 refine Ag s402 Ca rfl (Bo hcode (by omega) (by omega) rfl s402 (.here) (.here) fun z403a iq404 hq404 H mz403 sq404 => ?_)
 have s405 := (sq404.pick Aw).tail
 obtain ⟨z403, rfl, hz403⟩ := Ae (l := [0, 1, 2, 7, (-1)]) (lo := -1) (hi := 7) mz403 (by decide)
 refine Bi (cs' := [ss r5.fClient, si r5.fBorn, sb r5.fClean, si r5.fConn, si r5.fGen, si r5.fO.fLast, r5x6, r5x7, r5x8]) s405 Fu (Ac (Aa rfl (Aa rfl (Aa rfl (Aa rfl (Aa rfl (Aa rfl (Aa lr5x6 (Aa lr5x7 (Aa lr5x8 rfl)))))))))) rfl (Bb rfl) rfl fun H s406 => Ag s406 (.here) rfl ?_
 have e407 : SessB 700 (r5 : At) := by
  first | assumption | exact hinv | (apply Bc <;> first | assumption | omega | (unfold Ct; omega) | (intro z hz; cases hz; done))
 have e408 : -1 ≤ z400 ∧ z400 ≤ 4 := by
  first | omega | (simp only [Af, Ad]; omega) | (simp; omega)
 have e409 : -1 ≤ z403 ∧ z403 ≤ 7 := by
  first | omega | (simp only [Af, Ad]; omega) | (simp; omega)
 exact hk (r5 : At) r5x6 r5x7 r5x8 b334 z400 z403 _ lr5x6 lr5x7 lr5x8 e407 e408 e409 (s406.sel (.cons Bn (.cons Bn (.cons Bn It))))
 refine Bo hcode (by omega) (by omega) rfl s402 (.here) (.here) fun z410a iq411 hq411 H mz410 sq411 => ?_
 have s412 := (sq411.pick Aw).tail
 obtain ⟨z410, rfl, hz410⟩ := Ae (l := [0, 1, 2, 7, (-1)]) (lo := -1) (hi := 7) mz410 (by decide)
 refine Ag s412 Aw rfl (Bi (cs' := [ss r5.fClient, si r5.fBorn, sb r5.fClean, si r5.fConn, si r5.fGen, si r5.fO.fLast, r5x6, r5x7, r5x8]) s412 Fu (Ac (Aa rfl (Aa rfl (Aa rfl (Aa rfl (Aa rfl (Aa rfl (Aa lr5x6 (Aa lr5x7 (Aa lr5x8 rfl)))))))))) rfl (Bb rfl) rfl fun H s413 => Ag s413 (.here) rfl ?_)
 have e414 : SessB 700 (r5 : At) := by
  first | assumption | exact hinv | (apply Bc <;> first | assumption | omega | (unfold Ct; omega) | (intro z hz; cases hz; done))
 have e415 : -1 ≤ z400 ∧ z400 ≤ 4 := by
  first | omega | (simp only [Af, Ad]; omega) | (simp; omega)
 have e416 : -1 ≤ z410 ∧ z410 ≤ 7 := by
  first | omega | (simp only [Af, Ad]; omega) | (simp; omega)
 exact hk (r5 : At) r5x6 r5x7 r5x8 b334 z400 z410 _ lr5x6 lr5x7 lr5x8 e414 e415 e416 (s413.sel (.cons Bn (.cons Bn (.cons Bn It))))
 refine Az (cs := [i0, si 1, si 2, si 7, si (-1)]) rfl (Au s293 fun i417 H s418 => Gd.bothE ?_ ?_)
 refine Ag s418 Ca rfl (F4 hcode (by omega) s418 Xq fun b419 iq420 hq420 H sq420 => Bo hcode (by omega) (by omega) rfl sq420 (.here) Aw fun z421a iq422 hq422 H mz421 sq422 => ?_)
 have s423 := (sq422.pick Ca).tail
 obtain ⟨z421, rfl, hz421⟩ := Ae (l := [0, 1, 2, 3, 4, (-1)]) (lo := -1) (hi := 4) mz421 (by decide)
 refine Bo hcode (by omega) (by omega) rfl s423 (.here) (.here) fun z424a iq425 hq425 H mz424 sq425 => ?_
 have s426 := (sq425.pick Aw).tail
 obtain ⟨z424, rfl, hz424⟩ := Ae (l := [0, 1, 2, 7, (-1)]) (lo := -1) (hi := 7) mz424 (by decide)
 refine Bi (cs' := [ss r5.fClient, si r5.fBorn, sb r5.fClean, si r5.fConn, si r5.fGen, si r5.fO.fLast, r5x6, r5x7, r5x8]) s426 Fu (Ac (Aa rfl (Aa rfl (Aa rfl (Aa rfl (Aa rfl (Aa rfl (Aa lr5x6 (Aa lr5x7 (Aa lr5x8 rfl)))))))))) rfl (Bb rfl) rfl fun H s427 => Ag s427 (.here) rfl ?_
 have e428 : SessB 700 (r5 : At) := by
  first | assumption | exact hinv | (apply Bc <;> first | assumption | omega | (unfold Ct; omega) | (intro z hz; cases hz; done))
 have e429 : -1 ≤ z421 ∧ z421 ≤ 4 := by
  first | omega | (simp only [Af, Ad]; omega) | (simp; omega)
 have e430 : -1 ≤ z424 ∧ z424 ≤ 7 := by
  first | omega | (simp only [Af, Ad]; omega) | (simp; omega)
 exact hk (r5 : At) r5x6 r5x7 r5x8 b419 z421 z424 _ lr5x6 lr5x7 lr5x8 e428 e429 e430 (s427.sel (.cons Bn (.cons Bn (.cons Bn It))))
 refine F4 hcode (by omega) s418 Xq fun b431 iq432 hq432 H sq432 => Gd.bothE ?_ ?_
 refine Ag sq432 Bn rfl (Bo hcode (by omega) (by omega) rfl sq432 (.here) Aw fun z433a iq434 hq434 H mz433 sq434 => ?_)
 have s435 := (sq434.pick Ca).tail
 obtain ⟨z433, rfl, hz433⟩ := Ae (l := [0, 1, 2, 3, 4, (-1)]) (lo := -1) (hi := 4) mz433 (by decide)
 refine Bo hcode (by omega) (by omega) rfl s435 (.here) (.here) fun z436a iq437 hq437 H mz436 sq437 => ?_
 have s438 := (sq437.pick Aw).tail
 obtain ⟨z436, rfl, hz436⟩ := Ae (l := [0, 1, 2, 7, (-1)]) (lo := -1) (hi := 7) mz436 (by decide)
 refine Bi (cs' := [ss r5.fClient, si r5.fBorn, sb r5.fClean, si r5.fConn, si r5.fGen, si r5.fO.fLast, r5x6, r5x7, r5x8]) s438 Fu (Ac (Aa rfl (Aa rfl (Aa rfl (Aa rfl (Aa rfl (Aa rfl (Aa lr5x6 (Aa lr5x7 (Aa lr5x8 rfl)))))))))) rfl (Bb rfl) rfl fun H s439 => Ag s439 (.here) rfl ?_
 have e440 : SessB 700 (r5 : At) := by
  first | assumption | exact hinv | (apply Bc <;> first | assumption | omega | (unfold Ct; omega) | (intro z hz; cases hz; done))
 have e441 : -1 ≤ z433 ∧ z433 ≤ 4 := by
  first | omega | (simp only [Af, Ad]; omega) | (simp; omega)
 have e442 : -1 ≤ z436 ∧ z436 ≤ 7 := by
  first | omega | (simp only [Af, Ad]; omega) | (simp; omega)
 exact hk (r5 : At) r5x6 r5x7 r5x8 b431 z433 z436 _ lr5x6 lr5x7 lr5x8 e440 e441 e442 (s439.sel (.cons Bn (.cons Bn (.cons Bn It))))
 refine Bo hcode (by omega) (by omega) rfl sq432 (.here) Aw fun z443a iq444 hq444 H mz443 sq444 => ?_
 have s445 := (sq444.pick Ca).tail
 obtain ⟨z443, rfl, hz443⟩ := Ae (l := [0, 1, 2, 3, 4, (-1)]) (lo := -1) (hi := 4) mz443 (by decide)
 refine Gd.bothE ?_ ?_
 refine Ag s445 Ca rfl (Bo hcode (by omega) (by omega) rfl s445 (.here) (.here) fun z446a iq447 hq447 H mz446 sq447 => ?_)
 have s448 := (sq447.pick Aw).tail
 obtain ⟨z446, rfl, hz446⟩ := Ae (l := [0, 1, 2, 7, (-1)]) (lo := -1) (hi := 7) mz446 (by decide)
 refine Bi (cs' := [ss r5.fClient, si r5.fBorn, sb r5.fClean, si r5.fConn, si r5.fGen, si r5.fO.fLast, r5x6, r5x7, r5x8]) s448 Fu (Ac (Aa rfl (Aa rfl (Aa rfl (Aa rfl (Aa rfl (Aa rfl (Aa lr5x6 (Aa lr5x7 (Aa lr5x8 rfl)))))))))) rfl (Bb rfl) rfl fun H s449 => Ag s449 (.here) rfl ?_
 have e450 : SessB 700 (r5 : At) := by
  first | assumption | exact hinv | (apply Bc <;> first | assumption | omega | (unfold Ct; omega) | (intro z hz; cases hz; done))
 have e451 : -1 ≤ z443 ∧ z443 ≤ 4 := by
  first | omega | (simp only [Af, Ad]; omega) | (simp; omega)
 have e452 : -1 ≤ z446 ∧ z446 ≤ 7 := by
  first | omega | (simp only [Af, Ad]; omega) | (simp; omega)
 exact hk (r5 : At) r5x6 r5x7 r5x8 b431 z443 z446 _ lr5x6 lr5x7 lr5x8 e450 e451 e452 (s449.sel (.cons Bn (.cons Bn (.cons Bn It))))
 refine Bo hcode (by omega) (by omega) rfl s445 (.here) (.here) fun z453a iq454 hq454 H mz453 sq454 => ?_
 have s455 := (sq454.pick Aw).tail
 obtain ⟨z453, rfl, hz453⟩ := Ae (l := [0, 1, 2, 7, (-1)]) (lo := -1) (hi := 7) mz453 (by decide)
 refine Ag s455 Aw rfl (Bi (cs' := [ss r5.fClient, si r5.fBorn, sb r5.fClean, si r5.fConn, si r5.fGen, si r5.fO.fLast, r5x6, r5x7, r5x8]) s455 Fu (Ac (Aa rfl (Aa rfl (Aa rfl (Aa rfl (Aa rfl (Aa rfl (Aa lr5x6 (Aa lr5x7 (Aa lr5x8 rfl)))))))))) rfl (Bb rfl) rfl fun H s456 => Ag s456 (.here) rfl ?_)
 have e457 : SessB 700 (r5 : At) := by
  first | assumption | exact hinv | (apply Bc <;> first | assumption | omega | (unfold Ct; omega) | (intro z hz; cases hz; done))
 have e458 : -1 ≤ z443 ∧ z443 ≤ 4 := by
  first | omega | (simp only [Af, Ad]; omega) | (simp; omega)
 have e459 : -1 ≤ z453 ∧ z453 ≤ 7 := by
  first | omega | (simp only [Af, Ad]; omega) | (simp; omega)
 exact hk (r5 : At) r5x6 r5x7 r5x8 b431 z443 z453 _ lr5x6 lr5x7 lr5x8 e457 e458 e459 (s456.sel (.cons Bn (.cons Bn (.cons Bn It))))
 refine Az (cs := [i0, si 1, si 2, si 7, si (-1)]) rfl (Au s9 fun i460 H s461 => Gd.bothE ?_ ?_)
 refine Ag s461 Aw rfl (Gd.bothE ?_ ?_)
 refine F4 hcode (by omega) s461 Fu fun b462 iq463 hq463 H sq463 => Az (cs := [i0, si 1, si 2, si 3, si 4, si (-1)]) rfl (Au sq463 fun i464 H s465 => Bo hcode (by omega) (by omega) rfl s465 Aw (.here) fun z466a iq467 hq467 H mz466 sq467 => ?_)
 have s468 := (sq467.pick Aw).tail
 obtain ⟨z466, rfl, hz466⟩ := Ae (l := [0, 1, 2, 3, 4, (-1)]) (lo := -1) (hi := 4) mz466 (by decide)
 refine Bo hcode (by omega) (by omega) rfl s468 (.here) (.here) fun z469a iq470 hq470 H mz469 sq470 => ?_
 have s471 := (sq470.pick Aw).tail
 obtain ⟨z469, rfl, hz469⟩ := Ae (l := [0, 1, 2, 7, (-1)]) (lo := -1) (hi := 7) mz469 (by decide)
 refine Bi (cs' := [ss r5.fClient, si r5.fBorn, sb r5.fClean, si r5.fConn, si r5.fGen, si r5.fO.fLast, r5x6, r5x7, r5x8]) s471 Fu (Ac (Aa rfl (Aa rfl (Aa rfl (Aa rfl (Aa rfl (Aa rfl (Aa lr5x6 (Aa lr5x7 (Aa lr5x8 rfl)))))))))) rfl (Bb rfl) rfl fun H s472 => Ag s472 (.here) rfl ?_
 have e473 : SessB 700 (r5 : At) := by
  first | assumption | exact hinv | (apply Bc <;> first | assumption | omega | (unfold Ct; omega) | (intro z hz; cases hz; done))
 have e474 : -1 ≤ z466 ∧ z466 ≤ 4 := by
  first | omega | (simp only [Af, Ad]; omega) | (simp; omega)
 have e475 : -1 ≤ z469 ∧ z469 ≤ 7 := by
  first | omega | (simp only [Af, Ad]; omega) | (simp; omega)
 exact hk (r5 : At) r5x6 r5x7 r5x8 b462 z466 z469 _ lr5x6 lr5x7 lr5x8 e473 e474 e475 (s472.sel (.cons Bn (.cons Bn (.cons Bn It))))
 refine Az (cs := [i0, si 1, si 2, si 3, si 4, si (-1)]) rfl (Au s461 fun i476 H s477 => F4 hcode (by omega) s477 Xq fun b478 iq479 hq479 H sq479 => Bo hcode (by omega) (by omega) rfl sq479 (.here) (.here) fun z480a iq481 hq481 H mz480 sq481 => ?_)
 have s482 := (sq481.pick Aw).tail
 obtain ⟨z480, rfl, hz480⟩ := Ae (l := [0, 1, 2, 3, 4, (-1)]) (lo := -1) (hi := 4) mz480 (by decide)
 refine Bo hcode (by omega) (by omega) rfl s482 (.here) (.here) fun z483a iq484 hq484 H mz483 sq484 => ?_
 have s485 := (sq484.pick Aw).tail
 obtain ⟨z483, rfl, hz483⟩ := Ae (l := [0, 1, 2, 7, (-1)]) (lo := -1) (hi := 7) mz483 (by decide)
 refine Bi (cs' := [ss r5.fClient, si r5.fBorn, sb r5.fClean, si r5.fConn, si r5.fGen, si r5.fO.fLast, r5x6, r5x7, r5x8]) s485 Fu (Ac (Aa rfl (Aa rfl (Aa rfl (Aa rfl (Aa rfl (Aa rfl (Aa lr5x6 (Aa lr5x7 (Aa lr5x8 rfl)))))))))) rfl (Bb rfl) rfl fun H s486 => Ag s486 (.here) rfl ?_
 have e487 : SessB 700 (r5 : At) := by
  first | assumption | exact hinv | (apply Bc <;> first | assumption | omega | (unfold Ct; omega) | (intro z hz; cases hz; done))
 have e488 : -1 ≤ z480 ∧ z480 ≤ 4 := by
  first | omega | (simp only [Af, Ad]; omega) | (simp; omega)
 have e489 : -1 ≤ z483 ∧ z483 ≤ 7 := by
  first | omega | (simp only [Af, Ad]; omega) | (simp; omega)
 exact hk (r5 : At) r5x6 r5x7 r5x8 b478 z480 z483 _ lr5x6 lr5x7 lr5x8 e487 e488 e489 (s486.sel (.cons Bn (.cons Bn (.cons Bn It))))
 refine Gd.bothE ?_ ?_
 refine F4 hcode (by omega) s461 Fu fun b490 iq491 hq491 H sq491 => Gd.bothE ?_ ?_
 refine Ag sq491 Ca rfl (Az (cs := [i0, si 1, si 2, si 3, si 4, si (-1)]) rfl (Au sq491 fun i492 H s493 => Bo hcode (by omega) (by omega) rfl s493 Aw (.here) fun z494a iq495 hq495 H mz494 sq495 => ?_))
 have s496 := (sq495.pick Aw).tail
 obtain ⟨z494, rfl, hz494⟩ := Ae (l := [0, 1, 2, 3, 4, (-1)]) (lo := -1) (hi := 4) mz494 (by decide)
 refine Bo hcode (by omega) (by omega) rfl s496 (.here) (.here) fun z497a iq498 hq498 H mz497 sq498 => ?_
 have s499 := (sq498.pick Aw).tail
 obtain ⟨z497, rfl, hz497⟩ := Ae (l := [0, 1, 2, 7, (-1)]) (lo := -1) (hi := 7) mz497 (by decide)
 refine Bi (cs' := [ss r5.fClient, si r5.fBorn, sb r5.fClean, si r5.fConn, si r5.fGen, si r5.fO.fLast, r5x6, r5x7, r5x8]) s499 Fu (Ac (Aa rfl (Aa rfl (Aa rfl (Aa rfl (Aa rfl (Aa rfl (Aa lr5x6 (Aa lr5x7 (Aa lr5x8 rfl)))))))))) rfl (Bb rfl) rfl fun H s500 => Ag s500 (.here) rfl ?_
 have e501 : SessB 700 (r5 : At) := by
  first | assumption | exact hinv | (apply Bc <;> first | assumption | omega | (unfold Ct; omega) | (intro z hz; cases hz; done))
 have e502 : -1 ≤ z494 ∧ z494 ≤ 4 := by
  first | omega | (simp only [Af, Ad]; omega) | (simp; omega)
 have e503 : -1 ≤ z497 ∧ z497 ≤ 7 := by
  first | omega | (simp only [Af, Ad]; omega) | (simp; omega)
 exact hk (r5 : At) r5x6 r5x7 r5x8 b490 z494 z497 _ lr5x6 lr5x7 lr5x8 e501 e502 e503 (s500.sel (.cons Bn (.cons Bn (.cons Bn It))))
 refine Az (cs := [i0, si 1, si 2, si 3, si 4, si (-1)]) rfl (Au sq491 fun i504 H s505 => Gd.bothE ?_ ?_)
 refine Ag s505 Bn rfl (Bo hcode (by omega) (by omega) rfl s505 Aw (.here) fun z506a iq507 hq507 H mz506 sq507 => ?_)
 have s508 := (sq507.pick Aw).tail
 obtain ⟨z506, rfl, hz506⟩ := Ae (l := [0, 1, 2, 3, 4, (-1)]) (lo := -1) (hi := 4) mz506 (by decide)
 refine Bo hcode (by omega) (by omega) rfl s508 (.here) (.here) fun z509a iq510 hq510 H mz509 sq510 => ?_
 have s511 := (sq510.pick Aw).tail
 obtain ⟨z509, rfl, hz509⟩ := Ae (l := [0, 1, 2, 7, (-1)]) (lo := -1) (hi := 7) mz509 (by decide)
 refine Bi (cs' := [ss r5.fClient, si r5.fBorn, sb r5.fClean, si r5.fConn, si r5.fGen, si r5.fO.fLast, r5x6, r5x7, r5x8]) s511 Fu (Ac (Aa rfl (Aa rfl (Aa rfl (Aa rfl (Aa rfl (Aa rfl (Aa lr5x6 (Aa lr5x7 (Aa lr5x8 rfl)))))))))) rfl (Bb rfl) rfl fun H s512 => Ag s512 (.here) rfl ?_
 have e513 : SessB 700 (r5 : At) := by
  first | assumption | exact hinv | (apply Bc <;> first | assumption | omega | (unfold Ct; omega) | (intro z hz; cases hz; done))
 have e514 : -1 ≤ z506 ∧ z506 ≤ 4 := by
  first | omega | (simp only [Af, Ad]; omega) | (simp; omega)
 have e515 : -1 ≤ z509 ∧ z509 ≤ 7 := by
  first | omega | (simp only [Af, Ad]; omega) | (simp; omega)
 exact hk (r5 : At) r5x6 r5x7 r5x8 b490 z506 z509 _ lr5x6 lr5x7 lr5x8 e513 e514 e515 (s512.sel (.cons Bn (.cons Bn (.cons Bn It))))
 refine Bo hcode (by omega) (by omega) rfl s505 Aw (.here) fun z516a iq517 hq517 H mz516 sq517 => ?_
 have s518 := (sq517.pick Aw).tail
 obtain ⟨z516, rfl, hz516⟩ := Ae (l := [0, 1, 2, 3, 4, (-1)]) (lo := -1) (hi := 4) mz516 (by decide)
 refine Gd.bothE ?_ ?_
 refine Ag s518 Ca rfl (Bo hcode (by omega) (by omega) rfl s518 (.here) (.here) fun z519a iq520 hq520 H mz519 sq520 => ?_)
 have s521 := (sq520.pick Aw).tail
 obtain ⟨z519, rfl, hz519⟩ := Ae (l := [0, 1, 2, 7, (-1)]) (lo := -1) (hi := 7) mz519 (by decide)
 refine Bi (cs' := [ss r5.fClient, si r5.fBorn, sb r5.fClean, si r5.fConn, si r5.fGen, si r5.fO.fLast, r5x6, r5x7, r5x8]) s521 Fu (Ac (Aa rfl (Aa rfl (Aa rfl (Aa rfl (Aa rfl (Aa rfl (Aa lr5x6 (Aa lr5x7 (Aa lr5x8 rfl)))))))))) rfl (Bb rfl) rfl fun H s522 => Ag s522 (.here) rfl ?_
 have e523 : SessB 700 (r5 : At) := by
  first | assumption | exact hinv | (apply Bc <;> first | assumption | omega | (unfold Ct; omega) | (intro z hz; cases hz; done))
 have e524 : -1 ≤ z516 ∧ z516 ≤ 4 := by
  first | omega | (simp only [Af, Ad]; omega) | (simp; omega)
 have e525 : -1 ≤ z519 ∧ z519 ≤ 7 := by
  first | omega | (simp only [Af, Ad]; omega) | (simp; omega)
 exact hk (r5 : At) r5x6 r5x7 r5x8 b490 z516 z519 _ lr5x6 lr5x7 lr5x8 e523 e524 e525 (s522.sel (.cons Bn (.cons Bn (.cons Bn It))))
 refine Bo hcode (by omega) (by omega) rfl s518 (.here) (.here) fun z526a iq527 hq527 H mz526 sq527 => ?_
 have s528 := (sq527.pick Aw).tail
 obtain ⟨z526, rfl, hz526⟩ := Ae (l := [0, 1, 2, 7, (-1)]) (lo := -1) (hi := 7) mz526 (by decide)
 refine Ag s528 Aw rfl (Bi (cs' := [ss r5.fClient, si r5.fBorn, sb r5.fClean, si r5.fConn, si r5.fGen, si r5.fO.fLast, r5x6, r5x7, r5x8]) s528 Fu (Ac (Aa rfl (Aa rfl (Aa rfl (Aa rfl (Aa rfl (Aa rfl (Aa lr5x6 (Aa lr5x7 (Aa lr5x8 rfl)))))))))) rfl (Bb rfl) rfl fun H s529 => Ag s529 (.here) rfl ?_)
 have e530 : SessB 700 (r5 : At) := by
  first | assumption | exact hinv | (apply Bc <;> first | assumption | omega | (unfold Ct; omega) | (intro z hz; cases hz; done))
 have e531 : -1 ≤ z516 ∧ z516 ≤ 4 := by
  first | omega | (simp only [Af, Ad]; omega) | (simp; omega)
 have e532 : -1 ≤ z526 ∧ z526 ≤ 7 := by
  first | omega | (simp only [Af, Ad]; omega) | (simp; omega)
 exact hk (r5 : At) r5x6 r5x7 r5x8 b490 z516 z526 _ lr5x6 lr5x7 lr5x8 e530 e531 e532 (s529.sel (.cons Bn (.cons Bn (.cons Bn It))))
 refine Az (cs := [i0, si 1, si 2, si 3, si 4, si (-1)]) rfl (Au s461 fun i533 H s534 => Gd.bothE ?_ ?_)
 refine Ag s534 Ca rfl (F4 hcode (by omega) s534 Xq fun b535 iq536 hq536 H sq536 => Bo hcode (by omega) (by omega) rfl sq536 (.here) (.here) fun z537a iq538 hq538 H mz537 sq538 => ?_)
 have s539 := (sq538.pick Aw).tail
 obtain ⟨z537, rfl, hz537⟩ := Ae (l := [0, 1, 2, 3, 4, (-1)]) (lo := -1) (hi := 4) mz537 (by decide)
 refine Bo hcode (by omega) (by omega) rfl s539 (.here) (.here) fun z540a iq541 hq541 H mz540 sq541 => ?_
 have s542 := (sq541.pick Aw).tail
 obtain ⟨z540, rfl, hz540⟩ := Ae (l := [0, 1, 2, 7, (-1)]) (lo := -1) (hi := 7) mz540 (by decide)
 refine Bi (cs' := [ss r5.fClient, si r5.fBorn, sb r5.fClean, si r5.fConn, si r5.fGen, si r5.fO.fLast, r5x6, r5x7, r5x8]) s542 Fu (Ac (Aa rfl (Aa rfl (Aa rfl (Aa rfl (Aa rfl (Aa rfl (Aa lr5x6 (Aa lr5x7 (Aa lr5x8 rfl)))))))))) rfl (Bb rfl) rfl fun H s543 => Ag s543 (.here) rfl ?_
 have e544 : SessB 700 (r5 : At) := by
  first | assumption | exact hinv | (apply Bc <;> first | assumption | omega | (unfold Ct; omega) | (intro z hz; cases hz; done))
 have e545 : -1 ≤ z537 ∧ z537 ≤ 4 := by
  first | omega | (simp only [Af, Ad]; omega) | (simp; omega)
 have e546 : -1 ≤ z540 ∧ z540 ≤ 7 := by
  first | omega | (simp only [Af, Ad]; omega) | (simp; omega)
 exact hk (r5 : At) r5x6 r5x7 r5x8 b535 z537 z540 _ lr5x6 lr5x7 lr5x8 e544 e545 e546 (s543.sel (.cons Bn (.cons Bn (.cons Bn It))))
 refine F4 hcode (by omega) s534 Xq fun b547 iq548 hq548 H sq548 => Gd.bothE ?_ ?_
 refine Ag sq548 Bn rfl (Bo hcode (by omega) (by omega) rfl sq548 (.here) (.here) fun z549a iq550 hq550 H mz549 sq550 => ?_)
 have s551 := (sq550.pick Aw).tail
 obtain ⟨z549, rfl, hz549⟩ := Ae (l := [0, 1, 2, 3, 4, (-1)]) (lo := -1) (hi := 4) mz549 (by decide)
 refine Bo hcode (by omega) (by omega) rfl s551 (.here) (.here) fun z552a iq553 hq553 H mz552 sq553 => ?_
 have s554 := (sq553.pick Aw).tail
 obtain ⟨z552, rfl, hz552⟩ := Ae (l := [0, 1, 2, 7, (-1)]) (lo := -1) (hi := 7) mz552 (by decide)
 refine Bi (cs' := [ss r5.fClient, si r5.fBorn, sb r5.fClean, si r5.fConn, si r5.fGen, si r5.fO.fLast, r5x6, r5x7, r5x8]) s554 Fu (Ac (Aa rfl (Aa rfl (Aa rfl (Aa rfl (Aa rfl (Aa rfl (Aa lr5x6 (Aa lr5x7 (Aa lr5x8 rfl)))))))))) rfl (Bb rfl) rfl fun H s555 => Ag s555 (.here) rfl ?_
 have e556 : SessB 700 (r5 : At) := by
  first | assumption | exact hinv | (apply Bc <;> first | assumption | omega | (unfold Ct; omega) | (intro z hz; cases hz; done))
 have e557 : -1 ≤ z549 ∧ z549 ≤ 4 := by
  first | omega | (simp only [Af, Ad]; omega) | (simp; omega)
 have e558 : -1 ≤ z552 ∧ z552 ≤ 7 := by
  first | omega | (simp only [Af, Ad]; omega) | (simp; omega)
 exact hk (r5 : At) r5x6 r5x7 r5x8 b547 z549 z552 _ lr5x6 lr5x7 lr5x8 e556 e557 e558 (s555.sel (.cons Bn (.cons Bn (.cons Bn It))))
 refine Bo hcode (by omega) (by omega) rfl sq548 (.here) (.here) fun z559a iq560 hq560 H mz559 sq560 => ?_
 have s561 := (sq560.pick Aw).tail
 obtain ⟨z559, rfl, hz559⟩ := Ae (l := [0, 1, 2, 3, 4, (-1)]) (lo := -1) (hi := 4) mz559 (by decide)
 refine Gd.bothE ?_ ?_
 refine Ag s561 Ca rfl (Bo hcode (by omega) (by omega) rfl s561 (.here) (.here) fun z562a iq563 hq563 H mz562 sq563 => ?_)
 have s564 := (sq563.pick Aw).tail
 obtain ⟨z562, rfl, hz562⟩ := Ae (l := [0, 1, 2, 7, (-1)]) (lo := -1) (hi := 7) mz562 (by decide)
 refine Bi (cs' := [ss r5.fClient, si r5.fBorn, sb r5.fClean, si r5.fConn, si r5.fGen, si r5.fO.fLast, r5x6, r5x7, r5x8]) s564 Fu (Ac (Aa rfl (Aa rfl (Aa rfl (Aa rfl (Aa rfl (Aa rfl (Aa lr5x6 (Aa lr5x7 (Aa lr5x8 rfl)))))))))) rfl (Bb rfl) rfl fun H s565 => Ag s565 (.here) rfl ?_
 have e566 : SessB 700 (r5 : At) := by
  first | assumption | exact hinv | (apply Bc <;> first | assumption | omega | (unfold Ct; omega) | (intro z hz; cases hz; done))
 have e567 : -1 ≤ z559 ∧ z559 ≤ 4 := by
  first | omega | (simp only [Af, Ad]; omega) | (simp; omega)
 have e568 : -1 ≤ z562 ∧ z562 ≤ 7 := by
  first | omega | (simp only [Af, Ad]; omega) | (simp; omega)
 exact hk (r5 : At) r5x6 r5x7 r5x8 b547 z559 z562 _ lr5x6 lr5x7 lr5x8 e566 e567 e568 (s565.sel (.cons Bn (.cons Bn (.cons Bn It))))
 refine Bo hcode (by omega) (by omega) rfl s561 (.here) (.here) fun z569a iq570 hq570 H mz569 sq570 => ?_
 have s571 := (sq570.pick Aw).tail
 obtain ⟨z569, rfl, hz569⟩ := Ae (l := [0, 1, 2, 7, (-1)]) (lo := -1) (hi := 7) mz569 (by decide)
 refine Ag s571 Aw rfl (Bi (cs' := [ss r5.fClient, si r5.fBorn, sb r5.fClean, si r5.fConn, si r5.fGen, si r5.fO.fLast, r5x6, r5x7, r5x8]) s571 Fu (Ac (Aa rfl (Aa rfl (Aa rfl (Aa rfl (Aa rfl (Aa rfl (Aa lr5x6 (Aa lr5x7 (Aa lr5x8 rfl)))))))))) rfl (Bb rfl) rfl fun H s572 => Ag s572 (.here) rfl ?_)
 have e573 : SessB 700 (r5 : At) := by
  first | assumption | exact hinv | (apply Bc <;> first | assumption | omega | (unfold Ct; omega) | (intro z hz; cases hz; done))
 have e574 : -1 ≤ z559 ∧ z559 ≤ 4 := by
  first | omega | (simp only [Af, Ad]; omega) | (simp; omega)
 have e575 : -1 ≤ z569 ∧ z569 ≤ 7 := by
  first | omega | (simp only [Af, Ad]; omega) | (simp; omega)
 exact hk (r5 : At) r5x6 r5x7 r5x8 b547 z559 z569 _ lr5x6 lr5x7 lr5x8 e573 e574 e575 (s572.sel (.cons Bn (.cons Bn (.cons Bn It))))
theorem Ut (n : Nat) (hn : 1048576 < n) (code : ByteArray) (hcode : code.size ≤ 1048576)   {β : Type} {G : Option β → Prop} {KH : KO β} {H : Ab} {L : List Ck} (s0 : Sep H (L)) (hk : ∀ (r0 : ByteArray) (r1 : Int) (r2 : Bool) (r3 : Int) (r4 : Int) (H' : Ab), (r0.size ≤ 61) → (-1 ≤ r1 ∧ r1 ≤ 3) → (-2 ≤ r3 ∧ r3 ≤ 4) → (-1 ≤ r4 ∧ r4 ≤ 2) → Sep H' (L) → Gd G (KH (.tup [.sc (.string r0), .sc (.int .i64 r1), .sc (.bool r2), .sc (.int .i64 r3), .sc (.int .i64 r4)]) H')) : Gd G (Dd E0 (n + 8) β 30 [Bt code] H fun x H => KH x H) := by
 rw [Ahv, f30]
 try simp only [Te, Td]
 refine AjJ hcode (by omega) s0 fun c1 hq2 H sq2 => Gx rfl rfl (Aas _ (by omega) code hcode c1 0 hq2   (sq2.pick (.here)) fun r3 iq4 hq4 H hr3 sq4 => F4 hcode (by omega) sq4 (.here) fun b5 iq6 hq6 H sq6 => Ia (Ah (b5) (fun h7 => ?_) fun h7 => ?_))
 refine Dk h7 (Gx rfl rfl (AfQ _ (by omega) code hcode c1 iq6 hq6   (sq6.pick (.here)) fun r8 iq9 hq9 H hr8 sq9 => Az (cs := [i0, si 1, si 2, si 3, si (-1)]) rfl (Au sq9 fun i10 H s11 => Bo hcode (by omega) (by omega) rfl s11 Aw (.here) fun z12a iq13 hq13 H mz12 sq13 => ?_)))
 have s14 := (sq13.pick Aw).tail
 obtain ⟨z12, rfl, hz12⟩ := Ae (l := [0, 1, 2, 3, (-1)]) (lo := -1) (hi := 3) mz12 (by decide)
 refine F4 hcode (by omega) s14 (.here) fun b15 iq16 hq16 H sq16 => Az (cs := [i0, si 1, si 2, si 3, si 4, si (-1), si (-2)]) rfl (Au sq16 fun i17 H s18 => Bo hcode (by omega) (by omega) rfl s18 Aw (.here) fun z19a iq20 hq20 H mz19 sq20 => ?_)
 have s21 := (sq20.pick Aw).tail
 obtain ⟨z19, rfl, hz19⟩ := Ae (l := [0, 1, 2, 3, 4, (-1), (-2)]) (lo := -2) (hi := 4) mz19 (by decide)
 refine Az (cs := [i0, si 1, si 2, si (-1)]) rfl (Au s21 fun i22 H s23 => Bo hcode (by omega) (by omega) rfl s23 Aw (.here) fun z24a iq25 hq25 H mz24 sq25 => ?_)
 have s26 := (sq25.pick Aw).tail
 obtain ⟨z24, rfl, hz24⟩ := Ae (l := [0, 1, 2, (-1)]) (lo := -1) (hi := 2) mz24 (by decide)
 have e27 : r8.size ≤ 61 := by
  first | omega | (simp only [Af, Ad]; omega) | (simp; omega)
 have e28 : -1 ≤ z12 ∧ z12 ≤ 3 := by
  first | omega | (simp only [Af, Ad]; omega) | (simp; omega)
 have e29 : -2 ≤ z19 ∧ z19 ≤ 4 := by
  first | omega | (simp only [Af, Ad]; omega) | (simp; omega)
 have e30 : -1 ≤ z24 ∧ z24 ≤ 2 := by
  first | omega | (simp only [Af, Ad]; omega) | (simp; omega)
 exact hk r8 z12 b15 z19 z24 _ e27 e28 e29 e30 (s26.sel (.skip .rest))
 refine Ci h7 (Az (cs := [i0, si 1, si 2, si 3, si (-1)]) rfl (Au sq6 fun i31 H s32 => Bo hcode (by omega) (by omega) rfl s32 Aw (.here) fun z33a iq34 hq34 H mz33 sq34 => ?_))
 have s35 := (sq34.pick Aw).tail
 obtain ⟨z33, rfl, hz33⟩ := Ae (l := [0, 1, 2, 3, (-1)]) (lo := -1) (hi := 3) mz33 (by decide)
 refine F4 hcode (by omega) s35 (.here) fun b36 iq37 hq37 H sq37 => Az (cs := [i0, si 1, si 2, si 3, si 4, si (-1), si (-2)]) rfl (Au sq37 fun i38 H s39 => Bo hcode (by omega) (by omega) rfl s39 Aw (.here) fun z40a iq41 hq41 H mz40 sq41 => ?_)
 have s42 := (sq41.pick Aw).tail
 obtain ⟨z40, rfl, hz40⟩ := Ae (l := [0, 1, 2, 3, 4, (-1), (-2)]) (lo := -2) (hi := 4) mz40 (by decide)
 refine Az (cs := [i0, si 1, si 2, si (-1)]) rfl (Au s42 fun i43 H s44 => Bo hcode (by omega) (by omega) rfl s44 Aw (.here) fun z45a iq46 hq46 H mz45 sq46 => ?_)
 have s47 := (sq46.pick Aw).tail
 obtain ⟨z45, rfl, hz45⟩ := Ae (l := [0, 1, 2, (-1)]) (lo := -1) (hi := 2) mz45 (by decide)
 have e48 : r3.size ≤ 61 := by
  first | omega | (simp only [Af, Ad]; omega) | (simp; omega)
 have e49 : -1 ≤ z33 ∧ z33 ≤ 3 := by
  first | omega | (simp only [Af, Ad]; omega) | (simp; omega)
 have e50 : -2 ≤ z40 ∧ z40 ≤ 4 := by
  first | omega | (simp only [Af, Ad]; omega) | (simp; omega)
 have e51 : -1 ≤ z45 ∧ z45 ≤ 2 := by
  first | omega | (simp only [Af, Ad]; omega) | (simp; omega)
 exact hk r3 z33 b36 z40 z45 _ e48 e49 e50 e51 (s47.sel (.skip .rest))
theorem Rv (n : Nat) (hn : 1048576 < n) (code : ByteArray) (k0 : Iq code) : C1 E0 (n + 34) 4 5 [Bt code] = some (.sc (.bool true)) := by
 rw [A6, AiC, f5]
 refine H0 (G := (· = some bT)) ?_
 simp only [Te, Td]
 have s0 : Sep [] [] := Hz
 refine D4 (v := .bool (decide ((1048576 : Int) < (code.size : Nat)))) s0 rfl (.cons .ro .nil) (AjW (n + 32) _ code) ?_
 by_cases hcode : code.size ≤ 1048576
 refine Ci (decide_eq_false (by omega)) (Gx rfl rfl (AaQ _ (by omega) code hcode   s0 fun r1 r1x6 r1x7 r1x8 r2 r3 r4 H lr1x6 lr1x7 lr1x8 hr1 hr3 hr4 s5 => ?_))
 have kr1 := hr1
 obtain ⟨⟨oar1, obr1, ocr1, odr1, oer1, ofr1⟩, wr1⟩ := kr1
 have gr1 := My hr1
 refine Ez (v := .agg [ss r1.fClient, si r1.fBorn, sb r1.fClean, si r1.fConn, si r1.fGen, si r1.fO.fLast, r1x6, r1x7, r1x8]) rfl (Ez (v := sb r2) rfl (Ez (v := si r3) rfl (Ez (v := si r4) rfl (D1 s5 fun i6 H s7 => Bi (cs' := [ss r1.fClient, si r1.fBorn, sb r1.fClean, si r1.fConn, si r1.fGen, si r1.fO.fLast, r1x6, r1x7, r1x8]) s7 (.here) (Ac (Aa rfl (Aa rfl (Aa rfl (Aa rfl (Aa rfl (Aa rfl (Aa lr1x6 (Aa lr1x7 (Aa lr1x8 rfl)))))))))) rfl (Bb rfl) rfl fun H s8 => Ag s8 (.here) rfl ?_))))
 obtain ⟨v9, ev9, bv9, tv9⟩ := AjR (n + 21) (by omega) r1 r2 r3 r4 hr1 (by simp only [Ct]; omega) (by simp only [Ct]; omega)
 refine Fi s8 rfl (.agg (Iz (.cons (.own (by decide) Aw) (.cons (.own (by decide) Ca) (.cons (.own (by decide) Bn) .nil)))) (vS3 .nil)) (tv9) ⟨_, rfl, rfl⟩ (Jb _) ?_
 rintro _ _ H ⟨x10, x11, x12, lx10, lx11, lx12, rfl, rfl⟩ s13
 simp only [zah, zax] at s13
 refine D1 s13 fun i14 H s15 => Bi (cs' := [ss v9.fClient, si v9.fBorn, sb v9.fClean, si v9.fConn, si v9.fGen, si v9.fO.fLast, x10, x11, x12]) s15 (.here) (Ac (Aa rfl (Aa rfl (Aa rfl (Aa rfl (Aa rfl (Aa rfl (Aa lx10 (Aa lx11 (Aa lx12 rfl)))))))))) rfl (Bb rfl) rfl fun H s16 => Ag s16 (.here) rfl ?_
 obtain ⟨v17, ev17, bv17, tv17⟩ := Ais (n + 21) (by omega) v9 bv9
 have hov17 := congrArg (fun (o : Bv) => o.fQ.length) (Lu ev9 ev17)
 have hiv17 := congrArg List.length (AgR ev9 ev17)
 refine Fi s16 rfl (.agg (Iz (.cons (.own (by decide) Bn) (.cons (.own (by decide) Ca) (.cons (.own (by decide) Aw) .nil)))) .nil) (tv17) ⟨_, rfl, rfl⟩ (Jb _) ?_
 rintro _ _ H ⟨x18, x19, x20, lx18, lx19, lx20, rfl, rfl⟩ s21
 simp only [zah, zax] at s21
 refine D1 s21 fun i22 H s23 => Bi (cs' := [ss v17.fClient, si v17.fBorn, sb v17.fClean, si v17.fConn, si v17.fGen, si v17.fO.fLast, x18, x19, x20]) s23 (.here) (Ac (Aa rfl (Aa rfl (Aa rfl (Aa rfl (Aa rfl (Aa rfl (Aa lx18 (Aa lx19 (Aa lx20 rfl)))))))))) rfl (Bb rfl) rfl fun H s24 => Gx rfl rfl (Ut _ (by omega) code hcode   s24 fun r25 r26 r27 r28 r29 H hr25 hr26 hr28 hr29 s30 => Ez (v := ss r25) rfl (Ez (v := si r26) rfl (Ez (v := sb r27) rfl (Ez (v := si r28) rfl (Ez (v := si r29) rfl ?_)))))
 obtain ⟨v31, bv31, tv31, uv31⟩ := Akr (n + 21) (by omega) r25 r26 r27 r28 r29 (by omega) (by simp only [Ct]; omega) (by simp only [Ct]; omega) (by simp only [Ct]; omega)
 refine Fi s30 rfl (S0 .nil) (tv31) ⟨_, rfl, rfl⟩ (Jb _) ?_
 rintro _ _ H ⟨x32, x33, x34, lx32, lx33, lx34, rfl, rfl⟩ s35
 simp only [zah, zax] at s35
 refine D1 s35 fun i36 H s37 => Bi (cs' := [ss v31.fClient, si v31.fBorn, sb v31.fClean, si v31.fConn, si v31.fGen, si v31.fO.fLast, x32, x33, x34]) s37 (.here) (Ac (Aa rfl (Aa rfl (Aa rfl (Aa rfl (Aa rfl (Aa rfl (Aa lx32 (Aa lx33 (Aa lx34 rfl)))))))))) rfl (Bb rfl) rfl fun H s38 => Ag s38 Agy rfl (Ag s38 Agy rfl (D4 (v := (.bool (Cx r1))) s38 rfl (.agg (Iz (.cons (.own (by decide) Vp) (.cons (.own (by decide) Agz) (.cons (.own (by decide) Vq) .nil)))) .nil) (Hn (n + 22) (by omega) _ r1 (C0 r1 (zar hr1.wt (by decide))).1 (C0 r1 (zar hr1.wt (by decide))).2.1 (C0 r1 (zar hr1.wt (by decide))).2.2) (D4 (v := (.bool (Cx r1))) s38 rfl (.agg (Iz (.cons (.own (by decide) Vp) (.cons (.own (by decide) Agz) (.cons (.own (by decide) Vq) .nil)))) .nil) (Mz (n + 22) (by omega) _ r1 (C0 r1 (zar hr1.wt (by decide))).1 (C0 r1 (zar hr1.wt (by decide))).2.1 (C0 r1 (zar hr1.wt (by decide))).2.2) (Yz (v := sb (!((Cx r1) == (Cx r1)))) (fun k => rfl) (Bd (nF (beq_self_eq_true _)) (Ag s38 (.here) rfl (Bd (nF (beq_self_eq_true _)) (Bd (nF (beq_self_eq_true _)) (Bd (nF (beq_self_eq_true _)) (Bd (nF (beq_self_eq_true _)) (Bd (nF (beq_self_eq_true _)) (Bd (nF (beq_self_eq_true _)) ?_))))))))))))
 refine D4 (v := (.bool (Cx v31))) s38 rfl (.agg (Iz (.cons (.own (by decide) Bn) (.cons (.own (by decide) Ca) (.cons (.own (by decide) Aw) .nil)))) .nil) (Hn (n + 22) (by omega) _ v31 (C0 v31 (zar bv31.wt (by decide))).1 (C0 v31 (zar bv31.wt (by decide))).2.1 (C0 v31 (zar bv31.wt (by decide))).2.2) (Bd (nF (beq_self_eq_true _)) (Fi s38 rfl (S0 .nil) (uv31) ⟨_, rfl, rfl⟩ (Jb _) ?_))
 rintro _ _ H ⟨x39, x40, x41, lx39, lx40, lx41, rfl, rfl⟩ s42
 simp only [zah, zax] at s42
 refine Bd (nF (beq_self_eq_true _)) (D4 (v := (.bool (Cx v31))) s42 rfl (.agg (Iz (.cons (.own (by decide) Ca) (.cons (.own (by decide) Aw) (.cons (.own (by decide) (.here)) .nil)))) .nil) (Mz (n + 22) (by omega) _ v31 (C0 v31 (zar bv31.wt (by decide))).1 (C0 v31 (zar bv31.wt (by decide))).2.1 (C0 v31 (zar bv31.wt (by decide))).2.2) (Bd (nF (beq_self_eq_true _)) (Yz (v := sb (!((Cx v31) == (Cx v31)))) (fun k => rfl) (Fq (nF (beq_self_eq_true _)) (Ci (nF (beq_self_eq_true _)) (Ag s42 Vq rfl (D4 (v := (.bool (Cx r1))) s42 rfl (.agg (Iz (.cons (.own (by decide) AjS) (.cons (.own (by decide) AjT) (.cons (.own (by decide) AjU) .nil)))) .nil) (Hn (n + 22) (by omega) _ r1 (C0 r1 (zar hr1.wt (by decide))).1 (C0 r1 (zar hr1.wt (by decide))).2.1 (C0 r1 (zar hr1.wt (by decide))).2.2) (Hw (Ah ((Cx r1)) (fun h43 => ?_) fun h43 => ?_)))))))))
 refine Ci (nF h43) (Ag s42 Hl rfl (D4 (v := (.bool (Cx v9))) s42 rfl (.agg (Iz (.cons (.own (by decide) Agz) (.cons (.own (by decide) Vp) (.cons (.own (by decide) Agy) .nil)))) .nil) (Hn (n + 22) (by omega) _ v9 (C0 v9 (zar bv9.wt (by decide))).1 (C0 v9 (zar bv9.wt (by decide))).2.1 (C0 v9 (zar bv9.wt (by decide))).2.2) (Hw (Bd (nF (Kc ev9 h43)) (Ag s42 S4 rfl (Bd (nF (Kc ev9 h43)) (D4 (v := (.bool (Cx v17))) s42 rfl (.agg (Iz (.cons (.own (by decide) Vo) (.cons (.own (by decide) D3) (.cons (.own (by decide) zP8) .nil)))) .nil) (Hn (n + 22) (by omega) _ v17 (C0 v17 (zar bv17.wt (by decide))).1 (C0 v17 (zar bv17.wt (by decide))).2.1 (C0 v17 (zar bv17.wt (by decide))).2.2) (Bd (nF (Kc ev9 h43)) (Hw (Fq (nF (Kc ev9 h43)) (Bd (nF (Uk ev17 (Kc ev9 h43))) (An (o' := 1) rfl (Bd (nF (Uk ev17 (Kc ev9 h43))) (Bg (c := si v17.fBorn) s42 S4 rfl (Bd (nF (Uk ev17 (Kc ev9 h43))) (An (o' := 1) rfl (Bd (nF (Uk ev17 (Kc ev9 h43))) (Bg (c := si r1.fBorn) s42 Vq rfl (Bd (nF (Uk ev17 (Kc ev9 h43))) (M5 (Fq (nF (Uk ev17 (Kc ev9 h43))) (Bd (nF (decide_eq_true (Io ev9 ev17))) (An (o' := 5) rfl (Bd (nF (decide_eq_true (Io ev9 ev17))) (An (o' := 7) rfl (Bd (nF (decide_eq_true (Io ev9 ev17))) ?_))))))))))))))))))))))))))
 refine Bg (c := x19) s42 S4 rfl (Bd (nF (decide_eq_true (Io ev9 ev17))) (Kd s42 D3 (Bd (nF (decide_eq_true (Io ev9 ev17))) (An (o' := 5) rfl (Bd (nF (decide_eq_true (Io ev9 ev17))) (An (o' := 7) rfl (Bd (nF (decide_eq_true (Io ev9 ev17))) (Bg (c := r1x7) s42 Vq rfl (Bd (nF (decide_eq_true (Io ev9 ev17))) (Kd s42 AjT (Bd (nF (decide_eq_true (Io ev9 ev17))) (M5 (Fq (nF (decide_eq_true (Io ev9 ev17))) (Bd (nF (decide_eq_true (by rw [Lu ev9 ev17]))) (An (o' := 5) rfl (Bd (nF (decide_eq_true (by rw [Lu ev9 ev17]))) (An (o' := 6) rfl (Bd (nF (decide_eq_true (by rw [Lu ev9 ev17]))) (Bg (c := x18) s42 S4 rfl (Bd (nF (decide_eq_true (by rw [Lu ev9 ev17]))) (Kd s42 Vo (Bd (nF (decide_eq_true (by rw [Lu ev9 ev17]))) (An (o' := 5) rfl (Bd (nF (decide_eq_true (by rw [Lu ev9 ev17]))) (An (o' := 6) rfl (Bd (nF (decide_eq_true (by rw [Lu ev9 ev17]))) (Bg (c := r1x6) s42 Vq rfl (Bd (nF (decide_eq_true (by rw [Lu ev9 ev17]))) (Kd s42 AjS (Bd (nF (decide_eq_true (by rw [Lu ev9 ev17]))) (M5 (Fq (nF (decide_eq_true (by rw [Lu ev9 ev17]))) (Bd (nF (decide_eq_true (by rw [Lu ev9 ev17]))) (An (o' := 8) rfl (Bd (nF (decide_eq_true (by rw [Lu ev9 ev17]))) (Bg (c := x20) s42 S4 rfl (Bd (nF (decide_eq_true (by rw [Lu ev9 ev17]))) (An (o' := 8) rfl (Bd (nF (decide_eq_true (by rw [Lu ev9 ev17]))) ?_)))))))))))))))))))))))))))))))))))))))
 refine Bg (c := r1x8) s42 Vq rfl (Bd (nF (decide_eq_true (by rw [Lu ev9 ev17]))) (D4 (v := (.bool true)) s42 rfl (.cons (.own (by decide) zP8) (.cons (.own (by decide) AjU) .nil)) (AbQ (n + 30) (by omega) v17.fIn r1.fIn (AgR ev9 ev17) (by omega)) (Bd (nF (decide_eq_true (by rw [Lu ev9 ev17]))) (Hw (Fq (nF (decide_eq_true (by rw [Lu ev9 ev17]))) (Ci (nF rfl) (AgH (Ah ((decide (0 ≤ r3))) (fun h44 => ?_) fun h44 => ?_))))))))
 refine Bd h44 (Bd h44 (Aaq (Hh h44 (Ah ((decide (r3 ≤ 3))) (fun h45 => ?_) fun h45 => ?_))))
 refine Bd h45 (Bd h45 (AgH (Hh h45 (Ah ((decide (0 ≤ r4))) (fun h46 => ?_) fun h46 => ?_))))
 refine Bd h46 (Ag s42 Hl rfl (Bd h46 (Bd h46 (Bd h46 (D4 (v := (.bool (decide (v9.fConn = r3) && decide (v9.fGen = r4)))) s42 rfl (.agg (Iz (.cons (.own (by decide) Agz) (.cons (.own (by decide) Vp) (.cons (.own (by decide) Agy) .nil)))) (Nb .nil)) (AbE (n + 31) (by omega) v9 r3 r4) (Bd h46 (Hw (Bd h46 (Bd (nF (Oy ev9 h43 h44 h45 h46)) (An (o' := 2) rfl (Bd (nF (Oy ev9 h43 h44 h45 h46)) (Bg (c := sb v9.fClean) s42 Hl rfl (Bd (nF (Oy ev9 h43 h44 h45 h46)) (Bd (nF (Oy ev9 h43 h44 h45 h46)) (Yz (v := sb (!(v9.fClean == r2))) (fun k => rfl) (Bd h46 (Fq (nF (Oy ev9 h43 h44 h45 h46)) (Hh h46 (Ci (nF (Ae3 ev9 h43 h44 h45 h46)) (An (o' := 2) rfl (Bg (c := sb v9.fClean) s42 Hl rfl (Ah (v9.fClean) (fun h47 => ?_) fun h47 => ?_))))))))))))))))))))))
 exact Bd h47 (An (o' := 3) rfl (Bd h47 (Bg (c := si v17.fConn) s42 S4 rfl (Bd h47 (An (o' := 3) rfl (Bd h47 (Bg (c := si v9.fConn) s42 Hl rfl (Bd h47 (Cd (Hh h47 (Cb (decide_eq_true (D2 ev17 h47)) (Cb (decide_eq_true (D2 ev17 h47)) (Cb (decide_eq_true (D2 ev17 h47)) (Cb (decide_eq_true (D2 ev17 h47)) (H9 (H9 (H9 (Cb (decide_eq_true (D2 ev17 h47)) (Hh (decide_eq_true (D2 ev17 h47)) (D5 rfl (congrArg (fun b => some (AV.sc (.bool b))) rfl)))))))))))))))))))))
 exact Cb h47 (Cb h47 (Cb h47 (Cb h47 (Cb h47 (Fq h47 (Bd rfl (An (o' := 2) rfl (Bd rfl (Bg (c := sb v9.fClean) s42 Hl rfl (Bd rfl (Hw (Bd rfl (Bd (nT h47) (An (o' := 3) rfl (Bd (nT h47) (Bg (c := si v17.fConn) s42 S4 rfl (Bd (nT h47) (Cd (Bd rfl (Hh (nT h47) (Fq rfl (D5 rfl (congrArg (fun b => some (AV.sc (.bool b))) (decide_eq_true (Vl ev17 h47 (Kc ev9 h43))))))))))))))))))))))))))
 refine Cb h46 (Cb h46 (Cb h46 (Cb h46 (Cb h46 (Cb h46 (H9 (H9 (H9 (H9 (Cb h46 (Fq h46 (Ci rfl (An (o' := 2) rfl (Bg (c := sb v9.fClean) s42 Hl rfl (Ah (v9.fClean) (fun h48 => ?_) fun h48 => ?_)))))))))))))))
 exact Bd h48 (An (o' := 3) rfl (Bd h48 (Bg (c := si v17.fConn) s42 S4 rfl (Bd h48 (An (o' := 3) rfl (Bd h48 (Bg (c := si v9.fConn) s42 Hl rfl (Bd h48 (Cd (Hh h48 (Cb (decide_eq_true (D2 ev17 h48)) (Cb (decide_eq_true (D2 ev17 h48)) (Cb (decide_eq_true (D2 ev17 h48)) (Cb (decide_eq_true (D2 ev17 h48)) (H9 (H9 (H9 (Cb (decide_eq_true (D2 ev17 h48)) (Hh (decide_eq_true (D2 ev17 h48)) (D5 rfl (congrArg (fun b => some (AV.sc (.bool b))) rfl)))))))))))))))))))))
 exact Cb h48 (Cb h48 (Cb h48 (Cb h48 (Cb h48 (Fq h48 (Bd rfl (An (o' := 2) rfl (Bd rfl (Bg (c := sb v9.fClean) s42 Hl rfl (Bd rfl (Hw (Bd rfl (Bd (nT h48) (An (o' := 3) rfl (Bd (nT h48) (Bg (c := si v17.fConn) s42 S4 rfl (Bd (nT h48) (Cd (Bd rfl (Hh (nT h48) (Fq rfl (D5 rfl (congrArg (fun b => some (AV.sc (.bool b))) (decide_eq_true (Vl ev17 h48 (Kc ev9 h43))))))))))))))))))))))))))
 refine Cb h45 (Cb h45 (Fq h45 (Cb rfl (Cb rfl (Cb rfl (Cb rfl (Cb rfl (Cb rfl (H9 (H9 (H9 (H9 (Cb rfl (Fq rfl (Ci rfl (An (o' := 2) rfl (Bg (c := sb v9.fClean) s42 Hl rfl (Ah (v9.fClean) (fun h49 => ?_) fun h49 => ?_))))))))))))))))))
 exact Bd h49 (An (o' := 3) rfl (Bd h49 (Bg (c := si v17.fConn) s42 S4 rfl (Bd h49 (An (o' := 3) rfl (Bd h49 (Bg (c := si v9.fConn) s42 Hl rfl (Bd h49 (Cd (Hh h49 (Cb (decide_eq_true (D2 ev17 h49)) (Cb (decide_eq_true (D2 ev17 h49)) (Cb (decide_eq_true (D2 ev17 h49)) (Cb (decide_eq_true (D2 ev17 h49)) (H9 (H9 (H9 (Cb (decide_eq_true (D2 ev17 h49)) (Hh (decide_eq_true (D2 ev17 h49)) (D5 rfl (congrArg (fun b => some (AV.sc (.bool b))) rfl)))))))))))))))))))))
 exact Cb h49 (Cb h49 (Cb h49 (Cb h49 (Cb h49 (Fq h49 (Bd rfl (An (o' := 2) rfl (Bd rfl (Bg (c := sb v9.fClean) s42 Hl rfl (Bd rfl (Hw (Bd rfl (Bd (nT h49) (An (o' := 3) rfl (Bd (nT h49) (Bg (c := si v17.fConn) s42 S4 rfl (Bd (nT h49) (Cd (Bd rfl (Hh (nT h49) (Fq rfl (D5 rfl (congrArg (fun b => some (AV.sc (.bool b))) (decide_eq_true (Vl ev17 h49 (Kc ev9 h43))))))))))))))))))))))))))
 refine Cb h44 (Cb h44 (Fq h44 (Cb rfl (Cb rfl (Fq rfl (Cb rfl (Cb rfl (Cb rfl (Cb rfl (Cb rfl (Cb rfl (H9 (H9 (H9 (H9 (Cb rfl (Fq rfl (Ci rfl (An (o' := 2) rfl (Bg (c := sb v9.fClean) s42 Hl rfl (Ah (v9.fClean) (fun h50 => ?_) fun h50 => ?_)))))))))))))))))))))
 exact Bd h50 (An (o' := 3) rfl (Bd h50 (Bg (c := si v17.fConn) s42 S4 rfl (Bd h50 (An (o' := 3) rfl (Bd h50 (Bg (c := si v9.fConn) s42 Hl rfl (Bd h50 (Cd (Hh h50 (Cb (decide_eq_true (D2 ev17 h50)) (Cb (decide_eq_true (D2 ev17 h50)) (Cb (decide_eq_true (D2 ev17 h50)) (Cb (decide_eq_true (D2 ev17 h50)) (H9 (H9 (H9 (Cb (decide_eq_true (D2 ev17 h50)) (Hh (decide_eq_true (D2 ev17 h50)) (D5 rfl (congrArg (fun b => some (AV.sc (.bool b))) rfl)))))))))))))))))))))
 exact Cb h50 (Cb h50 (Cb h50 (Cb h50 (Cb h50 (Fq h50 (Bd rfl (An (o' := 2) rfl (Bd rfl (Bg (c := sb v9.fClean) s42 Hl rfl (Bd rfl (Hw (Bd rfl (Bd (nT h50) (An (o' := 3) rfl (Bd (nT h50) (Bg (c := si v17.fConn) s42 S4 rfl (Bd (nT h50) (Cd (Bd rfl (Hh (nT h50) (Fq rfl (D5 rfl (congrArg (fun b => some (AV.sc (.bool b))) (decide_eq_true (Vl ev17 h50 (Kc ev9 h43))))))))))))))))))))))))))
 exact Dk (nT h43) (An (o' := 3) rfl (Bg (c := si v9.fConn) s42 Hl rfl (An (o' := 3) rfl (Bg (c := si r1.fConn) s42 Vq rfl (Cd (Bd (decide_eq_true (Sv ev9 h43).1) (An (o' := 4) rfl (Bd (decide_eq_true (Sv ev9 h43).1) (Bg (c := si v9.fGen) s42 Hl rfl (Bd (decide_eq_true (Sv ev9 h43).1) (An (o' := 4) rfl (Bd (decide_eq_true (Sv ev9 h43).1) (Bg (c := si r1.fGen) s42 Vq rfl (Bd (decide_eq_true (Sv ev9 h43).1) (Cd (Hh (decide_eq_true (Sv ev9 h43).1) (D5 rfl (congrArg (fun b => some (AV.sc (.bool b))) (decide_eq_true (Sv ev9 h43).2)))))))))))))))))))
 exact Dk (decide_eq_true (by omega)) (D5 rfl rfl)
end
end Go.Proofs.YtdofipeaomgbbaaGreatDoor.Abs
namespace Go.Proofs.YtdofipeaomgbbaaGreatDoor.Abs
open _root_.Option renaming bind_some → zab, getD_some → za5, map_eq_some_iff → zaN
open _root_.List renaming replicate → zad, length_append → zae, nil_append → zah, length_singleton → zal, append_nil → zam, length_cons → zao, mem_append_right → zaq, getElem?_eq_getElem → zas, length_nil → zat, mem_append_left → zau, mem_cons_of_mem → zaw, cons_append → zax, mem_cons → zay, forall_mem_append → zaz, map_cons → za0, not_mem_nil → za2, mem_cons_self → za6, drop_zero → za7, map_append → za8, mem_append → zaB, nodup_append → zaI, mem_range'_1 → zaJ, nodup_range' → zaP, range' → zaV, all_cons → zaY, take_of_length_le → zbh, mem_singleton → zbu, map_nil → zbv, length_map → zb0, map_map → zbH
open _root_.Nat renaming le_refl → zai, le_trans → zar, zero_add → zav, add_le_add_right → za9, add_le_add_left → zaC, zero_le → zbm
open _root_.Bool renaming and_eq_true → zak, eq_iff_iff → zaM
open Go
set_option linter.unusedVariables false
set_option linter.unusedSimpArgs false
end Go.Proofs.YtdofipeaomgbbaaGreatDoor.Abs
namespace Go.Proofs.YtdofipeaomgbbaaGreatDoor.fnSessions
open _root_.Option renaming map_eq_some_iff → zaN
open Go Go.Shelf Go.Lib Go.ChangeShapes Go.WideShapes Go.ChangeAt Go.RowKit
open Go.Proofs.YtdofipeaomgbbaaGreatDoor.Abs
set_option linter.unusedVariables false
theorem own : ownKnob Tryz.prog.godebug = none := by kernel_rfl
theorem AfR : laidOutB Tryz.prog = true := by kernel_rfl
theorem types : ([22].all (tyB Aq 14)) = true := by kernel_rfl
theorem Aev : ([22].all fun t => Tryz.prog.readableRec t && decide (t < Tryz.prog.types.size)) = true := by kernel_rfl
theorem AjN {xs : List AV} (h : Aiw Aq 14 [22] xs) : ∃ n, C1 E0 n 4 5 xs = some (.sc (.bool true)) := by
 obtain ⟨y0, ys0, rfl, ⟨cs0, h0, rfl⟩, h⟩ := h
 obtain rfl := h
 obtain ⟨x0, rfl, k0⟩ := Zh ⟨_, rfl, rfl, rfl, rfl, rfl, rfl⟩ h0
 exact ⟨_, Rv 1048577 (by omega) x0 k0⟩
def wArgs : Array Value := #[.slice none 0 0]
noncomputable def Mr (os : Os) : World :=
 let w0 := World.holding Tryz.prog os ⟨#[], #[], []⟩
 let put (h : Array Obj) (g : Nat) (cs : Array Value) : Array Obj := h.modify g fun
  | .cells _ t frozen => .cells cs t frozen
  | o => o
 let h1 := put w0.heap 0 (Lib.firstTab.map fun z => Value.int .u8 z).toArray
 let h2 := put h1 1 ((List.range 16).flatMap fun i => [Value.int .u8 (Lib.accLo i), Value.int .u8 (Lib.accHi i)]).toArray
 { w0 with heap := h2 }
theorem Aef (os : Os) (args : Array Value) : laidMet Tryz.prog Rows.fnSessionsRow.laid ((Mr os).forCall (fun _ _ => 0) ⟨#[], args, []⟩).memory :=
 (LaidIn.of_run (l := Rows.fnSessionsRow.laid) [0, 1] 8 (by kernel_rfl) (by kernel_rfl) (by kernel_rfl) (by kernel_rfl)).met
set_option maxRecDepth 100000 in
theorem Xp (os : Os) {H : Type} (enc : TypeId × Value → H) :
  (OpenSpec.ofChange Rows.fnSessionsSpec).preRow enc Tryz.prog Tryz.f5 Rows.fnSessionsRow.domain false Rows.fnSessionsRow.laid ((Mr os).forCall (fun _ _ => 0) ⟨#[], wArgs, []⟩).memory wArgs := by
 have hw : ((DataW.whole enc Tryz.prog ((Mr os).forCall (fun _ _ => 0) ⟨#[], wArgs, []⟩).memory Tryz.f5.params.toList (OpenSpec.ofChange Rows.fnSessionsSpec).vars false wArgs.toList 8).map (fun x => x.2.1)) = some [] := by kernel_rfl
 obtain ⟨⟨x1, x2, x3⟩, hx, hx1⟩ := zaN.1 hw
 simp only at hx1
 subst hx1
 exact OpenSpec.preRow_of_cond 8 hx rfl (fun k hk => by cases hk) rfl (Aef os _)
set_option maxRecDepth 100000 in
set_option maxHeartbeats 2000000 in
theorem lifted (os : Os) (started : os.Started) (H : Type) (enc : TypeId × Value → H) (F : Stop.Interp) :
  ReturnsInHanded {} Tryz.checked os 5 .any ((OpenSpec.ofChange Rows.fnSessionsSpec).preRow enc Tryz.prog Tryz.f5 Rows.fnSessionsRow.domain false Rows.fnSessionsRow.laid) (((OpenSpec.ofChange Rows.fnSessionsSpec).at F).post enc Tryz.prog Tryz.f5 false true false false) := by
 refine returnsInHanded_of_row (C := Tryz.checked) (s := OpenSpec.ofChange Rows.fnSessionsSpec) own started (by kernel_rfl) Tryz.func5
  (witness_row_atRef (enc := enc) (C := Tryz.checked) false (Mr os) wArgs rfl (by kernel_rfl) (by kernel_rfl) (by kernel_rfl) (Xp os enc)) ?_
 intro W base args ds gs before hval0 hW _ _ _ hL hS _
 have hval : ∀ (j : Nat) t v, Tryz.f5.params[j]? = some t → args[j]? = some v → Value.okWide Tryz.prog W .any base t v := hval0
 have hW' := hW
 obtain ⟨p, q, hA0, hV, rfl, hfz, hnd⟩ := hW
 have hA : DataW.TrodAll enc Tryz.prog W 0 (fun _ => true) true Tryz.f5.params.toList args.toList ds p := hA0
 rw [Tryz.params5] at hA hval
 obtain ⟨xs, hok, hl, hx⟩ := Q0 Ae5 (n := 14) [22] args.toList ds p hA (fun j t v ht hv => hval j t v (by simpa using ht) (by simpa using hv)) types
 obtain ⟨m, hm⟩ := AjN hok
 have htab0 := utf8Tabs_of_readsT (U8Types.of196 Tryz.laysValid) ⟨by kernel_rfl, by kernel_rfl, by kernel_rfl, by kernel_rfl, by kernel_rfl, by kernel_rfl, by kernel_rfl⟩ (Pinned.utf8First_eq ▸ Lib.laidMet.reads hL (.tail _ (.head _))) (Lib.laidMet.reads hL (.head _))
 have htab : J0 W := ⟨htab0, cell_of_shapedOpen_int (zero := #[.int .i64 0]) hS (of_decide_eq_true (by kernel_rfl)) (by kernel_rfl) rfl (by kernel_rfl) (by kernel_rfl) Tryz.underlying3⟩
 have hc := Aca Akn hm (w := W) htab hl hx
 have hA1 := hA
 obtain ⟨v0, vs0, d0, ds0, p0, q0, hargs, rfl, rfl, g0, r0⟩ := trodAll_cons hA
 obtain ⟨rfl, rfl, rfl⟩ := trodAll_nil r0
 obtain ⟨rfl, rfl⟩ := trodVars_none hV
 have hc2 : Calls Tryz.prog 5 args W fun e W' => e = .returned (.bool true) ∧ Below W.heap.size W W' := by simpa using hc
 refine hc2.mono fun e W' ⟨he, bel⟩ => ?_
 subst he
 exact ⟨_, rfl, _, _, _, [], _, [], hW', trodAll_mk1 (shut_bool Tryz.underlying4 _), Na AfR bel Aev hA1, rfl, bel.frame _, fun h => by cases h⟩
end Go.Proofs.YtdofipeaomgbbaaGreatDoor.fnSessions
