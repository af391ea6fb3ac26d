/- What the proof needs, part 6: a sound evaluator over trees, the program's functions on it, and what they come to. -/
import Derived.Test.YtlcpigdmekgajaaGreatDoorZre
import Derived.Test.YtlcpigdmekgajaaGreatDoorRows
import Derived.Test.YtlcpigdmekgajaaGreatDoorTie
import Derived.Test.YtlcpigdmekgajaaGreatDoorCards
import Derived.Lib.LaidIn
import Derived.Lib.LaidU8T
import Derived.PinnedBridge
import Derived.SevenTiedAt
import Derived.Deep.DeepHandedRow
import Derived.Deep.DeepWitnessRowRef
import Derived.WalkKit
import Derived.ProofKit
import Derived.OpenShut
import Derived.ShutString
import Derived.ChangeOld
import Derived.Below
import Derived.SizedLaws
set_option linter.unusedVariables false
set_option linter.unusedSimpArgs false
set_option maxRecDepth 100000
set_option maxHeartbeats 1600000
namespace Go.Proofs.YtlcpigdmekgajaaGreatDoor.Abs
open _root_.Bool renaming and_eq_true → zag, not_true → zaw, and_true → zaI, or_eq_true → zaN
open _root_.Option renaming bind_some → zac, map_eq_some_iff → zaH, getD_some → zaJ
open _root_.List renaming getElem?_eq_some_iff → zad, length_append → zae, append_assoc → zaf, getElem?_append_right → zah, getElem?_append_left → zai, replicate → zaj, nil_append → zal, append_nil → zan, length_cons → zao, all_cons → zap, map_cons → zaq, eq_nil_of_length_eq_zero → zar, mem_cons_of_mem → zau, length_nil → zav, mem_cons_self → zax, cons_append → zaz, flatten_cons → za1, drop_append_of_le_length → za3, all_eq_true → za7, map_nil → zaC, getElem?_eq_getElem → zaP, take_append_drop → zaS, drop_length → zaU, getElem?_drop → zaY, replicate_succ → zbf, getElem?_take_of_lt → zbk, length_take → zbm, drop_drop → zbp, flatten_nil → zb3, drop_of_length_le → zb5, take_left' → zb9
open _root_.ByteArray renaming size_append → zak, size_extract → zat, size → zbD
open _root_.Nat renaming le_refl → zam, zero_le → zay, zero_add → za2, le_trans → za5, add_assoc → zaE, add_zero → zaO, sub_self → zaZ, succ_mul → zbv, add_comm → zbF
open _root_.Int renaming tmod_eq_emod_of_nonneg → za9, toNat_natCast → zbq
section
open Go
theorem Ai0 {p : PacketV} (h : Ah p = true) (h1 : 4 ≤ p.fType) (h2 : p.fType ≤ 11) : 1 ≤ p.fId ∧ p.fId ≤ 65535 := by
 obtain ⟨_, _, hk⟩ := G9 h
 unfold Bx at hk
 rw [if_neg (by omega), if_neg (by omega), if_neg (by omega)] at hk
 by_cases h4 : p.fType = 4 ∨ p.fType = 5 ∨ p.fType = 6 ∨ p.fType = 7 ∨ p.fType = 11
 rwa [if_pos h4, G4] at hk
 rw [if_neg h4, if_pos (by omega)] at hk
 simp only [zag, G4] at hk
 exact hk.1
theorem Vs {p : PacketV} (h : Ah p = true) (h1 : p.fType = 8 ∨ p.fType = 9 ∨ p.fType = 10) : (∀ w ∈ p.fWants, Bi w.fFilter = true ∧ 0 ≤ w.fQos ∧ w.fQos < 256) ∧ (∀ w ∈ p.fNames, Bi w = true) ∧ (∀ c ∈ p.fCodes, 0 ≤ c ∧ c < 256) ∧ p.fWants.length + p.fNames.length + p.fCodes.length ≤ 4 := by
 obtain ⟨_, _, hk⟩ := G9 h
 unfold Bx at hk
 rw [if_neg (by omega), if_neg (by omega), if_neg (by omega), if_neg (by omega), if_pos h1] at hk
 unfold Fb Iz Jp Gf at hk
 simp only [zag, G4, za7] at hk
 obtain ⟨_, k1, k2, k3, k4⟩ := hk
 refine ⟨fun w hw => ?_, fun w hw => Tk (k2 w hw), fun c hc => ?_, by omega⟩
 have := k1 w hw
 unfold Bz at this
 rw [zag, G4] at this
 exact ⟨Tk this.1, by omega, by omega⟩
 have := k3 c hc
 unfold Bs at this
 rw [zaN, G4, decide_eq_true_eq] at this
 omega
theorem Ai1 {p : PacketV} (h : Ah p = true) (h1 : 4 ≤ p.fType) (h2 : p.fType ≤ 11) : p = { Ce p.fType with fId := p.fId, fWants := p.fWants, fCodes := p.fCodes, fNames := p.fNames } := by
 obtain ⟨_, hn, _⟩ := G9 h
 obtain ⟨_, _, _, _, _, k6, k7, k8⟩ := Lw h
 unfold Az at hn
 rw [if_neg (by omega), if_neg (by omega), if_neg (by omega)] at hn
 split at hn
 rw [k6 (by omega), k7 (by omega), k8 (by omega)]
 exact hn
 split at hn
 rw [k7 (by omega), k8 (by omega)]
 exact hn
 split at hn
 rw [k6 (by omega), k8 (by omega)]
 exact hn
 split at hn
 rw [k6 (by omega), k7 (by omega)]
 exact hn
 omega
theorem AbE {p : PacketV} (h : Ah p = true) (h1 : 4 ≤ p.fType) (h2 : p.fType ≤ 11) : Dt (C4 p) (Db p) = p ∧ Dr (C4 p) (Db p) = p := by
 have hid := Ai0 h h1 h2
 have ht := (Rd h).2
 have hz := Ai1 h h1 h2
 obtain ⟨_, _, _, _, _, k6, k7, k8⟩ := Lw h
 have er : Db p = H8 p (Ao bs0 p.fId) := by
  unfold Db
  rw [if_neg (by omega), if_neg (by omega), if_neg (by omega), if_neg (by omega)]
 have hbl : bl (Db p) = Pn p.fId ++ ((p.fWants.map Ng).flatten ++ ((p.fCodes.map fun c => u8 (c % 256)) ++ (p.fNames.map Ik).flatten)) ∧ ∀ f a, f = p.fWants.length + p.fNames.length + p.fCodes.length + 1 → Sf (Db p) a ((p.fWants.map Ng).flatten ++ ((p.fCodes.map fun c => u8 (c % 256)) ++ (p.fNames.map Ik).flatten)) → (∀ g, f ≤ g → Cj p.fType (Db p) g (a, false) [] [] [] = (p.fWants, p.fCodes, p.fNames)) ∧ (∀ g, f ≤ g → C8 p.fType (Db p) g a [] [] = some (p.fWants, p.fNames)) ∧ ∀ g, f ≤ g → (if p.fType = 9 then Ge (Db p) g a [] else []) = p.fCodes := by
  have hb0 : bl (Ao bs0 p.fId) = Pn p.fId := by
   rw [Q4]
   rfl
  by_cases h8 : p.fType = 8 ∨ p.fType = 9 ∨ p.fType = 10
  obtain ⟨l1, l2, l3, l4⟩ := Vs h h8
  refine ⟨?_, fun f a hf s => ?_⟩
  rw [er]
  unfold H8
  rw [Zx _ _ l2, Zw, Zy _ _ fun w hw => (l1 w hw).1, hb0]
  simp only [zaf]
  rcases h8 with h8 | h8 | h8
  rw [k7 (by omega), k8 (by omega)] at s ⊢
  simp only [zaC, zb3, zan] at s
  rw [h8]
  refine ⟨fun g hg => ?_, fun g hg => ?_, fun g hg => by rw [if_neg (by decide)]⟩
  exact Amd p.fWants [] g a s l1 (by simp only [zav]; omega) (by omega)
  exact Amf p.fWants [] g a s l1 (by omega)
  rw [k6 (by omega), k8 (by omega)] at s ⊢
  simp only [zaC, zb3, zan, zal] at s
  rw [h8]
  refine ⟨fun g hg => ?_, fun g hg => ?_, fun g hg => ?_⟩
  exact Ame p.fCodes [] g a s l3 (by simp only [zav]; omega) (by omega)
  obtain ⟨g, rfl⟩ : ∃ k, g = k + 1 := ⟨g - 1, by omega⟩
  exact R5 (.inr (by decide))
  rw [if_pos rfl]
  exact rdC p.fCodes [] g a s l3 (by omega)
  rw [k6 (by omega), k7 (by omega)] at s ⊢
  simp only [zaC, zb3, zan, zal] at s
  rw [h8]
  refine ⟨fun g hg => ?_, fun g hg => ?_, fun g hg => by rw [if_neg (by decide)]⟩
  exact AjH p.fNames [] g a s l2 (by simp only [zav]; omega) (by omega)
  exact AjI p.fNames [] g a s l2 (by omega)
  have e6 := k6 (by omega)
  have e7 := k7 (by omega)
  have e8 := k8 (by omega)
  refine ⟨?_, fun f a hf s => ?_⟩
  rw [er, AaF e6 e7 e8, hb0, e6, e7, e8]
  simp
  rw [e6, e7, e8] at s ⊢
  simp only [zaC, zb3, zan] at s
  refine ⟨fun g hg => ?_, fun g hg => ?_, fun g hg => by rw [if_neg (by omega)]⟩
  obtain ⟨g, rfl⟩ : ∃ k, g = k + 1 := ⟨g - 1, by omega⟩
  exact Uh s
  obtain ⟨g, rfl⟩ : ∃ k, g = k + 1 := ⟨g - 1, by omega⟩
  exact R5 (.inr (by omega))
 obtain ⟨hb, hl⟩ := hbl
 have s0 := Wg _ hb
 have e0 := Wh s0 (by omega) (by omega)
 obtain ⟨k0, s1⟩ := P4 s0 (by omega) (by omega)
 obtain ⟨q1, q2, q3⟩ := hl _ _ rfl s1
 have hsz : p.fWants.length + p.fNames.length + p.fCodes.length + 1 ≤ (Db p).size + 1 ∧ p.fWants.length + p.fNames.length + p.fCodes.length + 1 ≤ 8 := by
  by_cases h8 : p.fType = 8 ∨ p.fType = 9 ∨ p.fType = 10
  obtain ⟨l1, l2, l3, l4⟩ := Vs h h8
  have hl := s1.len
  have f1 : ∀ l : List WantV, l.length ≤ ((l.map Ng).flatten).length := fun l => by
   induction l with
   | nil => simp
   | cons w l ih =>
    rw [zaq, za1, zae]
    have : 1 ≤ (Ng w).length := by simp [Ng]
    simp only [zao]
    omega
  have f2 : ∀ l : List ByteArray, l.length ≤ ((l.map Ik).flatten).length := fun l => by
   induction l with
   | nil => simp
   | cons w l ih =>
    rw [zaq, za1, zae]
    have : 1 ≤ (Ik w).length := by simp [Ik, Pn]
    simp only [zao]
    omega
  have g1 := f1 p.fWants
  have g2 := f2 p.fNames
  simp only [zae, List.length_map] at hl
  omega
  rw [k6 (by omega), k7 (by omega), k8 (by omega)]
  simp
 constructor
 unfold Dt
 dsimp only
 rw [ht, if_neg (by omega), if_neg (by omega), if_neg (by omega), if_neg (by omega), e0]
 dsimp only
 rw [q1 8 hsz.2]
 exact hz.symm
 unfold Dr
 rw [ht, if_neg (by omega), if_neg (by omega), if_neg (by omega), if_pos (by omega), k0]
 unfold Fv
 dsimp only
 rw [if_neg (by simp), q3 _ hsz.1, q2 _ hsz.1]
 exact hz.symm
theorem Alj {p : PacketV} (h : Ah p = true) : Dt (C4 p) (Db p) = p ∧ Dr (C4 p) (Db p) = p := by
 have ht := (I9 h).ty
 have hf := (Rd h).2
 by_cases h1 : p.fType = 1
 have e : Db p = Fc p := by unfold Db; rw [if_pos h1]
 rw [e]
 unfold Dt Dr
 dsimp only
 rw [hf, h1, if_pos rfl, if_pos rfl]
 exact AiP h h1
 by_cases h2 : p.fType = 2
 have e : Db p = A9 (A9 bs0 (Bb p.fPresent 1 % 256)) (p.fCode % 256) := by unfold Db; rw [if_neg h1, if_pos h2]
 obtain ⟨a, b, c⟩ := Alh h h2 e
 unfold Dt Dr
 dsimp only
 rw [hf, h2, if_neg (by decide), if_pos rfl, if_neg (by decide), if_pos ⟨rfl, b⟩]
 exact ⟨a, c⟩
 by_cases h3 : p.fType = 3
 have e : Db p = G1 p := by unfold Db; rw [if_neg h1, if_neg h2, if_pos h3]
 rw [e]
 exact Ali h h3
 by_cases h4 : p.fType ≤ 11
 exact AbE h (by omega) h4
 have e : Db p = bs0 := by unfold Db; rw [if_neg h1, if_neg h2, if_neg h3, if_pos (by omega)]
 have hz : p = Ce p.fType := by
  obtain ⟨_, hn, _⟩ := G9 h
  unfold Az at hn
  rw [if_neg h1, if_neg h2, if_neg h3, if_neg (by omega), if_neg (by omega), if_neg (by omega), if_neg (by omega)] at hn
  exact hn
 unfold Dt Dr
 dsimp only
 rw [hf, e, if_neg h1, if_neg h2, if_neg h3, if_pos (by omega), if_neg h1, if_neg (by omega), if_neg h3, if_neg (by omega)]
 unfold Fv
 dsimp only
 rw [if_neg (by simp), if_neg (by omega), R5 (.inr (by omega))]
 exact ⟨hz.symm, hz.symm⟩
theorem Ai5 {B : ByteArray} {a m : Int} (ha : 0 ≤ a) (hm : 0 ≤ m ∧ m < 128) (hb : A5 B a = m) (hs : a < ((B.size : Nat) : Int)) : C9 B a = (m, a + 1, 0) := by
 unfold C9
 rw [if_neg (by omega), Eg, Int.add_zero, if_neg (by omega), hb, if_pos hm.2, if_neg (by omega), Oq hm.1 (by omega)]
 have e : bits .or .i64 0 (m % 128 * 2 ^ (7 * (0 : Int)).toNat) = m := by
  rw [show m % 128 * 2 ^ (7 * (0 : Int)).toNat = m by simp; omega, Ug 7 0 m (by decide) (by decide) (by decide) (by omega) (by omega) (by omega)]
  omega
 rw [e]
theorem Ai6 {B : ByteArray} {a m : Int} (ha : 0 ≤ a) (hm : 128 ≤ m ∧ m < 16384) (hb : A5 B a = m % 128 + 128) (hb2 : A5 B (a + 1) = m / 128) (hs : a + 1 < ((B.size : Nat) : Int)) : C9 B a = (m, a + 2, 0) := by
 unfold C9
 rw [if_neg (by omega), Eg, Int.add_zero, if_neg (by omega), hb, if_neg (by omega), Oq (by omega) (by omega)]
 have e : bits .or .i64 0 ((m % 128 + 128) % 128 * 2 ^ (7 * (0 : Int)).toNat) = m % 128 := by
  rw [show (m % 128 + 128) % 128 * 2 ^ (7 * (0 : Int)).toNat = m % 128 by simp, Ug 7 0 (m % 128) (by decide) (by decide) (by decide) (by omega) (by omega) (by omega)]
  omega
 rw [e, Int.zero_add, Eg, if_neg (by omega), hb2, if_pos (by omega), if_neg (by omega), Oq (by omega) (by omega)]
 have e2 : bits .or .i64 (m % 128) (m / 128 % 128 * 2 ^ (7 * (1 : Int)).toNat) = m := by
  rw [show m / 128 % 128 * 2 ^ (7 * (1 : Int)).toNat = m / 128 * 128 by
   have : m / 128 % 128 = m / 128 := by omega
   rw [this]
   rfl, Alc 7 (m / 128 * 128) (m % 128) (by omega) (by omega) (by omega) (by omega) (by omega) (by omega)]
  omega
 rw [e2, Int.add_assoc]
 rfl
theorem Aas (B : ByteArray) (a : Int) : ∀ (f : Nat) (i z : Int), (Eg B a f i z).2.2 = 0 → (Eg B a f i z).2.1 ≤ a + i + f
 | 0, i, z, h => by simp [Eg] at h
 | f + 1, i, z, h => by
  rw [Eg] at h ⊢
  split at h
  simp at h
  rename_i h2
  rw [if_neg h2]
  split at h
  rename_i h3
  rw [if_pos h3]
  split at h
  simp at h
  rename_i h4
  rw [if_neg h4]
  show a + i + 1 ≤ _
  omega
  rename_i h3
  rw [if_neg h3]
  have := Aas B a f (i + 1) _ h
  omega
theorem AbK {B : ByteArray} {a n x : Int} (h : C9 B a = (n, x, 0)) : x ≤ a + 4 := by
 unfold C9 at h
 split at h
 cases h
 have := Aas B a 4 0 0 (by rw [h])
 rw [h] at this
 simpa using this
theorem AcE {b : ByteArray} {m : Int} (h0 : 0 ≤ m) (h1 : m < 16384) : bl (Dg b m) = bl b ++ (if m < 128 then [u8 m] else [u8 (m % 128 + 128), u8 (m / 128)]) := by
 unfold Dg
 rw [if_pos (by rw [G4]; omega)]
 unfold Kv
 split
 unfold Kv
 rw [if_neg (by omega), if_neg (by omega), Ix, Ix, zaf, show (m % 128 + 128) % 256 = m % 128 + 128 by omega, show m / 128 % 256 = m / 128 by omega]
 rfl
 rw [if_pos (by omega), Ix, show m % 256 = m by omega]
theorem Ag4 (p : PacketV) : (Db p).size ≤ (Jq p).size := by
 unfold Jq
 rw [zak]
 omega
theorem frame {p : PacketV} (h : Ah p = true) {B : ByteArray} {m : Int} (hm : m = (((Db p).size : Nat) : Int)) (hm2 : m < 16384) {r : List UInt8} (hB : bl B = bl (Jq p) ++ r) : A5 B 0 = C4 p ∧ ∃ k, C9 B 1 = (m, k, 0) ∧ k + m = (((Jq p).size : Nat) : Int) ∧ (1 ≤ k ∧ k + m ≤ ((B.size : Nat) : Int)) ∧ B.extract k.toNat (k + m).toNat = Db p := by
 obtain ⟨hf, _⟩ := Rd h
 have hsz : (Jq p).size + r.length = B.size := by
  rw [← J2 B, hB, zae, J2]
 have e : bl (Jq p) = u8 (C4 p) :: ((if m < 128 then [u8 m] else [u8 (m % 128 + 128), u8 (m / 128)]) ++ bl (Db p)) := by
  unfold Jq
  rw [Yh, ← hm, AcE (by omega) hm2, Ix, show C4 p % 256 = C4 p by omega]
  simp only [zaf]
  rfl
 have s0 := Wg B hB
 rw [e] at s0
 obtain ⟨b0, _, s1⟩ := Sf.head s0
 rw [Lb hf.1 hf.2] at b0
 have el := congrArg List.length e
 rw [J2] at el
 refine ⟨b0, ?_⟩
 have cut : ∀ (k : Int) , Sf B k (bl (Db p) ++ r) → B.extract k.toNat (k + m).toNat = Db p := fun k s => by
  apply AaR
  rw [Yi, s.2.2]
  have := s.1
  rw [show (k + m).toNat - k.toNat = (bl (Db p)).length by rw [J2]; omega, List.take_left]
 by_cases h1 : m < 128
 rw [if_pos h1] at s1 el
 obtain ⟨b1, l1, s2⟩ := Sf.head s1
 rw [Lb (by omega) (by omega)] at b1
 simp only [zao, zae, zav, J2] at el
 exact ⟨2, Ai5 (by omega) (by omega) b1 l1, by omega, by omega, cut 2 s2⟩
 rw [if_neg h1] at s1 el
 obtain ⟨b1, l1, s2⟩ := Sf.head s1
 obtain ⟨b2, l2, s3⟩ := Sf.head s2
 rw [Lb (by omega) (by omega)] at b1 b2
 simp only [zao, zae, zav, J2] at el
 exact ⟨3, Ai6 (by omega) (by omega) b1 b2 l2, by omega, by omega, cut 3 s3⟩
theorem Alg {p : PacketV} (h : Ah p = true) : F7 p = Jq p := by
 unfold F7
 rw [if_pos h]
theorem Air {B : ByteArray} {n a : Int} (hg : C9 B 1 = (n, a, 0)) (hn : 0 ≤ n ∧ n ≤ 340) (ha : 1 ≤ a) (hs : a + n ≤ ((B.size : Nat) : Int)) {p : PacketV} (h : Ah p = true) (hp : ((F7 p).toList == (B.extract (0 : Int).toNat (a + n).toNat).toList) = true) : Dt (A5 B 0) (B.extract a.toNat (a + n).toNat) = p ∧ Dr (A5 B 0) (B.extract a.toNat (a + n).toNat) = p := by
 have e := Qa hp
 rw [Alg h] at e
 have hat := AbK hg
 have e2 : bl (Jq p) = (bl B).take (a + n).toNat := by
  rw [e, Yi]
  simp
 have hsz : (Jq p).size = (a + n).toNat := by
  rw [← J2, e2, zbm, J2]
  omega
 have hle := Ag4 p
 have hB : bl B = bl (Jq p) ++ (bl B).drop (a + n).toNat := by
  rw [e2, zaS]
 obtain ⟨b0, k, g, g2, g3, g4⟩ := frame h rfl (by omega) hB
 rw [hg] at g
 cases g
 rw [b0, g4]
 exact Alj h
theorem AkR (B : ByteArray) : Fd Dr B = Fd Dt B := by
 unfold Fd
 split
 rfl
 split
 rfl
 obtain ⟨n, a, c, e⟩ : ∃ n a c, C9 B 1 = (n, a, c) := ⟨_, _, _, rfl⟩
 have hb := Qy (B := B) (a := 1)
 rw [e] at hb ⊢
 dsimp only at hb
 unfold E6
 dsimp only
 split
 rfl
 rename_i hc
 have hc : c = 0 := by simpa using hc
 subst hc
 split
 rfl
 rename_i hn
 simp only [decide_eq_true_eq, Int.not_lt] at hn
 split
 rfl
 rename_i hs
 simp only [decide_eq_true_eq, Int.not_lt] at hs
 have hb := hb rfl
 have key : ∀ p, Ah p = true → ((F7 p).toList == (B.extract (0 : Int).toNat (a + n).toNat).toList) = true → _ := fun p h hp => Air e (by omega) (by omega) (by omega) h hp
 unfold E5
 generalize hI : Dt (A5 B 0) (B.extract a.toNat (a + n).toNat) = x at key ⊢
 generalize hS : Dr (A5 B 0) (B.extract a.toNat (a + n).toNat) = y at key ⊢
 by_cases g1 : Ah x = true ∧ ((F7 x).toList == (B.extract (0 : Int).toNat (a + n).toNat).toList) = true
 have := (key x g1.1 g1.2).2
 rw [this]
 by_cases g2 : Ah y = true ∧ ((F7 y).toList == (B.extract (0 : Int).toNat (a + n).toNat).toList) = true
 have := (key y g2.1 g2.2).1
 rw [this]
 rw [if_pos, if_pos]
 simp only [zaN, Bool.not_eq_true', ← Bool.not_eq_true]
 by_cases k : Ah x = true
 exact .inr fun hq => g1 ⟨k, hq⟩
 exact .inl k
 simp only [zaN, Bool.not_eq_true', ← Bool.not_eq_true]
 by_cases k : Ah y = true
 exact .inr fun hq => g2 ⟨k, hq⟩
 exact .inl k
abbrev AaJ (B : ByteArray) : PacketV × Int × Int := Fd Dt B
theorem AkQ (B : ByteArray) : PkB 345 (AaJ B).1 := by
 unfold AaJ Fd
 split
 exact Im _ _
 split
 exact Im _ _
 unfold E6
 split
 exact Im _ _
 split
 exact Im _ _
 rename_i hn
 split
 exact Im _ _
 unfold E5
 split
 exact Im _ _
 simp only [decide_eq_true_eq, Int.not_lt] at hn
 exact Ag8 _ _ (k := 340) (by rw [zat]; omega)
def D8 (B : ByteArray) : PacketV := (AaJ B).1
def Ac8 (B : ByteArray) : Int := (AaJ B).2.1
def Ac7 (B : ByteArray) : Int := (AaJ B).2.2
theorem AgG (n : Nat) (hn : 1048576 < n) (x0 : ByteArray) (b0 : x0.size ≤ 1048576) : Dd E0 (n + 13) 60 31 [Ag x0] = some (.tup [.agg (Ar (D8 x0)), .sc (.int .i64 (Ac8 x0)), .sc (.int .i64 (Ac7 x0))]) := by
 have h := AgF n hn x0 b0
 rw [AkR] at h
 exact h
theorem Agf (n : Nat) (hn : 1048576 < n) (x0 : ByteArray) (b0 : x0.size ≤ 1048576) : Dd E0 (n + 13) 60 33 [Ag x0] = some (.tup [.agg (Ar (D8 x0)), .sc (.int .i64 (Ac8 x0)), .sc (.int .i64 (Ac7 x0))]) := Age n hn x0 b0
end
section
open Go
inductive MF where
 | str
 | int
 | bool
 | byt
 | skip
 | sub (fs : List MF)
def Is (n : Nat) (fs : List MF) : List MF := (zaj n fs).flatten
theorem Ja (n : Nat) (fs : List MF) : Is (n + 1) fs = fs ++ Is n fs := by rw [Is, zbf, za1, Is]
theorem Aa7 (n : Nat) (fs : List MF) : (Is n fs).length = n * fs.length := by simp [Is]
def Aba (k : Nat) (out : ByteArray) : ByteArray := if h : k = 0 then out else Aba (k / 10) (⟨#[UInt8.ofNat (48 + k % 10)]⟩ ++ out)
termination_by k
decreasing_by omega
def AdW (k : Int) : ByteArray := ⟨#[109]⟩ ++ (if k ≤ 0 then ⟨#[48]⟩ else Aba k.toNat ⟨#[]⟩)
mutual
def H0 (f : MF) (k : Int) : AV → AV × Int
 | .sc v =>
  match f with
  | .str => (.sc (.string (AdW k)), k + 1)
  | .int => (.sc (.int .i64 k), k + 1)
  | .bool => (.sc (.bool (k.tmod 3 == 0)), k + 1)
  | .byt => (.sc (.int .u8 (IntKind.u8.wrap k)), k + 1)
  | _ => (.sc v, k)
 | .ro n cells =>
  match f with
  | .sub fs => (.ro n (F3 (Is n fs) k cells).1, (F3 (Is n fs) k cells).2)
  | _ => (.ro n cells, k)
 | x => (x, k)
def F3 (fs : List MF) (k : Int) : List AV → List AV × Int
 | [] => ([], k)
 | c :: cs => ((H0 (fs.headD .skip) k c).1 :: (F3 fs.tail (H0 (fs.headD .skip) k c).2 cs).1, (F3 fs.tail (H0 (fs.headD .skip) k c).2 cs).2)
end
mutual
def Gg (f : MF) : AV → Nat
 | .sc v =>
  match f with
  | .skip => 0
  | .sub _ => 0
  | _ => 1
 | .ro n cells =>
  match f with
  | .sub fs => Fk (Is n fs) cells
  | _ => 0
 | _ => 0
def Fk (fs : List MF) : List AV → Nat
 | [] => 0
 | c :: cs => Gg (fs.headD .skip) c + Fk fs.tail cs
end
mutual
def wfF (f : MF) : AV → Prop
 | .sc v =>
  match f, v with
  | .str, .string _ => True
  | .int, .int .i64 _ => True
  | .bool, .bool _ => True
  | .byt, .int .u8 _ => True
  | .skip, v => Og v = true
  | _, _ => False
 | .ro n cells =>
  match f with
  | .sub fs => n ≤ 1048576 ∧ cells.length = n * fs.length ∧ Ni (Is n fs) cells
  | _ => False
 | _ => False
def Ni (fs : List MF) : List AV → Prop
 | [] => fs = []
 | c :: cs => fs ≠ [] ∧ wfF (fs.headD .skip) c ∧ Ni fs.tail cs
end
mutual
def Mx : AV → Nat
 | .ro _ cells => 1 + Fh cells
 | .agg cs => Fh cs
 | .tup cs => Fh cs
 | _ => 0
def Fh : List AV → Nat
 | [] => 0
 | c :: cs => Mx c + Fh cs
end
section lists
theorem V0 (f : MF) (fs : List MF) (k : Int) (c : AV) (cs : List AV) : F3 (f :: fs) k (c :: cs) = ((H0 f k c).1 :: (F3 fs (H0 f k c).2 cs).1, (F3 fs (H0 f k c).2 cs).2) := rfl
theorem Lu : ∀ (A B : List MF) (k : Int) (X Y : List AV), A.length = X.length → F3 (A ++ B) k (X ++ Y) = ((F3 A k X).1 ++ (F3 B (F3 A k X).2 Y).1, (F3 B (F3 A k X).2 Y).2)
 | [], B, k, [], Y, _ => by simp [F3]
 | f :: A, B, k, x :: X, Y, h => by
  have ih := Lu A B (H0 f k x).2 X Y (by simpa using h)
  rw [zaz, zaz, V0, V0, ih]
  rfl
theorem I5 : ∀ (A B : List MF) (X Y : List AV), A.length = X.length → Fk (A ++ B) (X ++ Y) = Fk A X + Fk B Y
 | [], B, [], Y, _ => by simp [Fk]
 | f :: A, B, x :: X, Y, h => by
  have ih := I5 A B X Y (by simpa using h)
  show Gg f x + Fk (A ++ B) (X ++ Y) = Gg f x + Fk A X + Fk B Y
  rw [ih, zaE]
theorem wfL_cons {f : MF} {fs : List MF} {c : AV} {cs : List AV} : Ni (f :: fs) (c :: cs) ↔ wfF f c ∧ Ni fs cs := by
 show (f :: fs ≠ [] ∧ wfF f c ∧ Ni fs cs) ↔ _
 simp
theorem Ml : ∀ {fs : List MF} {cs : List AV}, Ni fs cs → fs.length = cs.length
 | fs, [], h => by
  have : fs = [] := h
  rw [this]
  rfl
 | [], _ :: _, h => absurd rfl h.1
 | f :: fs, c :: cs, h => by
  have := Ml (wfL_cons.1 h).2
  simp [this]
theorem Kc : ∀ {A B : List MF} {X Y : List AV}, A.length = X.length → (Ni (A ++ B) (X ++ Y) ↔ Ni A X ∧ Ni B Y)
 | [], B, [], Y, _ => by
  show _ ↔ (([] : List MF) = [] ∧ _)
  simp
 | f :: A, B, x :: X, Y, h => by
  have ih := Kc (A := A) (B := B) (X := X) (Y := Y) (by simpa using h)
  rw [zaz, zaz, wfL_cons, wfL_cons, ih, and_assoc]
mutual
theorem Pz : ∀ (x : AV) (f : MF) (k : Int), (H0 f k x).2 = k + Gg f x
 | .sc v, f, k => by cases f <;> simp [H0, Gg]
 | .ro n cells, f, k => by
  cases f <;> first | (simp [H0, Gg]; done) | exact Mj cells _ k
 | .agg cs, f, k => by simp [H0, Gg]
 | .tup cs, f, k => by simp [H0, Gg]
 | .any, f, k => by simp [H0, Gg]
 | .nl, f, k => by simp [H0, Gg]
 | .sl .., f, k => by simp [H0, Gg]
 | .ptr .., f, k => by simp [H0, Gg]
 | .rp .., f, k => by simp [H0, Gg]
 | .fn .., f, k => by simp [H0, Gg]
theorem Mj : ∀ (cs : List AV) (fs : List MF) (k : Int), (F3 fs k cs).2 = k + Fk fs cs
 | [], fs, k => by simp [F3, Fk]
 | c :: cs, fs, k => by
  show (F3 fs.tail (H0 (fs.headD .skip) k c).2 cs).2 = k + ((Gg (fs.headD .skip) c + Fk fs.tail cs : Nat) : Int)
  rw [Mj cs, Pz c]
  omega
end
theorem P0 : ∀ (cs : List AV) (fs : List MF) (k : Int), (F3 fs k cs).1.length = cs.length
 | [], fs, k => by simp [F3]
 | c :: cs, fs, k => by
  show (F3 fs.tail _ cs).1.length + 1 = cs.length + 1
  rw [P0 cs]
mutual
theorem Qw : ∀ (x : AV) (f : MF) (k : Int), Mx (H0 f k x).1 = Mx x
 | .sc v, f, k => by cases f <;> rfl
 | .ro n cells, f, k => by
  cases f <;> first | rfl | (show 1 + Fh _ = 1 + Fh _; rw [N2 cells])
 | .agg cs, f, k => by simp [H0]
 | .tup cs, f, k => by simp [H0]
 | .any, f, k => by simp [H0]
 | .nl, f, k => by simp [H0]
 | .sl .., f, k => by simp [H0]
 | .ptr .., f, k => by simp [H0]
 | .rp .., f, k => by simp [H0]
 | .fn .., f, k => by simp [H0]
theorem N2 : ∀ (cs : List AV) (fs : List MF) (k : Int), Fh (F3 fs k cs).1 = Fh cs
 | [], fs, k => by simp [F3]
 | c :: cs, fs, k => by
  show Mx (H0 (fs.headD .skip) k c).1 + Fh (F3 fs.tail _ cs).1 = Mx c + Fh cs
  rw [Qw c, N2 cs]
end
mutual
theorem Iy {ti : Nat → Option TI} {tp : Nat → Option (List Nat)} : ∀ (x : AV) (N ty : Nat), (B7 ti tp N ty x).2.length = Mx x
 | .sc v, N, ty => rfl
 | .ro n cells, N, ty => by
  simp only [B7, zao, Mx, Eu cells, zbF]
 | .agg cs, N, ty => Eu cs _ _
 | .tup cs, N, ty => Eu cs _ _
 | .any, N, ty => rfl
 | .nl, N, ty => rfl
 | .sl .., N, ty => rfl
 | .ptr .., N, ty => rfl
 | .rp .., N, ty => rfl
 | .fn .., N, ty => rfl
theorem Eu {ti : Nat → Option TI} {tp : Nat → Option (List Nat)} : ∀ (cs : List AV) (N : Nat) (ts : List Nat), (A3 ti tp N ts cs).2.length = Fh cs
 | [], N, ts => rfl
 | c :: cs, N, ts => by
  simp only [A3, zae, Fh, Iy c, Eu cs]
end
theorem Hk : ∀ (X Y : List AV), Fh (X ++ Y) = Fh X + Fh Y
 | [], Y => by simp [Fh]
 | c :: X, Y => by
  show Mx c + Fh (X ++ Y) = Mx c + Fh X + Fh Y
  rw [Hk X Y, zaE]
theorem Rk {ti : Nat → Option TI} {tp : Nat → Option (List Nat)} (TP TS : List Nat) (t : Nat) (P S : List AV) (c : AV) (N : Nat) (h : TP.length = P.length) :
  A3 ti tp N (TP ++ t :: TS) (P ++ c :: S) = ((A3 ti tp N TP P).1 ++ (B7 ti tp (N + Fh P) t c).1 :: (A3 ti tp (N + Fh P + Mx c) TS S).1, (A3 ti tp N TP P).2 ++ ((B7 ti tp (N + Fh P) t c).2 ++ (A3 ti tp (N + Fh P + Mx c) TS S).2)) := by
 rw [Jj TP P (t :: TS) (c :: S) N h, Eu]
 have e : A3 ti tp (N + Fh P) (t :: TS) (c :: S) = ((B7 ti tp (N + Fh P) t c).1 :: (A3 ti tp (N + Fh P + Mx c) TS S).1, (B7 ti tp (N + Fh P) t c).2 ++ (A3 ti tp (N + Fh P + Mx c) TS S).2) := by
  rw [A3, Iy]
  rfl
 rw [e]
end lists
section steps
variable {β : Type} {n : Nat} {r : Option β}
noncomputable def SB (N : Nat) (T : List Nat) (cells : List AV) : List Jb := ⟨(A3 Au E0.tp (N + 1) T cells).1, true, true⟩ :: (A3 Au E0.tp (N + 1) T cells).2
theorem Px {ty len : Nat} {cells : List AV} {i j : TI} (h1 : Au ty = some i) (h2 : Au i.elem = some j) (N : Nat) : B7 Au E0.tp N ty (.ro len cells) = (.sl N 0 len j.size, SB N (zaj len j.cty).flatten cells) := by
 simp only [B7, h1, zac, h2, zaJ]
 rfl
theorem R7 {A C : Ad} {TP TS : List Nat} {t p : Nat} {P S : List AV} {v0 v : Value} (hT : TP.length = P.length) (hv : Og v = true) (hp : p = P.length) (K : Ad → Option β) :
  G8 1 (.ptr A.length p) (.sc v) (A ++ (SB A.length (TP ++ t :: TS) (P ++ .sc v0 :: S) ++ C)) K = K (A ++ (SB A.length (TP ++ t :: TS) (P ++ .sc v :: S) ++ C)) := by
 have hc : Ft (.sc v) = some [.sc v] := by simp only [Ft, Bn, hv, if_true]
 have hl : (A3 Au E0.tp (A.length + 1) TP P).1.length = P.length := I7 _ _ _
 simp only [SB, Rk TP TS t P S _ _ hT, G7, Mx, zaz]
 rw [Ac6 1 A.length p (.sc v) _ _ _ _ (Sn A _ _) hc rfl (by simp [hl, hp]) rfl, AgD]
 have := Wn (A3 Au E0.tp (A.length + 1) TP P).1 [.sc v0] (A3 Au E0.tp (A.length + 1 + Fh P + 0) TS S).1 [.sc v] rfl
 simp only [List.singleton_append, hl] at this
 rw [hp, this]
theorem AiV {A C : Ad} {TP TS : List Nat} {t p : Nat} {P S : List AV} {c : AV} (hT : TP.length = P.length) (hp : p = P.length) (K : AV → Option β) :
  C3 false 1 (.ptr A.length p) (A ++ (SB A.length (TP ++ t :: TS) (P ++ c :: S) ++ C)) K = K (B7 Au E0.tp (A.length + 1 + Fh P) t c).1 := by
 have hl : (A3 Au E0.tp (A.length + 1) TP P).1.length = P.length := I7 _ _ _
 simp only [SB, Rk TP TS t P S _ _ hT, zaz]
 refine ldF ?_ K
 have : p + 1 ≤ ((A3 Au E0.tp (A.length + 1) TP P).1 ++ (B7 Au E0.tp (A.length + 1 + Fh P) t c).1 :: (A3 Au E0.tp (A.length + 1 + Fh P + Mx c) TS S).1).length := by simp [hl, hp]
 simp only [Bc, Sn, if_true, this]
 rw [hp, ← hl, za3 (zam _), zaU]
 rfl
def Ajh (n f ty : Nat) (t t' : AV) (k k' : Int) : Prop := ∀ (β : Type) (A C : Ad) (K : KO β) (r : Option β),
 (∀ X, K (.sc (.int .i64 k')) (A ++ ((B7 Au E0.tp A.length ty t').2 ++ (C ++ X))) = r) → Ej E0 n β f [(B7 Au E0.tp A.length ty t).1, .sc (.int .i64 k)] (A ++ ((B7 Au E0.tp A.length ty t).2 ++ C)) K = r
theorem Zo {ty : Nat} {f : FuncId} {args : List AV} {H : Ad} {K : KO β} (hh : E0.hm f = true) (hx : E0.ext f = none) : (PR n β).call ty (.fn f [] []) args H K = Ej E0 n β f args H K := by
 show Mc E0 (Ej E0 n) ty f ([] ++ args ++ []) H K = _
 simp only [Mc, hx, hh, zal, zan, if_true]
theorem AkV {A C : Ad} {TP TS : List Nat} {t p ty g : Nat} {P S : List AV} {c c' : AV} {k k' : Int} {K : KO β} (hT : TP.length = P.length) (hp : p = P.length) (hh : E0.hm g = true) (hx : E0.ext g = none) (hmk : Ajh n g t c c' k k') (hs : ∀ M, (B7 Au E0.tp M t c').1 = (B7 Au E0.tp M t c).1) (hn : Mx c' = Mx c)
  (h : ∀ X, K (.sc (.int .i64 k')) (A ++ (SB A.length (TP ++ t :: TS) (P ++ c' :: S) ++ (C ++ X))) = r) :
  (C3 false 1 (.ptr A.length p) (A ++ (SB A.length (TP ++ t :: TS) (P ++ c :: S) ++ C)) fun v => (PR n β).call ty (.fn g [] []) [v, .sc (.int .i64 k)] (A ++ (SB A.length (TP ++ t :: TS) (P ++ c :: S) ++ C)) K) = r := by
 rw [AiV hT hp, Zo hh hx]
 have e : ∀ (d : AV) (D : Ad), A ++ (SB A.length (TP ++ t :: TS) (P ++ d :: S) ++ D) = (A ++ ⟨(A3 Au E0.tp (A.length + 1) TP P).1 ++ (B7 Au E0.tp (A.length + 1 + Fh P) t d).1 :: (A3 Au E0.tp (A.length + 1 + Fh P + Mx d) TS S).1, true, true⟩ :: (A3 Au E0.tp (A.length + 1) TP P).2) ++ ((B7 Au E0.tp (A.length + 1 + Fh P) t d).2 ++ ((A3 Au E0.tp (A.length + 1 + Fh P + Mx d) TS S).2 ++ D)) := by
  intro d D
  simp only [SB, Rk TP TS t P S _ _ hT, zaz, zaf]
 have hN : ∀ b : Jb, (A ++ b :: (A3 Au E0.tp (A.length + 1) TP P).2).length = A.length + 1 + Fh P := by
  intro b
  rw [zae, zao, Eu]
  omega
 rw [e c C]
 have key := hmk β (A ++ ⟨(A3 Au E0.tp (A.length + 1) TP P).1 ++ (B7 Au E0.tp (A.length + 1 + Fh P) t c).1 :: (A3 Au E0.tp (A.length + 1 + Fh P + Mx c) TS S).1, true, true⟩ :: (A3 Au E0.tp (A.length + 1) TP P).2) ((A3 Au E0.tp (A.length + 1 + Fh P + Mx c) TS S).2 ++ C) K r
 rw [hN] at key
 refine key fun X => ?_
 have h2 := h X
 rw [e c' (C ++ X), hs, hn] at h2
 simp only [zaf, zaz] at h2 ⊢
 exact h2
end steps
structure FD where
 f : MF
 path : List Nat
 g : FuncId
def Q2 (n tS g : Nat) : Prop := Fx g = false ∧ ∀ k : Int, 0 ≤ k → k ≤ 4611686018427387904 → Dd E0 n tS g [.sc (.int .i64 k)] = some (.sc (.string (AdW k)))
def Nk (n g ty : Nat) (fs : List MF) : Prop := E0.hm g = true ∧ E0.ext g = none ∧ (∃ i j, Au ty = some i ∧ Au i.elem = some j) ∧ ∀ (len : Nat) (cells : List AV) (k : Int), wfF (.sub fs) (.ro len cells) → 0 ≤ k → k + Gg (.sub fs) (.ro len cells) ≤ 4611686018427387904 →
 Ajh n g ty (.ro len cells) (H0 (.sub fs) k (.ro len cells)).1 k (H0 (.sub fs) k (.ro len cells)).2
def Qi (n g : Nat) (fs : List MF) : Prop := Fx g = false ∧ ∀ (ty len : Nat) (cells : List AV) (k : Int), wfF (.sub fs) (.ro len cells) → 0 ≤ k → k + Gg (.sub fs) (.ro len cells) ≤ 4611686018427387904 →
 Dd E0 n ty g [(H0 (.sub fs) k (.ro len cells)).1, .sc (.int .i64 k)] = some (.sc (.int .i64 (H0 (.sub fs) k (.ro len cells)).2))
def AmP (n t g : Nat) : MF → Prop
 | .sub fs => Nk n g t fs
 | _ => True
def AmO (n g : Nat) : MF → Prop
 | .sub fs => Qi n g fs
 | _ => True
def Aej (n : Nat) : Nat → List FD → List Nat → Prop
 | off, fd :: r, t :: ts => fd.path.sum = off ∧ AmP n t fd.g fd.f ∧ Aej n (off + 1) r ts
 | _, [], [] => True
 | _, _, _ => False
def AgZ (n : Nat) : Nat → List FD → Prop
 | off, fd :: r => fd.path.sum = off ∧ AmO n fd.g fd.f ∧ AgZ n (off + 1) r
 | _, [] => True
section fns
variable {β : Type}
def Fe (p : Pr β) : List Nat → AV → (AV → Option β) → Option β
 | [], x, K => K x
 | o :: r, x, K => p.fadr o x fun t => Fe p r t K
def Lo (p : Pr β) (tS tI gT w : Nat) (a i : AV) : List FD → AV → Ad → (KO β) → Option β
 | [], k, H, K => K k H
 | ⟨.str, path, _⟩ :: r, k, H, K => p.call tS (.fn gT [] []) [k] H fun s H => p.iadr w a i fun t => Fe p path t fun t => p.store 1 t s H fun H => p.bin .add k (.sc (.int .i64 1)) fun k => Lo p tS tI gT w a i r k H K
 | ⟨.int, path, _⟩ :: r, k, H, K => p.iadr w a i fun t => Fe p path t fun t => p.store 1 t k H fun H => p.bin .add k (.sc (.int .i64 1)) fun k => Lo p tS tI gT w a i r k H K
 | ⟨.bool, path, _⟩ :: r, k, H, K => p.bin .rem k (.sc (.int .i64 3)) fun q => p.bin .eql q (.sc (.int .i64 0)) fun b => p.iadr w a i fun t => Fe p path t fun t => p.store 1 t b H fun H => p.bin .add k (.sc (.int .i64 1)) fun k => Lo p tS tI gT w a i r k H K
 | ⟨.byt, path, _⟩ :: r, k, H, K => p.cvI .u8 k fun c => p.iadr w a i fun t => Fe p path t fun t => p.store 1 t c H fun H => p.bin .add k (.sc (.int .i64 1)) fun k => Lo p tS tI gT w a i r k H K
 | ⟨.sub _, path, g⟩ :: r, k, H, K => p.iadr w a i fun t => Fe p path t fun t => p.load false 1 t H fun v => p.call tI (.fn g [] []) [v, k] H fun k H => Lo p tS tI gT w a i r k H K
 | ⟨.skip, _, _⟩ :: r, k, H, K => Lo p tS tI gT w a i r k H K
def Ln (p : Pr β) (tS tI gT w : Nat) (a i : AV) (F : Ad → Option β) : List FD → AV → Ad → (KO β) → Option β
 | [], k, H, K => K k H
 | ⟨.str, path, _⟩ :: r, k, H, K => p.iadr w a i fun t => Fe p path t fun t => p.load false 1 t H fun v => p.call tS (.fn gT [] []) [k] H fun s H => p.bin .neq v s fun b => p.cond b (F H) (p.bin .add k (.sc (.int .i64 1)) fun k => Ln p tS tI gT w a i F r k H K)
 | ⟨.int, path, _⟩ :: r, k, H, K => p.iadr w a i fun t => Fe p path t fun t => p.load false 1 t H fun v => p.bin .neq v k fun b => p.cond b (F H) (p.bin .add k (.sc (.int .i64 1)) fun k => Ln p tS tI gT w a i F r k H K)
 | ⟨.bool, path, _⟩ :: r, k, H, K => p.iadr w a i fun t => Fe p path t fun t => p.load false 1 t H fun v => p.bin .rem k (.sc (.int .i64 3)) fun q => p.bin .eql q (.sc (.int .i64 0)) fun e => p.binB .neq v e fun b => p.cond b (F H) (p.bin .add k (.sc (.int .i64 1)) fun k => Ln p tS tI gT w a i F r k H K)
 | ⟨.byt, path, _⟩ :: r, k, H, K => p.iadr w a i fun t => Fe p path t fun t => p.load false 1 t H fun v => p.cvI .u8 k fun c => p.bin .neq v c fun b => p.cond b (F H) (p.bin .add k (.sc (.int .i64 1)) fun k => Ln p tS tI gT w a i F r k H K)
 | ⟨.sub _, path, g⟩ :: r, k, H, K => p.iadr w a i fun t => Fe p path t fun t => p.load false 1 t H fun v => p.call tI (.fn g [] []) [v, k] H fun k H => p.bin .lss k (.sc (.int .i64 0)) fun b => p.cond b (F H) (Ln p tS tI gT w a i F r k H K)
 | ⟨.skip, _, _⟩ :: r, k, H, K => Ln p tS tI gT w a i F r k H K
variable {n : Nat} {res : Option β}
theorem Lf : ∀ (path : List Nat) (id off : Nat) (K : AV → Option β), Fe (PR n β) path (.ptr id off) K = K (.ptr id (off + path.sum))
 | [], id, off, K => rfl
 | o :: r, id, off, K => by
  show Fe (PR n β) r (.ptr id (off + o)) K = _
  rw [Lf r, List.sum_cons, zaE]
theorem Aai : ∀ (path : List Nat) (cells : List AV) (K : AV → Option β), Fe (PR n β) path (.rp cells) K = K (.rp (cells.drop path.sum))
 | [], cells, K => by simp [Fe]
 | o :: r, cells, K => by
  show Fe (PR n β) r (.rp (cells.drop o)) K = _
  rw [Aai r, List.sum_cons, zbp]
theorem Zq (k : Int) (K : AV → Option β) (h0 : 0 ≤ k) (h1 : k ≤ 4611686018427387904) : Cs .add (.sc (.int .i64 k)) (.sc (.int .i64 1)) K = K (.sc (.int .i64 (k + 1))) := by
 show K (.sc (.int .i64 (IntKind.i64.wrap (k + 1)))) = _
 rw [H9 _ (by omega) (by omega)]
theorem Z3 {tS gT : Nat} (h : Q2 n tS gT) {k : Int} (h0 : 0 ≤ k) (h1 : k ≤ 4611686018427387904) (H : Ad) (K : KO β) : (PR n β).call tS (.fn gT [] []) [.sc (.int .i64 k)] H K = K (.sc (.string (AdW k))) H := by
 rw [Jc (vs := [.sc (.int .i64 k)]) h.1 rfl (h.2 k h0 h1), G7, zan]
theorem Aer {tS tI gT w len i : Nat} (hT : Q2 n tS gT) (hi : i < len) : ∀ (todo : List FD) (off : Nat) (Q R S : List AV) (TP tR TS : List Nat) (k : Int) (A C : Ad) (K : KO β),
  Aej n off todo tR → TP.length = Q.length → Q.length = i * w + off → Ni (todo.map FD.f) R → 0 ≤ k → k + Fk (todo.map FD.f) R ≤ 4611686018427387904 →
  (∀ X, K (.sc (.int .i64 (F3 (todo.map FD.f) k R).2)) (A ++ (SB A.length (TP ++ (tR ++ TS)) (Q ++ ((F3 (todo.map FD.f) k R).1 ++ S)) ++ (C ++ X))) = res) →
  Lo (PR n β) tS tI gT w (.sl A.length 0 len w) (.sc (.int .i64 i)) todo (.sc (.int .i64 k)) (A ++ (SB A.length (TP ++ (tR ++ TS)) (Q ++ (R ++ S)) ++ C)) K = res
 | [], off, Q, R, S, TP, tR, TS, k, A, C, K, hf, ht, hq, hw, h0, h1, h => by
  cases R with
  | nil =>
   have := h []
   simp only [zan] at this
   exact this
  | cons c R => exact absurd rfl hw.1
 | fd :: todo, off, Q, R, S, TP, tR, TS, k, A, C, K, hf, ht, hq, hw, h0, h1, h => by
  cases R with
  | nil => exact absurd (show fd.f :: todo.map FD.f = [] from hw) (by simp)
  | cons c R =>
  cases tR with
  | nil => exact hf.elim
  | cons t tR =>
  obtain ⟨hpath, hsub, hrest⟩ := hf
  obtain ⟨hwc, hwR⟩ := wfL_cons.1 hw
  have hpl : ∀ K' : AV → Option β, (D7 w (.sl A.length 0 len w) (.sc (.int .i64 i)) fun t => Fe (PR n β) fd.path t K') = K' (.ptr A.length Q.length) := fun K' => by
   rw [Yz w _ _ _ _ _ hi, Lf, hpath, hq, za2]
  have hcnt : Fk ((fd :: todo).map FD.f) (c :: R) = Gg fd.f c + Fk (todo.map FD.f) R := rfl
  have hmk : F3 ((fd :: todo).map FD.f) k (c :: R) = ((H0 fd.f k c).1 :: (F3 (todo.map FD.f) (H0 fd.f k c).2 R).1, (F3 (todo.map FD.f) (H0 fd.f k c).2 R).2) := rfl
  rw [hcnt] at h1
  rw [hmk] at h
  have e1 : ∀ (x : AV) (Y : List AV), Q ++ (x :: Y ++ S) = Q ++ x :: (Y ++ S) := fun x Y => rfl
  have e2 : ∀ (x : AV) (Y : List AV), Q ++ x :: (Y ++ S) = (Q ++ [x]) ++ (Y ++ S) := fun x Y => by simp
  have e3 : TP ++ (t :: tR ++ TS) = (TP ++ [t]) ++ (tR ++ TS) := by simp
  have e4 : TP ++ (t :: tR ++ TS) = TP ++ t :: (tR ++ TS) := rfl
  have go : ∀ (c' : AV) (k' : Int) (C : Ad) (K : KO β), 0 ≤ k' → k' + Fk (todo.map FD.f) R ≤ 4611686018427387904 →
    (∀ X, K (.sc (.int .i64 (F3 (todo.map FD.f) k' R).2)) (A ++ (SB A.length (TP ++ (t :: tR ++ TS)) (Q ++ (c' :: (F3 (todo.map FD.f) k' R).1 ++ S)) ++ (C ++ X))) = res) →
    Lo (PR n β) tS tI gT w (.sl A.length 0 len w) (.sc (.int .i64 i)) todo (.sc (.int .i64 k')) (A ++ (SB A.length (TP ++ (t :: tR ++ TS)) (Q ++ c' :: (R ++ S)) ++ C)) K = res := by
   intro c' k' C K h0' h1' h'
   have := Aer (tI := tI) (w := w) hT hi todo (off + 1) (Q ++ [c']) R S (TP ++ [t]) tR TS k' A C K hrest (by simp [ht]) (by simp [hq]; omega) hwR h0' h1' (fun X => by
    have := h' X
    rw [e1, e2, e3] at this
    exact this)
   rw [e3, e2]
   exact this
  obtain ⟨f, path, g⟩ := fd
  cases f with
  | skip =>
   have hc : ∃ v, c = .sc v := by
    cases c <;> first | exact ⟨_, rfl⟩ | exact hwc.elim
   obtain ⟨v, rfl⟩ := hc
   exact go (.sc v) k C K h0 (by simpa [Gg] using h1) h
  | sub fs =>
   have hc : ∃ m cells, c = .ro m cells := by
    cases c with
    | ro m cells => exact ⟨m, cells, rfl⟩
    | sc v => exact hwc.elim
    | _ => exact hwc.elim
   obtain ⟨m, cells, rfl⟩ := hc
   obtain ⟨hh, hx, ⟨j1, j2, hj1, hj2⟩, hmk'⟩ := hsub
   have hk' := Pz (.ro m cells) (.sub fs) k
   have h1 : k + (Gg (.sub fs) (.ro m cells) + Fk (todo.map FD.f) R : Nat) ≤ 4611686018427387904 := h1
   show (D7 w (.sl A.length 0 len w) (.sc (.int .i64 i)) fun t => Fe (PR n β) path t fun t => C3 false 1 t _ fun v => (PR n β).call tI (.fn g [] []) [v, .sc (.int .i64 k)] _ fun k H => Lo (PR n β) tS tI gT w _ _ todo k H K) = res
   rw [hpl]
   rw [e4, e1]
   refine AkV ht rfl hh hx (hmk' m cells k hwc h0 (by omega)) (fun M => ?_) (Qw _ _ _) fun X => ?_
   ·rw [Px hj1 hj2]
    show (B7 Au E0.tp M t (.ro m _)).1 = _
    rw [Px hj1 hj2]
   ·refine go _ _ (C ++ X) K (by omega) (by omega) fun Y => ?_
    rw [zaf]
    exact h (X ++ Y)
  | str =>
   have hc : ∃ s, c = .sc (.string s) := by
    cases c with
    | sc v => cases v <;> first | exact ⟨_, rfl⟩ | exact hwc.elim
    | _ => exact hwc.elim
   obtain ⟨v, rfl⟩ := hc
   have h1 : k + (1 + Fk (todo.map FD.f) R : Nat) ≤ 4611686018427387904 := h1
   show (PR n β).call tS (.fn gT [] []) [.sc (.int .i64 k)] _ (fun s H => D7 w (.sl A.length 0 len w) (.sc (.int .i64 i)) fun t => Fe (PR n β) path t fun t => G8 1 t s H fun H => Cs .add (.sc (.int .i64 k)) (.sc (.int .i64 1)) fun k => Lo (PR n β) tS tI gT w _ _ todo k H K) = res
   rw [Z3 hT h0 (by omega)]
   simp only [hpl]
   rw [e4, e1, R7 ht rfl rfl, Zq _ _ h0 (by omega)]
   exact go _ _ C K (by omega) (by omega) h
  | int =>
   have hc : ∃ z, c = .sc (.int .i64 z) := by
    cases c with
    | sc v => cases v with
     | int kd z => cases kd <;> first | exact ⟨_, rfl⟩ | exact hwc.elim
     | _ => exact hwc.elim
    | _ => exact hwc.elim
   obtain ⟨v, rfl⟩ := hc
   have h1 : k + (1 + Fk (todo.map FD.f) R : Nat) ≤ 4611686018427387904 := h1
   show (D7 w (.sl A.length 0 len w) (.sc (.int .i64 i)) fun t => Fe (PR n β) path t fun t => G8 1 t (.sc (.int .i64 k)) _ fun H => Cs .add (.sc (.int .i64 k)) (.sc (.int .i64 1)) fun k => Lo (PR n β) tS tI gT w _ _ todo k H K) = res
   rw [hpl]
   rw [e4, e1, R7 ht rfl rfl, Zq _ _ h0 (by omega)]
   exact go _ _ C K (by omega) (by omega) h
  | bool =>
   have hc : ∃ b, c = .sc (.bool b) := by
    cases c with
    | sc v => cases v <;> first | exact ⟨_, rfl⟩ | exact hwc.elim
    | _ => exact hwc.elim
   obtain ⟨v, rfl⟩ := hc
   have h1 : k + (1 + Fk (todo.map FD.f) R : Nat) ≤ 4611686018427387904 := h1
   show (D7 w (.sl A.length 0 len w) (.sc (.int .i64 i)) fun t => Fe (PR n β) path t fun t => G8 1 t (.sc (.bool (k.tmod 3 == 0))) _ fun H => Cs .add (.sc (.int .i64 k)) (.sc (.int .i64 1)) fun k => Lo (PR n β) tS tI gT w _ _ todo k H K) = res
   rw [hpl]
   rw [e4, e1, R7 ht rfl rfl, Zq _ _ h0 (by omega)]
   exact go _ _ C K (by omega) (by omega) h
  | byt =>
   have hc : ∃ z, c = .sc (.int .u8 z) := by
    cases c with
    | sc v => cases v with
     | int kd z => cases kd <;> first | exact ⟨_, rfl⟩ | exact hwc.elim
     | _ => exact hwc.elim
    | _ => exact hwc.elim
   obtain ⟨v, rfl⟩ := hc
   have h1 : k + (1 + Fk (todo.map FD.f) R : Nat) ≤ 4611686018427387904 := h1
   show (D7 w (.sl A.length 0 len w) (.sc (.int .i64 i)) fun t => Fe (PR n β) path t fun t => G8 1 t (.sc (.int .u8 (IntKind.u8.wrap k))) _ fun H => Cs .add (.sc (.int .i64 k)) (.sc (.int .i64 1)) fun k => Lo (PR n β) tS tI gT w _ _ todo k H K) = res
   rw [hpl]
   rw [e4, e1, R7 ht rfl rfl, Zq _ _ h0 (by omega)]
   exact go _ _ C K (by omega) (by omega) h
end fns
end
section
open Go
variable {β : Type} {n : Nat} {res : Option β}
theorem Zm {n : Nat} : ∀ {off : Nat} {fds : List FD} {ts : List Nat}, Aej n off fds ts → fds.length = ts.length
 | _, [], [], _ => rfl
 | _, _ :: _, _ :: _, h => by simp [Zm h.2.2]
 | _, [], _ :: _, h => h.elim
 | _, _ :: _, [], h => h.elim
theorem Agn (id off m w : Nat) (k : AV → Option β) : Jo (.sl id off m w) k = k (.sc (.int .i64 m)) := rfl
theorem Agr {tS tI gT w len : Nat} {cty : List Nat} {fds : List FD} (hT : Q2 n tS gT) (hf : Aej n 0 fds cty) (hw : fds.length = w) (hlen : len ≤ 1048576) (L : Nat → AV → AV → KO β) (kk : KO β)
  (hL : ∀ m a k i H, L (m + 1) a k i H = Jo a fun t8 => Cs .lss i t8 fun t9 => Em t9 (Lo (PR n β) tS tI gT w a i fds k H fun k' H => Cs .add i (.sc (.int .i64 1)) fun i' => L m a k' i' H) (kk k H)) :
  ∀ (r i m : Nat) (P S : List AV) (TP : List Nat) (k : Int) (A C : Ad), P.length = i * w → TP.length = P.length → i + r = len → r < m → Ni (Is r (fds.map FD.f)) S → 0 ≤ k → k + Fk (Is r (fds.map FD.f)) S ≤ 4611686018427387904 →
   (∀ X, kk (.sc (.int .i64 (F3 (Is r (fds.map FD.f)) k S).2)) (A ++ (SB A.length (TP ++ (zaj r cty).flatten) (P ++ (F3 (Is r (fds.map FD.f)) k S).1) ++ (C ++ X))) = res) →
   L m (.sl A.length 0 len w) (.sc (.int .i64 k)) (.sc (.int .i64 i)) (A ++ (SB A.length (TP ++ (zaj r cty).flatten) (P ++ S) ++ C)) = res
 | 0, i, m + 1, P, S, TP, k, A, C, hP, hTP, hr, hm, hwf, h0, h1, h => by
  have hS : S = [] := by
   have := Ml hwf
   simp [Is] at this
   exact zar this.symm
  subst hS
  obtain rfl : i = len := by omega
  rw [hL]
  rw [Agn, Hj, Dv, if_neg (by simp)]
  have := h []
  simp only [zan, F3] at this ⊢
  exact this
 | r + 1, i, m + 1, P, S, TP, k, A, C, hP, hTP, hr, hm, hwf, h0, h1, h => by
  have hi : i < len := by omega
  have hml : (fds.map FD.f).length = w := by simp [hw]
  have hSl : S.length = (r + 1) * w := by
   have := Ml hwf
   rw [Aa7, hml] at this
   exact this.symm
  obtain ⟨R, S', rfl, hRl⟩ : ∃ R S', S = R ++ S' ∧ R.length = w := ⟨S.take w, S.drop w, (zaS w S).symm, by rw [zbm, hSl, zbv]; omega⟩
  rw [Ja] at hwf h1 h
  have hl : (fds.map FD.f).length = R.length := by rw [hml, hRl]
  obtain ⟨hwR, hwS⟩ := (Kc hl).1 hwf
  rw [I5 _ _ _ _ hl] at h1
  rw [Lu _ _ _ _ _ hl] at h
  have hkc := Mj R (fds.map FD.f) k
  have hRl' := P0 R (fds.map FD.f) k
  have hcl : cty.length = w := by rw [← Zm hf, hw]
  rw [zbf, za1] at h ⊢
  rw [hL]
  rw [Agn, Hj, Dv, if_pos (by simpa using hi)]
  refine Aer (w := w) (tI := tI) hT hi fds 0 P R S' TP cty (zaj r cty).flatten k A C _ hf hTP (by rw [hP, zaO]) hwR h0 (by omega) fun X => ?_
  rw [Hi _ _ (by omega)]
  have ih := Agr hT hf hw hlen L kk hL r (i + 1) m (P ++ (F3 (fds.map FD.f) k R).1) S' (TP ++ cty) (F3 (fds.map FD.f) k R).2 A (C ++ X) (by rw [zae, hP, hRl', hRl, zbv]) (by rw [zae, zae, hTP, hcl, hRl', hRl]) (by omega) (by omega) hwS (by omega) (by omega) (fun Y => by
   have := h (X ++ Y)
   simp only [zaf] at this ⊢
   exact this)
  simp only [zaf] at ih ⊢
  exact ih
theorem Uf {tS tI gT w f tyS : Nat} {cty : List Nat} {fds : List FD} (hh : E0.hm f = true) (hx : E0.ext f = none) (hT : Q2 n tS gT) (hf : Aej n 0 fds cty) (hw : fds.length = w) (hty : ∃ i j, Au tyS = some i ∧ Au i.elem = some j ∧ j.size = w ∧ j.cty = cty) (hn : 1048576 < n)
  (L : (β : Type) → (KO β) → Nat → AV → AV → KO β)
  (hL : ∀ β kk m a k i H, L β kk (m + 1) a k i H = Jo a fun t8 => Cs .lss i t8 fun t9 => Em t9 (Lo (PR n β) tS tI gT w a i fds k H fun k' H => Cs .add i (.sc (.int .i64 1)) fun i' => L β kk m a k' i' H) (kk k H))
  (hF : ∀ β a b H kk, Ej E0 (n + 1) β f [a, b] H kk = L β kk n a b (.sc (.int .i64 0)) H) : Nk (n + 1) f tyS (fds.map FD.f) := by
 obtain ⟨ti, tj, h1, h2, h3, h4⟩ := hty
 refine ⟨hh, hx, ⟨ti, tj, h1, h2⟩, fun len cells k hwf h0 hb => ?_⟩
 intro β A C K r h
 obtain ⟨hlen, hcl, hwl⟩ := (show len ≤ 1048576 ∧ cells.length = len * (fds.map FD.f).length ∧ Ni (Is len (fds.map FD.f)) cells from hwf)
 rw [hF, Px h1 h2, h3, h4]
 have hmk : H0 (.sub (fds.map FD.f)) k (.ro len cells) = (.ro len (F3 (Is len (fds.map FD.f)) k cells).1, (F3 (Is len (fds.map FD.f)) k cells).2) := rfl
 rw [hmk] at h
 simp only [Px h1 h2, h3, h4] at h
 exact Agr (n := n) (cty := cty) hT hf hw hlen (L β K) K (hL β K) len 0 n [] cells [] k A C (by simp) rfl (by omega) (by omega) hwl h0 hb h
theorem Aeq {tS tI gT w len i : Nat} {F : Ad → Option β} (hT : Q2 n tS gT) (hi : i < len) (cells : List AV) (hw0 : i * w < cells.length) : ∀ (todo : List FD) (off : Nat) (Q R S : List AV) (k : Int) (H : Ad) (K : KO β),
  AgZ n off todo → Q.length = i * w + off → Ni (todo.map FD.f) R → 0 ≤ k → k + Fk (todo.map FD.f) R ≤ 4611686018427387904 → cells = Q ++ ((F3 (todo.map FD.f) k R).1 ++ S) →
  (∀ X, K (.sc (.int .i64 (F3 (todo.map FD.f) k R).2)) (H ++ X) = res) →
  Ln (PR n β) tS tI gT w (.ro len cells) (.sc (.int .i64 i)) F todo (.sc (.int .i64 k)) H K = res
 | [], off, Q, R, S, k, H, K, hf, hq, hw, h0, h1, hc, h => by
  cases R with
  | nil =>
   have := h []
   rw [zan] at this
   exact this
  | cons c R => exact absurd rfl hw.1
 | fd :: todo, off, Q, R, S, k, H, K, hf, hq, hw, h0, h1, hc, h => by
  cases R with
  | nil => exact absurd (show fd.f :: todo.map FD.f = [] from hw) (by simp)
  | cons c R =>
  obtain ⟨hpath, hsub, hrest⟩ := hf
  obtain ⟨hwc, hwR⟩ := wfL_cons.1 hw
  have hmk : F3 ((fd :: todo).map FD.f) k (c :: R) = ((H0 fd.f k c).1 :: (F3 (todo.map FD.f) (H0 fd.f k c).2 R).1, (F3 (todo.map FD.f) (H0 fd.f k c).2 R).2) := rfl
  rw [hmk] at h hc
  have hcells : cells = Q ++ (H0 fd.f k c).1 :: ((F3 (todo.map FD.f) (H0 fd.f k c).2 R).1 ++ S) := hc
  have hpl : ∀ K' : AV → Option β, (D7 w (.ro len cells) (.sc (.int .i64 i)) fun t => Fe (PR n β) fd.path t fun t => C3 false 1 t H K') = K' (H0 fd.f k c).1 := fun K' => by
   rw [Nz w _ _ i _ hi hw0, Aai, hpath, zbp, ← hq]
   conv => lhs; rw [hcells]
   rw [za3 (zam _), zaU, zal, O5]
  have go : ∀ (H' : Ad), (∀ X, K (.sc (.int .i64 (F3 (todo.map FD.f) (H0 fd.f k c).2 R).2)) (H' ++ X) = res) → 0 ≤ (H0 fd.f k c).2 → (H0 fd.f k c).2 + Fk (todo.map FD.f) R ≤ 4611686018427387904 →
    Ln (PR n β) tS tI gT w (.ro len cells) (.sc (.int .i64 i)) F todo (.sc (.int .i64 (H0 fd.f k c).2)) H' K = res := by
   intro H' h' g0 g1
   exact Aeq hT hi cells hw0 todo (off + 1) (Q ++ [(H0 fd.f k c).1]) R S (H0 fd.f k c).2 H' K hrest (by simp [hq]; omega) hwR g0 g1 (by rw [hcells]; simp) h'
  have hcnt := Pz c fd.f k
  have h1 : k + (Gg fd.f c + Fk (todo.map FD.f) R : Nat) ≤ 4611686018427387904 := h1
  obtain ⟨f, path, g⟩ := fd
  simp only at hcnt h1 hpl go h
  cases f with
  | skip =>
   have hc : ∃ v, c = .sc v := by
    cases c <;> first | exact ⟨_, rfl⟩ | exact hwc.elim
   obtain ⟨v, rfl⟩ := hc
   exact go H h h0 (by simpa [Gg, H0] using h1)
  | sub fs =>
   have hc : ∃ m cells, c = .ro m cells := by
    cases c with
    | ro m cells => exact ⟨m, cells, rfl⟩
    | sc v => exact hwc.elim
    | _ => exact hwc.elim
   obtain ⟨m, cs, rfl⟩ := hc
   obtain ⟨hh, hhe⟩ := hsub
   show (D7 w (.ro len cells) (.sc (.int .i64 i)) fun t => Fe (PR n β) path t fun t => C3 false 1 t H fun v => (PR n β).call tI (.fn g [] []) [v, .sc (.int .i64 k)] H fun k H => Cs .lss k (.sc (.int .i64 0)) fun b => Em b (F H) (Ln (PR n β) tS tI gT w _ _ F todo k H K)) = res
   rw [hpl, Jc (vs := [(H0 (.sub fs) k (.ro m cs)).1, .sc (.int .i64 k)]) hh rfl (hhe tI m cs k hwc h0 (by omega)), G7, zan]
   simp only
   rw [Rr, Dv, if_neg (by simp; omega)]
   exact go H h (by omega) (by omega)
  | str =>
   have hc : ∃ s, c = .sc (.string s) := by
    cases c with
    | sc v => cases v <;> first | exact ⟨_, rfl⟩ | exact hwc.elim
    | _ => exact hwc.elim
   obtain ⟨v, rfl⟩ := hc
   have h1 : k + (1 + Fk (todo.map FD.f) R : Nat) ≤ 4611686018427387904 := h1
   have hpl' : ∀ K' : AV → Option β, (D7 w (.ro len cells) (.sc (.int .i64 i)) fun t => Fe (PR n β) path t fun t => C3 false 1 t H K') = K' (.sc (.string (AdW k))) := hpl
   show (D7 w (.ro len cells) (.sc (.int .i64 i)) fun t => Fe (PR n β) path t fun t => C3 false 1 t H fun v => (PR n β).call tS (.fn gT [] []) [.sc (.int .i64 k)] H fun s H => Cs .neq v s fun b => Em b (F H) (Cs .add (.sc (.int .i64 k)) (.sc (.int .i64 1)) fun k => Ln (PR n β) tS tI gT w _ _ F todo k H K)) = res
   rw [hpl', Z3 hT h0 (by omega), AmE]
   simp only [beq_self_eq_true, zaw]
   rw [Dv, if_neg (by simp), Zq _ _ h0 (by omega)]
   exact go H h (by show 0 ≤ k + 1; omega) (by show k + 1 + _ ≤ _; omega)
  | int =>
   have hc : ∃ z, c = .sc (.int .i64 z) := by
    cases c with
    | sc v => cases v with
     | int kd z => cases kd <;> first | exact ⟨_, rfl⟩ | exact hwc.elim
     | _ => exact hwc.elim
    | _ => exact hwc.elim
   obtain ⟨v, rfl⟩ := hc
   have h1 : k + (1 + Fk (todo.map FD.f) R : Nat) ≤ 4611686018427387904 := h1
   have hpl' : ∀ K' : AV → Option β, (D7 w (.ro len cells) (.sc (.int .i64 i)) fun t => Fe (PR n β) path t fun t => C3 false 1 t H K') = K' (.sc (.int .i64 k)) := hpl
   show (D7 w (.ro len cells) (.sc (.int .i64 i)) fun t => Fe (PR n β) path t fun t => C3 false 1 t H fun v => Cs .neq v (.sc (.int .i64 k)) fun b => Em b (F H) (Cs .add (.sc (.int .i64 k)) (.sc (.int .i64 1)) fun k => Ln (PR n β) tS tI gT w _ _ F todo k H K)) = res
   rw [hpl', AjE]
   simp only [bne_self_eq_false]
   rw [Dv, if_neg (by simp), Zq _ _ h0 (by omega)]
   exact go H h (by show 0 ≤ k + 1; omega) (by show k + 1 + _ ≤ _; omega)
  | bool =>
   have hc : ∃ b, c = .sc (.bool b) := by
    cases c with
    | sc v => cases v <;> first | exact ⟨_, rfl⟩ | exact hwc.elim
    | _ => exact hwc.elim
   obtain ⟨v, rfl⟩ := hc
   have h1 : k + (1 + Fk (todo.map FD.f) R : Nat) ≤ 4611686018427387904 := h1
   have hpl' : ∀ K' : AV → Option β, (D7 w (.ro len cells) (.sc (.int .i64 i)) fun t => Fe (PR n β) path t fun t => C3 false 1 t H K') = K' (.sc (.bool (k.tmod 3 == 0))) := hpl
   show (D7 w (.ro len cells) (.sc (.int .i64 i)) fun t => Fe (PR n β) path t fun t => C3 false 1 t H fun v => Qc .neq v (.sc (.bool (k.tmod 3 == 0))) fun b => Em b (F H) (Cs .add (.sc (.int .i64 k)) (.sc (.int .i64 1)) fun k => Ln (PR n β) tS tI gT w _ _ F todo k H K)) = res
   rw [hpl', AmD]
   simp only [beq_self_eq_true, zaw]
   rw [Dv, if_neg (by simp), Zq _ _ h0 (by omega)]
   exact go H h (by show 0 ≤ k + 1; omega) (by show k + 1 + _ ≤ _; omega)
  | byt =>
   have hc : ∃ z, c = .sc (.int .u8 z) := by
    cases c with
    | sc v => cases v with
     | int kd z => cases kd <;> first | exact ⟨_, rfl⟩ | exact hwc.elim
     | _ => exact hwc.elim
    | _ => exact hwc.elim
   obtain ⟨v, rfl⟩ := hc
   have h1 : k + (1 + Fk (todo.map FD.f) R : Nat) ≤ 4611686018427387904 := h1
   have hpl' : ∀ K' : AV → Option β, (D7 w (.ro len cells) (.sc (.int .i64 i)) fun t => Fe (PR n β) path t fun t => C3 false 1 t H K') = K' (.sc (.int .u8 (IntKind.u8.wrap k))) := hpl
   show (D7 w (.ro len cells) (.sc (.int .i64 i)) fun t => Fe (PR n β) path t fun t => C3 false 1 t H fun v => Cs .neq v (.sc (.int .u8 (IntKind.u8.wrap k))) fun b => Em b (F H) (Cs .add (.sc (.int .i64 k)) (.sc (.int .i64 1)) fun k => Ln (PR n β) tS tI gT w _ _ F todo k H K)) = res
   rw [hpl']
   show Em (.sc (.bool (IntKind.u8.wrap k != IntKind.u8.wrap k))) _ _ = res
   simp only [bne_self_eq_false]
   rw [Dv, if_neg (by simp), Zq _ _ h0 (by omega)]
   exact go H h (by show 0 ≤ k + 1; omega) (by show k + 1 + _ ≤ _; omega)
theorem Agq {tS tI gT w len : Nat} {fds : List FD} (hT : Q2 n tS gT) (hf : AgZ n 0 fds) (hw : fds.length = w) (hw0 : 0 < w) (hlen : len ≤ 1048576) (cells : List AV) (L : Nat → AV → AV → KO β) (kk : KO β)
  (hL : ∀ m a k i H, L (m + 1) a k i H = Jo a fun t8 => Cs .lss i t8 fun t9 => Em t9 (Ln (PR n β) tS tI gT w a i (fun H => kk (.sc (.int .i64 (-1))) H) fds k H fun k' H => Cs .add i (.sc (.int .i64 1)) fun i' => L m a k' i' H) (kk k H)) :
  ∀ (r i m : Nat) (P S : List AV) (k : Int) (H : Ad), P.length = i * w → i + r = len → r < m → Ni (Is r (fds.map FD.f)) S → 0 ≤ k → k + Fk (Is r (fds.map FD.f)) S ≤ 4611686018427387904 → cells = P ++ (F3 (Is r (fds.map FD.f)) k S).1 →
   (∀ X, kk (.sc (.int .i64 (F3 (Is r (fds.map FD.f)) k S).2)) (H ++ X) = res) →
   L m (.ro len cells) (.sc (.int .i64 k)) (.sc (.int .i64 i)) H = res
 | 0, i, m + 1, P, S, k, H, hP, hr, hm, hwf, h0, h1, hc, h => by
  have hS : S = [] := by
   have := Ml hwf
   simp [Is] at this
   exact zar this.symm
  subst hS
  obtain rfl : i = len := by omega
  rw [hL, Gi, Hj, Dv, if_neg (by simp)]
  have := h []
  simp only [zan, F3] at this ⊢
  exact this
 | r + 1, i, m + 1, P, S, k, H, hP, hr, hm, hwf, h0, h1, hc, h => by
  have hi : i < len := by omega
  have hml : (fds.map FD.f).length = w := by simp [hw]
  have hSl : S.length = (r + 1) * w := by
   have := Ml hwf
   rw [Aa7, hml] at this
   exact this.symm
  obtain ⟨R, S', rfl, hRl⟩ : ∃ R S', S = R ++ S' ∧ R.length = w := ⟨S.take w, S.drop w, (zaS w S).symm, by rw [zbm, hSl, zbv]; omega⟩
  rw [Ja] at hwf h1 h hc
  have hl : (fds.map FD.f).length = R.length := by rw [hml, hRl]
  obtain ⟨hwR, hwS⟩ := (Kc hl).1 hwf
  rw [I5 _ _ _ _ hl] at h1
  rw [Lu _ _ _ _ _ hl] at h hc
  have hkc := Mj R (fds.map FD.f) k
  have hRl' := P0 R (fds.map FD.f) k
  have hcl : i * w < cells.length := by
   rw [hc, zae, zae, hRl', hRl, hP]
   omega
  rw [hL, Gi, Hj, Dv, if_pos (by simpa using hi)]
  refine Aeq (w := w) (tI := tI) hT hi cells hcl fds 0 P R (F3 (Is r (fds.map FD.f)) (F3 (fds.map FD.f) k R).2 S').1 k H _ hf (by rw [hP, zaO]) hwR h0 (by omega) hc fun X => ?_
  rw [Hi _ _ (by omega)]
  exact Agq hT hf hw hw0 hlen cells L kk hL r (i + 1) m (P ++ (F3 (fds.map FD.f) k R).1) S' (F3 (fds.map FD.f) k R).2 (H ++ X) (by rw [zae, hP, hRl', hRl, zbv]) (by omega) (by omega) hwS (by omega) (by omega) (by rw [hc, zaf]) (fun Y => by
   have := h (X ++ Y)
   rw [zaf]
   exact this)
theorem Ud {tS tI gT w f : Nat} {fds : List FD} (hh : Fx f = false) (hT : Q2 n tS gT) (hf : AgZ n 0 fds) (hw : fds.length = w) (hw0 : 0 < w) (hn : 1048576 < n)
  (L : (AV → Ad → Option AV) → Nat → AV → AV → AV → Ad → Option AV)
  (hL : ∀ kk m a k i H, L kk (m + 1) a k i H = Jo a fun t8 => Cs .lss i t8 fun t9 => Em t9 (Ln (PR n AV) tS tI gT w a i (fun H => kk (.sc (.int .i64 (-1))) H) fds k H fun k' H => Cs .add i (.sc (.int .i64 1)) fun i' => L kk m a k' i' H) (kk k H))
  (hF : ∀ a b H kk, Ej E0 (n + 1) AV f [a, b] H kk = L kk n a b (.sc (.int .i64 0)) H) : Qi (n + 1) f (fds.map FD.f) := by
 refine ⟨hh, fun ty len cells k hwf h0 hb => ?_⟩
 obtain ⟨hlen, hcl, hwl⟩ := (show len ≤ 1048576 ∧ cells.length = len * (fds.map FD.f).length ∧ Ni (Is len (fds.map FD.f)) cells from hwf)
 rw [Bd, hF]
 exact Agq (n := n) hT hf hw hw0 hlen (F3 (Is len (fds.map FD.f)) k cells).1 (L fun x H => Bf Au E0.tp ty H x) (fun x H => Bf Au E0.tp ty H x) (hL _) len 0 n [] cells k [] (by simp) (by omega) (by omega) hwl h0 hb rfl (fun X => rfl)
end
section
open Go
section txt
theorem AgK (v : AV) (h : Ft v = some [v]) : Jh [(.sc (.int .u8 0))] [(0, 1, v)] = some [v] := by
 simp [Jh, h, Gx]
theorem Aeg (H : Ad) (b : UInt8) : Ec (H ++ [⟨[.sc (.int .u8 b.toNat)], true, true⟩]) 1 (.sl H.length 0 1 1) = some [.sc (.int .u8 b.toNat)] := by
 simp only [Ec, if_true, Bc, Sn H _ []]
 rfl
theorem Aez {k : Nat} (h : ¬ k = 0) (out : ByteArray) : Aba k out = Aba (k / 10) (⟨#[UInt8.ofNat (48 + k % 10)]⟩ ++ out) := by
 rw [Aba, dif_neg h]
theorem AaI {n ty : Nat} (L : Nat → AV → AV → Ad → Option AV)
  (hL : ∀ m k s H, L (m + 1) k s H = Cs .gtr k (.sc (.int .i64 0)) fun t7 => Em t7 (Cs .rem k (.sc (.int .i64 10)) fun t9 => Cs .add (.sc (.int .i64 48)) t9 fun t10 => W8 .u8 t10 fun t11 =>
   (Jh [(.sc (.int .u8 0))] [(0, 1, t11)]).bind fun ct12 => Hm 1 1 ct12 true H fun t12 H => Ph t12 H fun t13 => Cs .add t13 s fun t15 => Cs .quo k (.sc (.int .i64 10)) fun t17 => L m t17 t15 H)
   (Cs .add (.sc (.string ⟨#[109]⟩)) s fun t19 => Bf Au E0.tp ty H t19)) :
  ∀ (b m k : Nat) (out : ByteArray) (H : Ad), k ≤ 4611686018427387904 → k < 10 ^ b → b < m → out.size + b ≤ 1000 → L m (.sc (.int .i64 k)) (.sc (.string out)) H = some (.sc (.string (⟨#[109]⟩ ++ Aba k out)))
 | b, 0, k, out, H, hk0, h1, h2, h3 => by omega
 | b, m + 1, k, out, H, hk0, h1, h2, h3 => by
  rw [hL, AjB, Dv]
  by_cases hk : k = 0
  ·subst hk
   rw [if_neg (by simp)]
   have hs : (⟨#[109]⟩ : ByteArray).size + out.size ≤ 9223372036854775807 := by
    show 1 + out.size ≤ _
    omega
   show (W2 .add ⟨#[109]⟩ out).bind _ = _
   simp only [W2, if_pos hs, zac]
   rw [Aba, dif_pos rfl]
   rfl
  ·rw [if_pos (by simp; omega)]
   have e9 : ∀ K : AV → Option AV, Cs .rem (.sc (.int .i64 (k : Int))) (.sc (.int .i64 10)) K = K (.sc (.int .i64 ((k % 10 : Nat) : Int))) := by
    intro K
    show K (.sc (.int .i64 ((k : Int).tmod 10))) = _
    rw [show ((k : Int).tmod 10) = ((k % 10 : Nat) : Int) from by
     rw [za9 (by omega)]; simp]
   have e10 : ∀ K : AV → Option AV, Cs .add (.sc (.int .i64 48)) (.sc (.int .i64 ((k % 10 : Nat) : Int))) K = K (.sc (.int .i64 ((48 + k % 10 : Nat) : Int))) := by
    intro K
    show K (.sc (.int .i64 (IntKind.i64.wrap (48 + ((k % 10 : Nat) : Int))))) = _
    rw [H9 _ (by omega) (by omega)]
    rfl
   have e11 : ∀ K : AV → Option AV, W8 .u8 (.sc (.int .i64 ((48 + k % 10 : Nat) : Int))) K = K (.sc (.int .u8 ((UInt8.ofNat (48 + k % 10)).toNat : Int))) := by
    intro K
    show K (.sc (.int .u8 (IntKind.u8.wrap ((48 + k % 10 : Nat) : Int)))) = _
    have : (UInt8.ofNat (48 + k % 10)).toNat = 48 + k % 10 := by
     rw [UInt8.toNat_ofNat']
     omega
    rw [this]
    have hw : IntKind.u8.wrap ((48 + k % 10 : Nat) : Int) = ((48 + k % 10 : Nat) : Int) := by
     have h10 : k % 10 < 10 := Nat.mod_lt _ (by decide)
     unfold IntKind.wrap
     simp [IntKind.bits, IntKind.signed]
     omega
    rw [hw]
   have e17 : ∀ K : AV → Option AV, Cs .quo (.sc (.int .i64 (k : Int))) (.sc (.int .i64 10)) K = K (.sc (.int .i64 ((k / 10 : Nat) : Int))) := by
    intro K
    show K (.sc (.int .i64 (IntKind.i64.wrap ((k : Int).tdiv 10)))) = _
    rw [Int.tdiv_eq_ediv_of_nonneg (by omega), H9 _ (by omega) (by omega)]
    rfl
   rw [e9, e10, e11, AgK _ rfl]
   have hb : ((UInt8.ofNat (48 + k % 10)).toNat : Int).toNat = (UInt8.ofNat (48 + k % 10)).toNat := zbq _
   have hbb : ([.sc (.int .u8 ((UInt8.ofNat (48 + k % 10)).toNat : Int))] : List AV).mapM Kn = some [UInt8.ofNat (48 + k % 10)] := Kz [UInt8.ofNat (48 + k % 10)]
   simp only [zac, Hm, Ph, Aeg, hbb]
   have hs : (⟨#[UInt8.ofNat (48 + k % 10)]⟩ : ByteArray).size + out.size ≤ 9223372036854775807 := by
    show 1 + out.size ≤ _
    omega
   have e15 : ∀ K : AV → Option AV, Cs .add (.sc (.string ⟨[UInt8.ofNat (48 + k % 10)].toArray⟩)) (.sc (.string out)) K = K (.sc (.string (⟨#[UInt8.ofNat (48 + k % 10)]⟩ ++ out))) := by
    intro K
    show (W2 .add ⟨#[UInt8.ofNat (48 + k % 10)]⟩ out).bind _ = _
    simp only [W2, if_pos hs, zac]
   rw [e15, e17]
   cases b with
   | zero => simp at h1; omega
   | succ b =>
    have hk10 : k / 10 < 10 ^ b := by
     rw [Nat.pow_succ] at h1
     omega
    have hsz : (⟨#[UInt8.ofNat (48 + k % 10)]⟩ ++ out : ByteArray).size = 1 + out.size := by
     rw [zak]
     rfl
    rw [AaI (n := n) (ty := ty) L hL b m (k / 10) _ _ (by omega) hk10 (by omega) (by rw [hsz]; omega)]
    rw [Aez hk out]
end txt
theorem All {n tS f : Nat} (hh : Fx f = false) (hn : 1048576 < n) (L : (AV → Ad → Option AV) → Nat → AV → AV → Ad → Option AV)
  (hL : ∀ kk m k s H, L kk (m + 1) k s H = Cs .gtr k (.sc (.int .i64 0)) fun t7 => Em t7 (Cs .rem k (.sc (.int .i64 10)) fun t9 => Cs .add (.sc (.int .i64 48)) t9 fun t10 => W8 .u8 t10 fun t11 =>
   (Jh [(.sc (.int .u8 0))] [(0, 1, t11)]).bind fun ct12 => Hm 1 1 ct12 true H fun t12 H => Ph t12 H fun t13 => Cs .add t13 s fun t15 => Cs .quo k (.sc (.int .i64 10)) fun t17 => L kk m t17 t15 H)
   (Cs .add (.sc (.string ⟨#[109]⟩)) s fun t19 => kk t19 H))
  (hF : ∀ a H kk, Ej E0 (n + 1) AV f [a] H kk = Cs .leq a (.sc (.int .i64 0)) fun t5 => Em t5 (kk (.sc (.string ⟨#[109, 48]⟩)) H) (L kk n a (.sc (.string ⟨#[]⟩)) H)) : Q2 (n + 1) tS f := by
 refine ⟨hh, fun k h0 h1 => ?_⟩
 rw [Bd, hF, Xq, Dv]
 by_cases hk : k ≤ 0
 ·rw [if_pos (by simpa using hk), Ama, AdW, if_pos hk]
  rfl
 ·rw [if_neg (by simpa using hk)]
  obtain ⟨m, rfl⟩ : ∃ m : Nat, k = m := ⟨k.toNat, by omega⟩
  have := AaI (n := n) (ty := tS) (L fun x H => Bf Au E0.tp tS H x) (hL _) 19 n m ⟨#[]⟩ [] (by omega) (by omega) (by omega) (by decide)
  rw [this, AdW, if_neg hk]
  rfl
inductive FV where
 | skip
 | sub (fs : List MF) (path : List Nat) (g : FuncId)
 | agg (l : List MF) (path : List Nat) (w : Nat) (g : FuncId)
def D6 : List FV → List MF
 | [] => []
 | .skip :: r => .skip :: D6 r
 | .sub fs _ _ :: r => .sub fs :: D6 r
 | .agg l _ _ _ :: r => l ++ D6 r
def AbO (n g : Nat) (cty : List Nat) (fs : List MF) : Prop := E0.hm g = true ∧ E0.ext g = none ∧ ∀ (cs : List AV) (k : Int) (β : Type) (A C : Ad) (K : KO β) (r : Option β), Ni fs cs → 0 ≤ k → k + Fk fs cs ≤ 4611686018427387904 →
 (∀ X, K (.sc (.int .i64 (F3 fs k cs).2)) (A ++ ((A3 Au E0.tp A.length cty (F3 fs k cs).1).2 ++ (C ++ X))) = r) → Ej E0 n β g [.agg (A3 Au E0.tp A.length cty cs).1, .sc (.int .i64 k)] (A ++ ((A3 Au E0.tp A.length cty cs).2 ++ C)) K = r
def AbN (n g : Nat) (fs : List MF) : Prop := Fx g = false ∧ ∀ (ty : Nat) (cs : List AV) (k : Int), Ni fs cs → 0 ≤ k → k + Fk fs cs ≤ 4611686018427387904 → Dd E0 n ty g [.agg (F3 fs k cs).1, .sc (.int .i64 k)] = some (.sc (.int .i64 (F3 fs k cs).2))
def isV : MF → Bool
 | .skip => true
 | .sub _ => true
 | _ => false
def FvM (n : Nat) : Nat → List FV → List Nat → Prop
 | _, [], [] => True
 | off, .skip :: r, _ :: ts => FvM n (off + 1) r ts
 | off, .sub fs path g :: r, t :: ts => path.sum = off ∧ Nk n g t fs ∧ FvM n (off + 1) r ts
 | off, .agg l path w g :: r, ts => path.sum = off ∧ l.length = w ∧ 0 < w ∧ l.all isV = true ∧ AbO n g (ts.take w) l ∧ w ≤ ts.length ∧ FvM n (off + w) r (ts.drop w)
 | _, _, _ => False
def FvH (n : Nat) : Nat → List FV → Prop
 | _, [] => True
 | off, .skip :: r => FvH n (off + 1) r
 | off, .sub fs path g :: r => path.sum = off ∧ Qi n g fs ∧ FvH n (off + 1) r
 | off, .agg l path w g :: r => path.sum = off ∧ l.length = w ∧ 0 < w ∧ AbN n g l ∧ FvH n (off + w) r
section fns
variable {β : Type}
def Q6 (p : Pr β) (tI : Nat) (x : AV) : List FV → AV → Ad → (KO β) → Option β
 | [], k, H, K => K k H
 | .skip :: r, k, H, K => Q6 p tI x r k H K
 | .sub _ path g :: r, k, H, K => Fe p path x fun t => p.load false 1 t H fun v => p.call tI (.fn g [] []) [v, k] H fun k H => Q6 p tI x r k H K
 | .agg _ path w g :: r, k, H, K => Fe p path x fun t => p.load true w t H fun v => p.call tI (.fn g [] []) [v, k] H fun k H => Q6 p tI x r k H K
def Qk (p : Pr β) (tI : Nat) (x : AV) (F : Ad → Option β) : List FV → AV → Ad → (KO β) → Option β
 | [], k, H, K => K k H
 | .skip :: r, k, H, K => Qk p tI x F r k H K
 | .sub _ path g :: r, k, H, K => Fe p path x fun t => p.load false 1 t H fun v => p.call tI (.fn g [] []) [v, k] H fun k H => p.bin .lss k (.sc (.int .i64 0)) fun b => p.cond b (F H) (Qk p tI x F r k H K)
 | .agg _ path w g :: r, k, H, K => Fe p path x fun t => p.load true w t H fun v => p.call tI (.fn g [] []) [v, k] H fun k H => p.bin .lss k (.sc (.int .i64 0)) fun b => p.cond b (F H) (Qk p tI x F r k H K)
variable {n : Nat} {res : Option β}
theorem V2 {t g : Nat} {n : Nat} {fs : List MF} (h : Nk n g t fs) (k : Int) (m : Nat) (cells : List AV) (M : Nat) : (B7 Au E0.tp M t (H0 (.sub fs) k (.ro m cells)).1).1 = (B7 Au E0.tp M t (.ro m cells)).1 := by
 obtain ⟨_, _, ⟨j1, j2, hj1, hj2⟩, _⟩ := h
 rw [Px hj1 hj2]
 show (B7 Au E0.tp M t (.ro m _)).1 = _
 rw [Px hj1 hj2]
theorem V1 {ti : Nat → Option TI} {tp : Nat → Option (List Nat)} : ∀ (cs : List AV) (fs : List MF) (k : Int) (N : Nat) (ts : List Nat), fs.all isV = true → Ni fs cs → (A3 ti tp N ts (F3 fs k cs).1).1 = (A3 ti tp N ts cs).1
 | [], fs, k, N, ts, _, _ => by simp [F3]
 | c :: cs, [], k, N, ts, _, hw => absurd rfl hw.1
 | c :: cs, f :: fs, k, N, ts, hv, hw => by
  obtain ⟨h1, h2⟩ := wfL_cons.1 hw
  rw [zap, zag] at hv
  have ih := V1 (ti := ti) (tp := tp) cs fs (H0 f k c).2 (N + Mx c) ts.tail hv.2 h2
  have hn := Qw c f k
  have e : (B7 ti tp N (ts.headD 0) (H0 f k c).1).1 = (B7 ti tp N (ts.headD 0) c).1 := by
   cases c with
   | sc v => cases f <;> first | rfl | (exfalso; simpa [isV] using hv.1)
   | ro m cells => cases f <;> first | rfl | exact h1.elim
   | _ => exact h1.elim
  show (B7 ti tp N (ts.headD 0) (H0 f k c).1).1 :: (A3 ti tp (N + (B7 ti tp N (ts.headD 0) (H0 f k c).1).2.length) ts.tail (F3 fs (H0 f k c).2 cs).1).1 = _ :: (A3 ti tp (N + (B7 ti tp N (ts.headD 0) c).2.length) ts.tail cs).1
  rw [Iy, Iy, e, hn, ih]
theorem Yj {tI idx : Nat} {ys : List AV} : ∀ (todo : List FV) (off : Nat) (Q R : List AV) (TP tR : List Nat) (k : Int) (A D : Ad) (K : KO β),
  FvM n off todo tR → TP.length = Q.length → Q.length = off → Ni (D6 todo) R → 0 ≤ k → k + Fk (D6 todo) R ≤ 4611686018427387904 →
  (A3 Au E0.tp A.length (TP ++ tR) (Q ++ R)).1 = ys → D[idx]? = some ⟨ys, true, true⟩ →
  (∀ X, K (.sc (.int .i64 (F3 (D6 todo) k R).2)) (A ++ ((A3 Au E0.tp A.length (TP ++ tR) (Q ++ (F3 (D6 todo) k R).1)).2 ++ (D ++ X))) = res) →
  Q6 (PR n β) tI (.ptr (A.length + Fh (Q ++ R) + idx) 0) todo (.sc (.int .i64 k)) (A ++ ((A3 Au E0.tp A.length (TP ++ tR) (Q ++ R)).2 ++ D)) K = res
 | [], off, Q, R, TP, tR, k, A, D, K, hf, hT, hq, hw, h0, h1, hy, hD, h => by
  cases R with
  | nil =>
   have := h []
   rw [zan D] at this
   exact this
  | cons c R => exact absurd rfl hw.1
 | .skip :: todo, off, Q, R, TP, tR, k, A, D, K, hf, hT, hq, hw, h0, h1, hy, hD, h => by
  cases R with
  | nil => exact absurd (show MF.skip :: D6 todo = [] from hw) (by simp)
  | cons c R =>
  cases tR with
  | nil => exact hf.elim
  | cons t tR =>
  obtain ⟨hwc, hwR⟩ := wfL_cons.1 (show Ni (MF.skip :: D6 todo) (c :: R) from hw)
  obtain ⟨v, rfl⟩ : ∃ v, c = .sc v := by
   cases c <;> first | exact ⟨_, rfl⟩ | exact hwc.elim
  have e1 : Q ++ .sc v :: R = (Q ++ [.sc v]) ++ R := by simp
  have e2 : TP ++ t :: tR = (TP ++ [t]) ++ tR := by simp
  have h1 : k + (0 + Fk (D6 todo) R : Nat) ≤ 4611686018427387904 := h1
  rw [e1, e2] at hy ⊢
  refine Yj todo (off + 1) (Q ++ [.sc v]) R (TP ++ [t]) tR k A D K hf (by simp [hT]) (by simp [hq]) hwR h0 (by omega) hy hD fun X => ?_
  have := h X
  rw [e2] at this
  simp only [zaf] at this ⊢
  exact this
 | .sub fs path g :: todo, off, Q, R, TP, tR, k, A, D, K, hf, hT, hq, hw, h0, h1, hy, hD, h => by
  cases R with
  | nil => exact absurd (show MF.sub fs :: D6 todo = [] from hw) (by simp)
  | cons c R =>
  cases tR with
  | nil => exact hf.elim
  | cons t tR =>
  obtain ⟨hpath, hmk, hrest⟩ := hf
  obtain ⟨hwc, hwR⟩ := wfL_cons.1 (show Ni (MF.sub fs :: D6 todo) (c :: R) from hw)
  obtain ⟨m, cells, rfl⟩ : ∃ m cells, c = .ro m cells := by
   cases c with
   | ro m cells => exact ⟨m, cells, rfl⟩
   | sc v => exact hwc.elim
   | _ => exact hwc.elim
  have h1 : k + (Gg (.sub fs) (.ro m cells) + Fk (D6 todo) R : Nat) ≤ 4611686018427387904 := h1
  have hk' := Pz (.ro m cells) (.sub fs) k
  have hn' := Qw (.ro m cells) (.sub fs) k
  have hs' := V2 hmk k m cells
  have hmk2 := hmk.2.2.2 m cells k hwc h0 (by omega)
  have hl : (A3 Au E0.tp A.length TP Q).1.length = Q.length := I7 _ _ _
  have hsplit := fun (x : AV) => Rk (ti := Au) (tp := E0.tp) TP tR t Q R x A.length hT
  rw [hsplit] at hy
  have hys : ys.drop off = (B7 Au E0.tp (A.length + Fh Q) t (.ro m cells)).1 :: (A3 Au E0.tp (A.length + Fh Q + Mx (.ro m cells)) tR R).1 := by
   rw [← hy, ← hq, ← hl, za3 (zam _), zaU, zal]
  have hlen : (A3 Au E0.tp A.length (TP ++ t :: tR) (Q ++ .ro m cells :: R)).2.length = Fh (Q ++ .ro m cells :: R) := Eu _ _ _
  show (Fe (PR n β) path (.ptr (A.length + Fh (Q ++ .ro m cells :: R) + idx) 0) fun t => C3 false 1 t _ fun v => (PR n β).call tI (.fn g [] []) [v, .sc (.int .i64 k)] _ fun k H => Q6 (PR n β) tI _ todo k H K) = res
  rw [Lf, hpath, za2]
  have hget : (A ++ ((A3 Au E0.tp A.length (TP ++ t :: tR) (Q ++ .ro m cells :: R)).2 ++ D))[A.length + Fh (Q ++ .ro m cells :: R) + idx]? = some ⟨ys, true, true⟩ := by
   rw [zah (by omega), zah (by omega), hlen]
   rw [show A.length + Fh (Q ++ .ro m cells :: R) + idx - A.length - Fh (Q ++ .ro m cells :: R) = idx by omega]
   exact hD
  have hld : Bc (A ++ ((A3 Au E0.tp A.length (TP ++ t :: tR) (Q ++ .ro m cells :: R)).2 ++ D)) (A.length + Fh (Q ++ .ro m cells :: R) + idx) off 1 = some [(B7 Au E0.tp (A.length + Fh Q) t (.ro m cells)).1] := by
   have hle : off + 1 ≤ ys.length := by
    have := congrArg List.length hys
    rw [List.length_drop, zao] at this
    omega
   simp only [Bc, hget, if_true, hle, hys]
   rfl
  rw [ldF hld, Zo hmk.1 hmk.2.1]
  have e : ∀ (x : AV) (B : Ad), A ++ ((A3 Au E0.tp A.length (TP ++ t :: tR) (Q ++ x :: R)).2 ++ B) = (A ++ (A3 Au E0.tp A.length TP Q).2) ++ ((B7 Au E0.tp (A.length + Fh Q) t x).2 ++ ((A3 Au E0.tp (A.length + Fh Q + Mx x) tR R).2 ++ B)) := by
   intro x B
   simp only [hsplit, zaf]
  have hN : (A ++ (A3 Au E0.tp A.length TP Q).2).length = A.length + Fh Q := by rw [zae, Eu]
  rw [e]
  have key := hmk2 β (A ++ (A3 Au E0.tp A.length TP Q).2) ((A3 Au E0.tp (A.length + Fh Q + Mx (.ro m cells)) tR R).2 ++ D) (fun k H => Q6 (PR n β) tI (.ptr (A.length + Fh (Q ++ .ro m cells :: R) + idx) 0) todo k H K) res
  rw [hN] at key
  refine key fun X => ?_
  generalize hc' : (H0 (.sub fs) k (.ro m cells)).1 = c' at hn' hs' h ⊢
  have e1 : ∀ (Y : List AV), Q ++ c' :: Y = (Q ++ [c']) ++ Y := fun Y => by simp
  have e2 : TP ++ t :: tR = (TP ++ [t]) ++ tR := by simp
  have e3 : Fh (Q ++ .ro m cells :: R) = Fh ((Q ++ [c']) ++ R) := by
   rw [Hk, Hk, Hk]
   show Fh Q + (Mx (.ro m cells) + Fh R) = Fh Q + (Mx c' + 0) + Fh R
   rw [hn']
   omega
  have e4 := e c' (D ++ X)
  rw [hn'] at e4
  rw [zaf (A3 Au E0.tp (A.length + Fh Q + Mx (.ro m cells)) tR R).2 D X, ← e4, e3, e2, e1 R]
  refine Yj (tI := tI) (idx := idx) (ys := ys) todo (off + 1) (Q ++ [c']) R (TP ++ [t]) tR (H0 (.sub fs) k (.ro m cells)).2 A (D ++ X) K hrest (by simp [hT]) (by simp [hq]) hwR (by omega) (by omega) ?_ ?_ fun Y => ?_
  ·rw [← e1, ← e2, hsplit, hs', hn', hy]
  ·rw [zai (zad.1 hD).1]
   exact hD
  ·have := h (X ++ Y)
   have hm : F3 (D6 (.sub fs path g :: todo)) k (.ro m cells :: R) = (c' :: (F3 (D6 todo) (H0 (.sub fs) k (.ro m cells)).2 R).1, (F3 (D6 todo) (H0 (.sub fs) k (.ro m cells)).2 R).2) := by rw [← hc']; rfl
   rw [hm, e2, e1] at this
   rw [zaf D X Y]
   exact this
 | .agg l path w g :: todo, off, Q, R, TP, tR, k, A, D, K, hf, hT, hq, hw, h0, h1, hy, hD, h => by
  obtain ⟨hpath, hlw, hw0, hlv, hmk, hwt, hrest⟩ := hf
  have hRlen : w ≤ R.length := by
   have := Ml (show Ni (l ++ D6 todo) R from hw)
   rw [zae] at this
   omega
  obtain ⟨c, R, rfl, hcl⟩ : ∃ c R', R = c ++ R' ∧ c.length = w := ⟨R.take w, R.drop w, (zaS w R).symm, by rw [zbm]; omega⟩
  obtain ⟨t, tR, rfl, htl⟩ : ∃ c R', tR = c ++ R' ∧ c.length = w := ⟨tR.take w, tR.drop w, (zaS w tR).symm, by rw [zbm]; omega⟩
  rw [zb9 htl] at hmk
  rw [List.drop_left' htl] at hrest
  have hlc : l.length = c.length := by rw [hlw, hcl]
  obtain ⟨hwc, hwR⟩ := (Kc hlc).1 (show Ni (l ++ D6 todo) (c ++ R) from hw)
  have h1 : k + (Fk l c + Fk (D6 todo) R : Nat) ≤ 4611686018427387904 := by
   have := I5 l (D6 todo) c R hlc
   rw [← this]
   exact h1
  have hk' := Mj c l k
  have hn' := N2 c l k
  have hl' := P0 c l k
  have hs' := fun N => V1 (ti := Au) (tp := E0.tp) c l k N t hlv hwc
  have hl : (A3 Au E0.tp A.length TP Q).1.length = Q.length := I7 _ _ _
  have hsplit : ∀ x : List AV, x.length = c.length → A3 Au E0.tp A.length (TP ++ (t ++ tR)) (Q ++ (x ++ R)) = ((A3 Au E0.tp A.length TP Q).1 ++ ((A3 Au E0.tp (A.length + Fh Q) t x).1 ++ (A3 Au E0.tp (A.length + Fh Q + Fh x) tR R).1), (A3 Au E0.tp A.length TP Q).2 ++ ((A3 Au E0.tp (A.length + Fh Q) t x).2 ++ (A3 Au E0.tp (A.length + Fh Q + Fh x) tR R).2)) := by
   intro x hx
   rw [Jj TP Q (t ++ tR) (x ++ R) _ hT, Eu, Jj t x tR R _ (by rw [htl, hx, hcl]), Eu]
  rw [hsplit c rfl] at hy
  have hil : (A3 Au E0.tp (A.length + Fh Q) t c).1.length = w := by rw [I7, hcl]
  have hys : ys.drop off = (A3 Au E0.tp (A.length + Fh Q) t c).1 ++ (A3 Au E0.tp (A.length + Fh Q + Fh c) tR R).1 := by
   rw [← hy, ← hq, ← hl, za3 (zam _), zaU, zal]
  have hlen : (A3 Au E0.tp A.length (TP ++ (t ++ tR)) (Q ++ (c ++ R))).2.length = Fh (Q ++ (c ++ R)) := Eu _ _ _
  show (Fe (PR n β) path (.ptr (A.length + Fh (Q ++ (c ++ R)) + idx) 0) fun t => C3 true w t _ fun v => (PR n β).call tI (.fn g [] []) [v, .sc (.int .i64 k)] _ fun k H => Q6 (PR n β) tI _ todo k H K) = res
  rw [Lf, hpath, za2]
  have hget : (A ++ ((A3 Au E0.tp A.length (TP ++ (t ++ tR)) (Q ++ (c ++ R))).2 ++ D))[A.length + Fh (Q ++ (c ++ R)) + idx]? = some ⟨ys, true, true⟩ := by
   rw [zah (by omega), zah (by omega), hlen]
   rw [show A.length + Fh (Q ++ (c ++ R)) + idx - A.length - Fh (Q ++ (c ++ R)) = idx by omega]
   exact hD
  have hld : Bc (A ++ ((A3 Au E0.tp A.length (TP ++ (t ++ tR)) (Q ++ (c ++ R))).2 ++ D)) (A.length + Fh (Q ++ (c ++ R)) + idx) off w = some (A3 Au E0.tp (A.length + Fh Q) t c).1 := by
   have hle : off + w ≤ ys.length := by
    have := congrArg List.length hys
    rw [List.length_drop, zae, hil] at this
    omega
   simp only [Bc, hget, if_true, hle, hys]
   rw [zb9 hil]
  rw [ldT hld, Zo hmk.1 hmk.2.1]
  have e : ∀ (x : List AV) (B : Ad), x.length = c.length → A ++ ((A3 Au E0.tp A.length (TP ++ (t ++ tR)) (Q ++ (x ++ R))).2 ++ B) = (A ++ (A3 Au E0.tp A.length TP Q).2) ++ ((A3 Au E0.tp (A.length + Fh Q) t x).2 ++ ((A3 Au E0.tp (A.length + Fh Q + Fh x) tR R).2 ++ B)) := by
   intro x B hx
   simp only [hsplit x hx, zaf]
  have hN : (A ++ (A3 Au E0.tp A.length TP Q).2).length = A.length + Fh Q := by rw [zae, Eu]
  rw [e c _ rfl]
  have key := hmk.2.2 c k β (A ++ (A3 Au E0.tp A.length TP Q).2) ((A3 Au E0.tp (A.length + Fh Q + Fh c) tR R).2 ++ D) (fun k H => Q6 (PR n β) tI (.ptr (A.length + Fh (Q ++ (c ++ R)) + idx) 0) todo k H K) res hwc h0 (by omega)
  rw [hN] at key
  refine key fun X => ?_
  have hm : F3 (D6 (.agg l path w g :: todo)) k (c ++ R) = ((F3 l k c).1 ++ (F3 (D6 todo) (F3 l k c).2 R).1, (F3 (D6 todo) (F3 l k c).2 R).2) := Lu l (D6 todo) k c R hlc
  generalize hc' : (F3 l k c).1 = c' at hn' hl' hs' hm ⊢
  have e1 : ∀ (Y : List AV), Q ++ (c' ++ Y) = (Q ++ c') ++ Y := fun Y => by simp
  have e2 : TP ++ (t ++ tR) = (TP ++ t) ++ tR := by simp
  have e3 : Fh (Q ++ (c ++ R)) = Fh ((Q ++ c') ++ R) := by
   rw [Hk, Hk, Hk, Hk, hn']
   omega
  have e4 := e c' (D ++ X) hl'
  rw [hn'] at e4
  rw [zaf (A3 Au E0.tp (A.length + Fh Q + Fh c) tR R).2 D X, ← e4, e3, e2, e1 R]
  refine Yj (tI := tI) (idx := idx) (ys := ys) todo (off + w) (Q ++ c') R (TP ++ t) tR (F3 l k c).2 A (D ++ X) K hrest (by simp [hT, htl, hl', hcl]) (by simp [hq, hl', hcl]) hwR (by omega) (by omega) ?_ ?_ fun Y => ?_
  ·rw [← e1, ← e2, hsplit _ hl', hs', hn', hy]
  ·rw [zai (zad.1 hD).1]
   exact hD
  ·have := h (X ++ Y)
   rw [hm, e2, e1] at this
   rw [zaf D X Y]
   exact this
theorem Agt {tI f : Nat} {cty : List Nat} {fvs : List FV} (hh : E0.hm f = true) (hx : E0.ext f = none) (hf : FvM n 0 fvs cty) (hv : (D6 fvs).all isV = true) (hlf : ∀ (cs : List AV) (N : Nat), Ni (D6 fvs) cs → (A3 Au E0.tp N cty cs).1.all Bn = true)
  (hF : ∀ β a b H kk, Ej E0 (n + 1) β f [a, b] H kk = W7 a H fun x H => Q6 (PR n β) tI x fvs b H kk) : AbO (n + 1) f cty (D6 fvs) := by
 refine ⟨hh, hx, fun cs k β A C K r hw h0 hb h => ?_⟩
 rw [hF]
 have hc : Ft (.agg (A3 Au E0.tp A.length cty cs).1) = some (A3 Au E0.tp A.length cty cs).1 := by
  show (if _ then _ else none) = _
  rw [if_pos (hlf cs _ hw)]
 simp only [W7, hc, zac, Y9]
 have hlen : (A3 Au E0.tp A.length cty cs).2.length = Fh cs := Eu _ _ _
 have e1 : (A ++ ((A3 Au E0.tp A.length cty cs).2 ++ C)).length = A.length + Fh ([] ++ cs) + C.length := by
  simp only [zae, hlen, zal]
  omega
 rw [e1]
 have e2 : A ++ ((A3 Au E0.tp A.length cty cs).2 ++ C) ++ [⟨(A3 Au E0.tp A.length cty cs).1, true, true⟩] = A ++ ((A3 Au E0.tp A.length ([] ++ cty) ([] ++ cs)).2 ++ (C ++ [⟨(A3 Au E0.tp A.length cty cs).1, true, true⟩])) := by simp
 rw [e2]
 refine Yj fvs 0 [] cs [] cty k A _ K hf rfl rfl hw h0 hb rfl (by rw [zah (zam _), zaZ]; rfl) fun X => ?_
 have := h ([⟨(A3 Au E0.tp A.length cty cs).1, true, true⟩] ++ X)
 simp only [zaf, zal] at this ⊢
 exact this
theorem T9 {tI : Nat} {F : Ad → Option β} (cells : List AV) (hfl : cells.all Mq = true) : ∀ (todo : List FV) (off : Nat) (Q R : List AV) (k : Int) (H : Ad) (K : KO β),
  FvH n off todo → Q.length = off → Ni (D6 todo) R → 0 ≤ k → k + Fk (D6 todo) R ≤ 4611686018427387904 → cells = Q ++ (F3 (D6 todo) k R).1 → H[0]? = some ⟨cells, true, true⟩ →
  (∀ X, K (.sc (.int .i64 (F3 (D6 todo) k R).2)) (H ++ X) = res) →
  Qk (PR n β) tI (.ptr 0 0) F todo (.sc (.int .i64 k)) H K = res
 | [], off, Q, R, k, H, K, hf, hq, hw, h0, h1, hc, hH, h => by
  cases R with
  | nil =>
   have := h []
   rw [zan H] at this
   exact this
  | cons c R => exact absurd rfl hw.1
 | .skip :: todo, off, Q, R, k, H, K, hf, hq, hw, h0, h1, hc, hH, h => by
  cases R with
  | nil => exact absurd (show MF.skip :: D6 todo = [] from hw) (by simp)
  | cons c R =>
  obtain ⟨hwc, hwR⟩ := wfL_cons.1 (show Ni (MF.skip :: D6 todo) (c :: R) from hw)
  obtain ⟨v, rfl⟩ : ∃ v, c = .sc v := by
   cases c <;> first | exact ⟨_, rfl⟩ | exact hwc.elim
  have h1 : k + (0 + Fk (D6 todo) R : Nat) ≤ 4611686018427387904 := h1
  exact T9 cells hfl todo (off + 1) (Q ++ [.sc v]) R k H K hf (by simp [hq]) hwR h0 (by omega) (by rw [zaf]; exact hc) hH h
 | .sub fs path g :: todo, off, Q, R, k, H, K, hf, hq, hw, h0, h1, hc, hH, h => by
  cases R with
  | nil => exact absurd (show MF.sub fs :: D6 todo = [] from hw) (by simp)
  | cons c R =>
  obtain ⟨hpath, hhe, hrest⟩ := hf
  obtain ⟨hwc, hwR⟩ := wfL_cons.1 (show Ni (MF.sub fs :: D6 todo) (c :: R) from hw)
  obtain ⟨m, cs, rfl⟩ : ∃ m cells, c = .ro m cells := by
   cases c with
   | ro m cells => exact ⟨m, cells, rfl⟩
   | sc v => exact hwc.elim
   | _ => exact hwc.elim
  have h1 : k + (Gg (.sub fs) (.ro m cs) + Fk (D6 todo) R : Nat) ≤ 4611686018427387904 := h1
  have hk' := Pz (.ro m cs) (.sub fs) k
  have hm : F3 (D6 (.sub fs path g :: todo)) k (.ro m cs :: R) = ((H0 (.sub fs) k (.ro m cs)).1 :: (F3 (D6 todo) (H0 (.sub fs) k (.ro m cs)).2 R).1, (F3 (D6 todo) (H0 (.sub fs) k (.ro m cs)).2 R).2) := rfl
  rw [hm] at hc h
  have hld : Bc H 0 off 1 = some [(H0 (.sub fs) k (.ro m cs)).1] := by
   have hle : off + 1 ≤ cells.length := by
    rw [hc, zae, zao]
    omega
   have hd : (cells.drop off).take 1 = [(H0 (.sub fs) k (.ro m cs)).1] := by
    rw [hc, ← hq, za3 (zam _), zaU]
    rfl
   simp only [Bc, hH, if_true, hle, hd]
  show (Fe (PR n β) path (.ptr 0 0) fun t => C3 false 1 t H fun v => (PR n β).call tI (.fn g [] []) [v, .sc (.int .i64 k)] H fun k H => Cs .lss k (.sc (.int .i64 0)) fun b => Em b (F H) (Qk (PR n β) tI _ F todo k H K)) = res
  rw [Lf, hpath, za2, ldF hld, Jc (vs := [(H0 (.sub fs) k (.ro m cs)).1, .sc (.int .i64 k)]) hhe.1 rfl (hhe.2 tI m cs k hwc h0 (by omega)), G7, zan]
  simp only
  rw [Rr, Dv, if_neg (by simp; omega)]
  exact T9 cells hfl todo (off + 1) (Q ++ [(H0 (.sub fs) k (.ro m cs)).1]) R _ H K hrest (by simp [hq]) hwR (by omega) (by omega) (by rw [zaf]; exact hc) hH h
 | .agg l path w g :: todo, off, Q, R, k, H, K, hf, hq, hw, h0, h1, hc, hH, h => by
  obtain ⟨hpath, hlw, hw0, hhe, hrest⟩ := hf
  have hRlen : w ≤ R.length := by
   have := Ml (show Ni (l ++ D6 todo) R from hw)
   rw [zae] at this
   omega
  obtain ⟨c, R, rfl, hcl⟩ : ∃ c R', R = c ++ R' ∧ c.length = w := ⟨R.take w, R.drop w, (zaS w R).symm, by rw [zbm]; omega⟩
  have hlc : l.length = c.length := by rw [hlw, hcl]
  obtain ⟨hwc, hwR⟩ := (Kc hlc).1 (show Ni (l ++ D6 todo) (c ++ R) from hw)
  have h1 : k + (Fk l c + Fk (D6 todo) R : Nat) ≤ 4611686018427387904 := by
   have := I5 l (D6 todo) c R hlc
   rw [← this]
   exact h1
  have hk' := Mj c l k
  have hl' := P0 c l k
  have hm : F3 (D6 (.agg l path w g :: todo)) k (c ++ R) = ((F3 l k c).1 ++ (F3 (D6 todo) (F3 l k c).2 R).1, (F3 (D6 todo) (F3 l k c).2 R).2) := Lu l (D6 todo) k c R hlc
  rw [hm] at hc h
  have hd : (cells.drop off).take w = (F3 l k c).1 := by
   rw [hc, ← hq, za3 (zam _), zaU, zal, zb9 (by rw [hl', hcl])]
  have hld : Bc H 0 off w = some (F3 l k c).1 := by
   have hle : off + w ≤ cells.length := by
    rw [hc, zae, zae, hl', hcl]
    omega
   simp only [Bc, hH, if_true, hle, hd]
  have hfc : (F3 l k c).1.all Mq = true := by
   rw [hc, List.all_append, List.all_append, zag, zag] at hfl
   exact hfl.2.1
  show (Fe (PR n β) path (.ptr 0 0) fun t => C3 true w t H fun v => (PR n β).call tI (.fn g [] []) [v, .sc (.int .i64 k)] H fun k H => Cs .lss k (.sc (.int .i64 0)) fun b => Em b (F H) (Qk (PR n β) tI _ F todo k H K)) = res
  rw [Lf, hpath, za2, ldT hld, Jc (vs := [.agg (F3 l k c).1, .sc (.int .i64 k)]) hhe.1 (Dy (Aem _ hfc) (Dy (Jd _ _) Ip)) (hhe.2 tI c k hwc h0 (by omega)), G7, zan]
  simp only
  rw [Rr, Dv, if_neg (by simp; omega)]
  exact T9 cells hfl todo (off + w) (Q ++ (F3 l k c).1) R _ H K hrest (by simp [hq, hl', hcl]) hwR (by omega) (by omega) (by rw [zaf]; exact hc) hH h
theorem Agu : ∀ (cs : List AV) (fs : List MF) (k : Int), Ni fs cs → fs.all isV = true → (F3 fs k cs).1.all Mq = true
 | [], fs, k, _, _ => by simp [F3]
 | c :: cs, [], k, hw, _ => absurd rfl hw.1
 | c :: cs, f :: fs, k, hw, hv => by
  obtain ⟨h1, h2⟩ := wfL_cons.1 hw
  rw [zap, zag] at hv
  rw [V0, zap, Agu cs fs _ h2 hv.2, zaI]
  cases c with
  | sc v => cases f <;> first | exact h1 | (exfalso; simpa [isV] using hv.1) | exact h1.elim
  | ro m cells => cases f <;> first | rfl | exact h1.elim
  | _ => exact h1.elim
theorem Agd {tI f : Nat} {fvs : List FV} (hh : Fx f = false) (hf : FvH n 0 fvs) (hv : (D6 fvs).all isV = true)
  (hF : ∀ a b H kk, Ej E0 (n + 1) AV f [a, b] H kk = W7 a H fun x H => Qk (PR n AV) tI x (fun H => kk (.sc (.int .i64 (-1))) H) fvs b H kk) : AbN (n + 1) f (D6 fvs) := by
 refine ⟨hh, fun ty cs k hw h0 hb => ?_⟩
 have hfl := Agu cs (D6 fvs) k hw hv
 rw [Bd, hF, Si _ _ _ hfl]
 exact T9 (F3 (D6 fvs) k cs).1 hfl fvs 0 [] cs k _ _ hf rfl hw h0 hb rfl rfl (fun X => rfl)
end fns
end
section
open Go
def AtT (H : Ad) (y : AV) (N ty : Nat) (t : AV) : Prop := y = (B7 Au E0.tp N ty t).1 ∧ N + Mx t ≤ H.length ∧ Lies H N (B7 Au E0.tp N ty t).2
def AtL (H : Ad) (ys : List AV) (N : Nat) (ts : List Nat) (cs : List AV) : Prop := ys = (A3 Au E0.tp N ts cs).1 ∧ N + Fh cs ≤ H.length ∧ Lies H N (A3 Au E0.tp N ts cs).2
def AaL (H H' : Ad) (N m : Nat) : Prop := H.length ≤ H'.length ∧ ∀ (i : Nat) b, H[i]? = some b → (i < N ∨ N + m ≤ i) → H'[i]? = some b
theorem Lies.grow {H : Ad} {N : Nat} {B : List Jb} (h : Lies H N B) (X : List Jb) : Lies (H ++ X) N B := fun j b hj => by
 have := h j b hj
 rw [zai (zad.1 this).1]
 exact this
theorem Lies.kept {H H' : Ad} {N M m : Nat} {B : List Jb} (h : Lies H N B) (k : AaL H H' M m) (hd : N + B.length ≤ M ∨ M + m ≤ N) : Lies H' N B := fun j b hj => by
 have hlt := (zad.1 hj).1
 exact k.2 _ b (h j b hj) (by omega)
theorem AtT.grow {H : Ad} {y : AV} {N ty : Nat} {t : AV} (h : AtT H y N ty t) (X : List Jb) : AtT (H ++ X) y N ty t := ⟨h.1, by rw [zae]; have := h.2.1; omega, h.2.2.grow X⟩
theorem AtL.grow {H : Ad} {ys : List AV} {N : Nat} {ts : List Nat} {cs : List AV} (h : AtL H ys N ts cs) (X : List Jb) : AtL (H ++ X) ys N ts cs := ⟨h.1, by rw [zae]; have := h.2.1; omega, h.2.2.grow X⟩
theorem AtT.kept {H H' : Ad} {y : AV} {N ty M m : Nat} {t : AV} (h : AtT H y N ty t) (k : AaL H H' M m) (hd : N + Mx t ≤ M ∨ M + m ≤ N) : AtT H' y N ty t := ⟨h.1, za5 h.2.1 k.1, h.2.2.kept k (by rw [Iy]; exact hd)⟩
theorem AtL.kept {H H' : Ad} {ys : List AV} {N M m : Nat} {ts : List Nat} {cs : List AV} (h : AtL H ys N ts cs) (k : AaL H H' M m) (hd : N + Fh cs ≤ M ∨ M + m ≤ N) : AtL H' ys N ts cs := ⟨h.1, za5 h.2.1 k.1, h.2.2.kept k (by rw [Eu]; exact hd)⟩
theorem Q5 {H H' : Ad} {i M m : Nat} {b : Jb} (h : H[i]? = some b) (k : AaL H H' M m) (hd : i < M ∨ M + m ≤ i) : H'[i]? = some b := k.2 i b h hd
theorem AtL.cons {H : Ad} {ys : List AV} {N t : Nat} {ts : List Nat} {c : AV} {cs : List AV} (h : AtL H ys N (t :: ts) (c :: cs)) : ∃ y ys', ys = y :: ys' ∧ AtT H y N t c ∧ AtL H ys' (N + Mx c) ts cs := by
 obtain ⟨h1, h2, h3⟩ := h
 have h2 : N + (Mx c + Fh cs) ≤ H.length := h2
 have e : A3 Au E0.tp N (t :: ts) (c :: cs) = ((B7 Au E0.tp N t c).1 :: (A3 Au E0.tp (N + Mx c) ts cs).1, (B7 Au E0.tp N t c).2 ++ (A3 Au E0.tp (N + Mx c) ts cs).2) := by
  rw [A3, Iy]
  rfl
 rw [e] at h1 h3
 refine ⟨_, _, h1, ⟨rfl, by omega, h3.left⟩, ⟨rfl, by omega, ?_⟩⟩
 have := h3.right
 rwa [Iy] at this
theorem AtL.nil {H : Ad} {ys : List AV} {N : Nat} {ts : List Nat} (h : AtL H ys N ts []) : ys = [] := h.1
theorem AtT.sc {H : Ad} {y : AV} {N ty : Nat} {v : Value} (h : AtT H y N ty (.sc v)) : y = .sc v := h.1
theorem AtT.agg {H : Ad} {y : AV} {N ty : Nat} {cs : List AV} {cty : List Nat} (h : AtT H y N ty (.agg cs)) (hty : ∃ i, Au ty = some i ∧ i.cty = cty) : ∃ ys, y = .agg ys ∧ AtL H ys N cty cs := by
 obtain ⟨i, hi, rfl⟩ := hty
 obtain ⟨h1, h2, h3⟩ := h
 rw [Sp, hi, zaJ] at h1 h3
 exact ⟨_, h1, rfl, h2, h3⟩
theorem AtT.vw {H : Ad} {y : AV} {N ty : Nat} {t : AV} (h : AtT H y N ty t) (hok : I1 Au E0.tp 8 ty t) : Vw H y t := fun X => by
 rw [h.1]
 exact Tb 8 ty t N (Pc 8 ty t hok) (h.2.2.grow X)
theorem AtL.vw {H : Ad} {ys : List AV} {N : Nat} {ts : List Nat} {cs : List AV} (h : AtL H ys N ts cs) (hok : Hb (I1 Au E0.tp 7) ts cs) : Vw H (.agg ys) (.agg cs) := fun X => by
 rw [h.1, Nd, Qz (fun ty t N => Tb 7 ty t N) cs ts N (Pa (Pc 7) hok) (h.2.2.grow X)]
 rfl
theorem AtL.leaf {H : Ad} {ys : List AV} {N : Nat} {ts : List Nat} {cs : List AV} (h : AtL H ys N ts cs) (hf : cs.all Mq = true) : ys.all Bn = true := by
 rw [h.1]
 exact Qv _ _ _ hf
theorem AtL.len {H : Ad} {ys : List AV} {N : Nat} {ts : List Nat} {cs : List AV} (h : AtL H ys N ts cs) : ys.length = cs.length := by rw [h.1, I7]
theorem Y5 {d : Nat} (hd : ∀ ty x f k, I1 Au E0.tp d ty x → I1 Au E0.tp d ty (H0 f k x).1) : ∀ (cs : List AV) (ts : List Nat) (fs : List MF) (k : Int), Hb (I1 Au E0.tp d) ts cs → Hb (I1 Au E0.tp d) ts (F3 fs k cs).1
 | [], ts, fs, k, h => by simpa [F3] using h
 | c :: cs, [], fs, k, h => h.elim
 | c :: cs, t :: ts, fs, k, h => ⟨hd _ _ _ _ h.1, Y5 hd cs ts fs.tail _ h.2⟩
theorem Agy : ∀ (d ty : Nat) (x : AV) (f : MF) (k : Int), I1 Au E0.tp d ty x → I1 Au E0.tp d ty (H0 f k x).1
 | 0, _, _, _, _, h => h
 | d + 1, ty, x, f, k, h => by
  cases x with
  | sc v => cases f <;> trivial
  | ro n cells =>
   cases f with
   | sub fs =>
    obtain ⟨i, j, h1, h2, h3, h4⟩ := h
    exact ⟨i, j, h1, h2, by rw [P0]; exact h3, Y5 (Agy d) _ _ _ _ h4⟩
   | _ => exact h
  | _ => exact h
theorem Aay {cs : List AV} {ts : List Nat} (fs : List MF) (k : Int) (h : Hb (I1 Au E0.tp 7) ts cs) : Hb (I1 Au E0.tp 7) ts (F3 fs k cs).1 := Y5 (Agy 7) cs ts fs k h
section steps
variable {β : Type} {n : Nat} {H : Ad} {r : Option β}
theorem Ue {ty f : Nat} {args vs : List AV} {t : AV} {K : KO β} (hh : Fx f = false) (hv : args.mapM (Dz H 8) = some vs) (ht : Dd E0 n ty f vs = some t) (h : ∀ y X N, N = H.length → AtT (H ++ X) y N ty t → K y (H ++ X) = r) : (PR n β).call ty (.fn f [] []) args H (fun x H => K x H) = r := by
 rw [Jc hh hv ht]
 exact h _ _ _ rfl ⟨rfl, by rw [zae, Iy]; exact zam _, Q1 _ _⟩
theorem Ab5 {ty f : Nat} {args vs cs : List AV} {ts : List Nat} {K : KO β} (hh : Fx f = false) (hv : args.mapM (Dz H 8) = some vs) (ht : Dd E0 n ty f vs = some (.tup cs)) (hts : E0.tp ty = some ts) (h : ∀ ys X N, N = H.length → AtL (H ++ X) ys N ts cs → K (.tup ys) (H ++ X) = r) : (PR n β).call ty (.fn f [] []) args H (fun x H => K x H) = r := by
 rw [Jc hh hv ht, Sq, hts, zaJ]
 exact h _ _ _ rfl ⟨rfl, by rw [zae, Eu]; exact zam _, Q1 _ _⟩
theorem Ab4 {w : Nat} {z ys : List AV} {K : KO β} (hz : z.length = w) (hy : ys.length = w) (hl : ys.all Bn = true) (h : ∀ i, i = H.length → (H ++ [⟨ys, true, true⟩])[i]? = some ⟨ys, true, true⟩ → K (.ptr i 0) (H ++ [⟨ys, true, true⟩]) = r) :
  Y9 z H (fun t H => G8 w t (.agg ys) H fun H => K t H) = r := by
 have hg : (H ++ [(⟨z, true, true⟩ : Jb)])[H.length]? = some ⟨z, true, true⟩ := Sn H _ []
 have hc : Ft (.agg ys) = some ys := by
  show (if ys.all Bn then some ys else none) = _
  rw [if_pos hl]
 show G8 w (.ptr H.length 0) (.agg ys) (H ++ [⟨z, true, true⟩]) _ = r
 rw [Ac6 w H.length 0 _ ⟨z, true, true⟩ ys _ _ hg hc hy (by rw [hz]; omega) rfl]
 have hs : Gx z 0 ys = ys := by
  unfold Gx
  rw [List.take_zero, zal, zb5 (by rw [hz, hy]; omega), zan]
 simp only [hs, AgD]
 exact h _ rfl (Sn H _ [])
theorem Aey {N : Nat} {B : List Jb} (h1 : N + B.length ≤ H.length) (h2 : Lies H N B) : ∃ A C : Ad, A.length = N ∧ H = A ++ (B ++ C) := by
 refine ⟨H.take N, H.drop (N + B.length), by rw [zbm]; omega, ?_⟩
 have e : (H.drop N).take B.length = B := by
  apply List.ext_getElem?
  intro j
  by_cases hj : j < B.length
  ·rw [zbk hj, zaY]
   have hb : B[j]? = some (B[j]) := zaP hj
   rw [hb, h2 j _ hb]
  ·rw [List.getElem?_eq_none (by rw [zbm]; omega), List.getElem?_eq_none (by omega)]
 conv => lhs; rw [← zaS N H, ← zaS B.length (H.drop N), e, zbp]
theorem Acu {A B B' C X : Ad} (hl : B'.length = B.length) : AaL (A ++ (B ++ C)) (A ++ (B' ++ (C ++ X))) A.length B.length := by
 refine ⟨by simp only [zae, hl]; omega, fun i b h hd => ?_⟩
 rcases hd with hd | hd
 ·rw [zai hd] at h ⊢
  exact h
 ·rw [zah (by omega), zah (by omega)] at h ⊢
  rw [hl, zai (zad.1 h).1]
  exact h
theorem Ai7 {tI g ty N : Nat} {fs : List MF} {t : AV} {y : AV} {k : Int} {K : KO β} (hmk : Nk n g ty fs) (hro : ∃ len cells, t = .ro len cells) (ha : AtT H y N ty t) (hw : wfF (.sub fs) t) (h0 : 0 ≤ k) (hb : k + Gg (.sub fs) t ≤ 4611686018427387904)
  (h : ∀ H', AtT H' y N ty (H0 (.sub fs) k t).1 → AaL H H' N (Mx t) → K (.sc (.int .i64 (k + Gg (.sub fs) t))) H' = r) : (PR n β).call tI (.fn g [] []) [y, .sc (.int .i64 k)] H (fun x H => K x H) = r := by
 obtain ⟨len, cells, rfl⟩ := hro
 obtain ⟨rfl, h2, h3⟩ := ha
 have hnb : ∀ M, (B7 Au E0.tp M ty (.ro len cells)).2.length = Mx (.ro len cells) := fun M => Iy _ _ _
 obtain ⟨A, C, rfl, rfl⟩ := Aey (by rw [hnb]; exact h2) h3
 rw [Zo hmk.1 hmk.2.1]
 refine hmk.2.2.2 len cells k hw h0 hb β A C _ r fun X => ?_
 rw [Pz]
 have hl : (B7 Au E0.tp A.length ty (H0 (.sub fs) k (.ro len cells)).1).2.length = (B7 Au E0.tp A.length ty (.ro len cells)).2.length := by rw [Iy, Iy, Qw]
 refine h _ ⟨(V2 hmk k len cells A.length).symm, ?_, ?_⟩ ?_
 ·rw [Qw]
  simp only [zae, Iy, Qw]
  omega
 ·have := Ye A (B7 Au E0.tp A.length ty (H0 (.sub fs) k (.ro len cells)).1).2 (C ++ X)
  rwa [zaf] at this
 ·rw [← hnb A.length]
  exact Acu hl
theorem Agp {tI g N : Nat} {cty : List Nat} {fs : List MF} {cs ys : List AV} {k : Int} {K : KO β} (hmk : AbO n g cty fs) (hv : fs.all isV = true) (ha : AtL H ys N cty cs) (hw : Ni fs cs) (h0 : 0 ≤ k) (hb : k + Fk fs cs ≤ 4611686018427387904)
  (h : ∀ H', AtL H' ys N cty (F3 fs k cs).1 → AaL H H' N (Fh cs) → K (.sc (.int .i64 (k + Fk fs cs))) H' = r) : (PR n β).call tI (.fn g [] []) [.agg ys, .sc (.int .i64 k)] H (fun x H => K x H) = r := by
 obtain ⟨rfl, h2, h3⟩ := ha
 have hnb : ∀ M, (A3 Au E0.tp M cty cs).2.length = Fh cs := fun M => Eu _ _ _
 obtain ⟨A, C, rfl, rfl⟩ := Aey (by rw [hnb]; exact h2) h3
 rw [Zo hmk.1 hmk.2.1]
 refine hmk.2.2 cs k β A C _ r hw h0 hb fun X => ?_
 rw [Mj]
 have hl : (A3 Au E0.tp A.length cty (F3 fs k cs).1).2.length = (A3 Au E0.tp A.length cty cs).2.length := by rw [Eu, Eu, N2]
 refine h _ ⟨(V1 cs fs k A.length cty hv hw).symm, ?_, ?_⟩ ?_
 ·rw [N2]
  simp only [zae, Eu, N2]
  omega
 ·have := Ye A (A3 Au E0.tp A.length cty (F3 fs k cs).1).2 (C ++ X)
  rwa [zaf] at this
 ·rw [← hnb A.length]
  exact Acu hl
theorem Aau {tI g : Nat} {fs : List MF} {cs : List AV} {y : AV} {k : Int} {K : KO β} (hhe : AbN n g fs) (hv : Vw H y (.agg (F3 fs k cs).1)) (hw : Ni fs cs) (h0 : 0 ≤ k) (hb : k + Fk fs cs ≤ 4611686018427387904)
  {F : Ad → Option β} (h : K (.sc (.int .i64 (k + Fk fs cs))) H = r) : (PR n β).call tI (.fn g [] []) [y, .sc (.int .i64 k)] H (fun t H => Cs .lss t (.sc (.int .i64 0)) fun t' => Em t' (F H) (K t H)) = r := by
 refine Kw hhe.1 (Dy hv (Dy (Jd _ _) Ip)) (hhe.2 tI cs k hw h0 hb) ?_
 rw [Mj, Rr, Dv, if_neg (by simp; omega)]
 exact h
theorem Ii {m : (KO β) → Option β} {k : KO β} (h : m k = r) : Jn (.sc (.bool false)) false H m k = r := h
theorem Vx {v : Value} {K : AV → Option β} (h : K (.sc v) = r) : Oi (.sc (.bool false)) (.sc (.bool true)) (.sc v) (fun t => K t) = r := h
theorem Y2 {b : Bool} {K : AV → Option β} (h : K (.sc (.bool (!b))) = r) : pUn .not (.sc (.bool b)) (fun t => K t) = r := h
theorem Xt {A K : Option β} (h : K = r) : Em (.sc (.bool false)) A K = r := h
theorem Acw {ty f : Nat} {args vs : List AV} {K : KO β} (hh : Fx f = false) (hv : args.mapM (Dz H 8) = some vs) (ht : Dd E0 n ty f vs = some (.sc (.bool true))) (h : K (.sc (.bool true)) H = r) : (PR n β).call ty (.fn f [] []) args H (fun t H => K t H) = r := Kw hh hv ht h
theorem O7 {z : Int} {K : AV → Option β} (h : K (.sc (.bool false)) = r) : Cs .neq (.sc (.int .i64 z)) (.sc (.int .i64 z)) (fun t => K t) = r := by
 rw [AjE, bne_self_eq_false]
 exact h
theorem AkU {z : Int} {K : AV → Option β} (h0 : 0 ≤ z) (h : K (.sc (.bool false)) = r) : Cs .lss (.sc (.int .i64 z)) (.sc (.int .i64 0)) (fun t => K t) = r := by
 rw [Rr, show decide (z < 0) = false from by simp; omega]
 exact h
theorem Rq {vs : List AV} {i : Nat} {v : AV} {K : AV → Option β} (hi : vs[i]? = some v) (h : K v = r) : Tv (.tup vs) i (fun t => K t) = r := by
 simp only [Tv, hi, zac]
 exact h
end steps
end
section
open Go
variable {α : Type}
theorem AgV : ∀ (cs : List AV) (fs : List MF), Ni fs cs → fs.all isV = true → cs.all Mq = true
 | [], fs, _, _ => rfl
 | c :: cs, [], hw, _ => absurd rfl hw.1
 | c :: cs, f :: fs, hw, hv => by
  obtain ⟨h1, h2⟩ := wfL_cons.1 hw
  rw [zap, zag] at hv
  rw [zap, AgV cs fs h2 hv.2, zaI]
  cases c with
  | sc v => cases f <;> first | exact h1 | (exfalso; simpa [isV] using hv.1) | exact h1.elim
  | ro m cells => cases f <;> first | rfl | exact h1.elim
  | _ => exact h1.elim
theorem Fu {f : MF} {fs : List MF} {c : AV} {cs : List AV} {a b : Nat} (h1 : Gg f c = a) (h2 : Fk fs cs = b) : Fk (f :: fs) (c :: cs) = a + b := by
 subst h1
 subst h2
 rfl
theorem O8 (n : Nat) (hn : 1048576 < n) : Q2 (n + 1) 9 53 := All (n := n) rfl hn (fun kk => U7 (PR n AV) n kk) (fun kk m k s H => rfl) (fun a H kk => Aki n a H kk)
def fdByteS : List FD := [⟨.byt, [], 0⟩]
def Gc : List MF := fdByteS.map FD.f
theorem Rt (n : Nat) (hn : 1048576 < n) : Nk (n + 2) 36 22 Gc :=
 Uf (n := n + 1) (tI := 3) (w := 1) (cty := [5]) (fds := fdByteS) rfl rfl (O8 n hn) ⟨rfl, trivial, trivial⟩ rfl ⟨_, _, rfl, rfl, rfl, rfl⟩ (by omega) (fun β kk => U6 (PR (n + 1) β) (n + 1) kk) (fun β kk m a k i H => rfl) (fun β a b H kk => Akf (n + 1) a b H kk)
theorem Vn (n : Nat) (hn : 1048576 < n) : Qi (n + 2) 57 Gc :=
 Ud (n := n + 1) (tI := 3) (w := 1) (fds := fdByteS) rfl (O8 n hn) ⟨rfl, trivial, trivial⟩ rfl (by decide) (by omega) (fun kk => Vb (PR (n + 1) AV) (n + 1) kk) (fun kk m a k i H => rfl) (fun a b H kk => Akm (n + 1) a b H kk)
def fdIntS : List FD := [⟨.int, [], 0⟩]
def N1 : List MF := fdIntS.map FD.f
theorem AiA (n : Nat) (hn : 1048576 < n) : Nk (n + 2) 56 57 N1 :=
 Uf (n := n + 1) (tI := 3) (w := 1) (cty := [3]) (fds := fdIntS) rfl rfl (O8 n hn) ⟨rfl, trivial, trivial⟩ rfl ⟨_, _, rfl, rfl, rfl, rfl⟩ (by omega) (fun β kk => Va (PR (n + 1) β) (n + 1) kk) (fun β kk m a k i H => rfl) (fun β a b H kk => Akl (n + 1) a b H kk)
theorem Ais (n : Nat) (hn : 1048576 < n) : Qi (n + 2) 60 N1 :=
 Ud (n := n + 1) (tI := 3) (w := 1) (fds := fdIntS) rfl (O8 n hn) ⟨rfl, trivial, trivial⟩ rfl (by decide) (by omega) (fun kk => Ve (PR (n + 1) AV) (n + 1) kk) (fun kk m a k i H => rfl) (fun a b H kk => Akp (n + 1) a b H kk)
def fdStringS : List FD := [⟨.str, [], 0⟩]
def Ib : List MF := fdStringS.map FD.f
theorem Ab9 (n : Nat) (hn : 1048576 < n) : Nk (n + 2) 55 56 Ib :=
 Uf (n := n + 1) (tI := 3) (w := 1) (cty := [9]) (fds := fdStringS) rfl rfl (O8 n hn) ⟨rfl, trivial, trivial⟩ rfl ⟨_, _, rfl, rfl, rfl, rfl⟩ (by omega) (fun β kk => U9 (PR (n + 1) β) (n + 1) kk) (fun β kk m a k i H => rfl) (fun β a b H kk => Akk (n + 1) a b H kk)
theorem Aby (n : Nat) (hn : 1048576 < n) : Qi (n + 2) 59 Ib :=
 Ud (n := n + 1) (tI := 3) (w := 1) (fds := fdStringS) rfl (O8 n hn) ⟨rfl, trivial, trivial⟩ rfl (by decide) (by omega) (fun kk => Vd (PR (n + 1) AV) (n + 1) kk) (fun kk m a k i H => rfl) (fun a b H kk => Ako (n + 1) a b H kk)
theorem Se (s : ByteArray) (h : s.size ≤ 1048576) : wfF (.sub Gc) (Ag s) := by
 refine ⟨h, by rw [Fa]; show _ = s.size * 1; omega, ?_⟩
 have key : ∀ l : List UInt8, Ni (Is l.length Gc) (l.map fun b => .sc (.int .u8 b.toNat)) := by
  intro l
  induction l with
  | nil => rfl
  | cons b l ih =>
   rw [zao, Ja, zaq]
   exact wfL_cons.2 ⟨trivial, ih⟩
 have := key s.data.toList
 rwa [show s.data.toList.length = s.size by simp] at this
theorem Q8 (f : MF) (e : α → Value) (h : ∀ x, Gg f (.sc (e x)) = 1) : ∀ l : List α, Fk (Is l.length [f]) (l.map fun x => .sc (e x)) = l.length
 | [] => rfl
 | x :: l => by
  rw [zao, Ja, zaq]
  show Gg f (.sc (e x)) + Fk (Is l.length [f]) _ = _
  rw [h, Q8 f e h l]
  omega
theorem Pp (s : ByteArray) : Gg (.sub Gc) (Ag s) = s.size := by
 have := Q8 .byt (fun b : UInt8 => .int .u8 b.toNat) (fun _ => rfl) s.data.toList
 rw [show s.data.toList.length = s.size by simp] at this
 exact this
theorem Ajd (l : List Int) (h : l.length ≤ 1048576) : wfF (.sub N1) (El l) := by
 refine ⟨h, by simp [N1, fdIntS], ?_⟩
 clear h
 induction l with
 | nil => rfl
 | cons b l ih =>
  rw [zao, Ja, zaq]
  exact wfL_cons.2 ⟨trivial, ih⟩
theorem Aev (l : List Int) : Gg (.sub N1) (El l) = l.length := Q8 .int (fun z : Int => .int .i64 z) (fun _ => rfl) l
theorem Ajf (l : List ByteArray) (h : l.length ≤ 1048576) : wfF (.sub Ib) (En l) := by
 refine ⟨h, by simp [Ib, fdStringS], ?_⟩
 clear h
 induction l with
 | nil => rfl
 | cons b l ih =>
  rw [zao, Ja, zaq]
  exact wfL_cons.2 ⟨trivial, ih⟩
theorem Aew (l : List ByteArray) : Gg (.sub Ib) (En l) = l.length := Q8 .str (fun z : ByteArray => .string z) (fun _ => rfl) l
theorem AmN {wt : α → Nat} (sm : α → Prop) (hs : ∀ x, wt x ≤ 1048576 → sm x) (l : List α) (h : wtL wt l ≤ 1048576) : l.length ≤ 1048576 ∧ ∀ y ∈ l, sm y := by
 have h1 := Q0 wt l
 refine ⟨by omega, fun y hy => hs y ?_⟩
 have h2 := Zh (wt := wt) hy
 omega
theorem Aje {enc : α → List AV} {fs : List MF} (l : List α) (h : l.length ≤ 1048576) (hw : ∀ x ∈ l, Ni fs (enc x)) : wfF (.sub fs) (C5 enc l) := by
 have key : ∀ l : List α, (∀ x ∈ l, Ni fs (enc x)) → (l.map enc).flatten.length = l.length * fs.length ∧ Ni (Is l.length fs) (l.map enc).flatten := by
  intro l
  induction l with
  | nil => intro _; exact ⟨by simp, rfl⟩
  | cons x l ih =>
   intro hw
   obtain ⟨h1, h2⟩ := ih fun y hy => hw y (zau _ hy)
   have hx := hw x zax
   have hl := Ml hx
   rw [zaq, za1, zao, Ja]
   exact ⟨by rw [zae, h1, ← hl, zbv]; omega, (Kc hl).2 ⟨hx, h2⟩⟩
 obtain ⟨h1, h2⟩ := key l hw
 exact ⟨h, h1, h2⟩
theorem Z5 {enc : α → List AV} {fs : List MF} {wt : α → Nat} : ∀ (l : List α), (∀ x ∈ l, fs.length = (enc x).length) → (∀ x ∈ l, Fk fs (enc x) ≤ 64 * (1 + wt x)) → Gg (.sub fs) (C5 enc l) ≤ 64 * wtL wt l
 | [], _, _ => zay _
 | x :: l, hl, h => by
  have ih := Z5 l (fun y hy => hl y (zau _ hy)) (fun y hy => h y (zau _ hy))
  have hx := h x zax
  show Fk (Is (l.length + 1) fs) (enc x ++ (l.map enc).flatten) ≤ _
  rw [Ja, I5 _ _ _ _ (hl x zax), wtL]
  have ih : Fk (Is l.length fs) (l.map enc).flatten ≤ 64 * wtL wt l := ih
  omega
def fdWantS : List FD := [⟨.str, [0], 0⟩, ⟨.int, [1], 0⟩]
def Aik : List FD := [⟨.str, [0], 0⟩, ⟨.int, [1], 0⟩]
def K7 : List MF := fdWantS.map FD.f
def Ze (x : WantV) : Prop := True
theorem Agv (n : Nat) (hn : 1048576 < n) : Nk (n + 2) 54 55 K7 :=
 Uf (n := n + 1) (tI := 3) (w := 2) (cty := Ym) (fds := fdWantS) rfl rfl (O8 (n + 0) (by omega)) ⟨rfl, trivial, ⟨rfl, trivial, trivial⟩⟩ rfl ⟨_, _, rfl, rfl, rfl, rfl⟩ (by omega) (fun β kk => U8 (PR (n + 1) β) (n + 1) kk) (fun β kk m a k i H => rfl) (fun β a b H kk => Akj (n + 1) a b H kk)
theorem Agc (n : Nat) (hn : 1048576 < n) : Qi (n + 2) 58 K7 :=
 Ud (n := n + 1) (tI := 3) (w := 2) (fds := Aik) rfl (O8 (n + 0) (by omega)) ⟨rfl, trivial, ⟨rfl, trivial, trivial⟩⟩ rfl (by decide) (by omega) (fun kk => Vc (PR (n + 1) AV) (n + 1) kk) (fun kk m a k i H => rfl) (fun a b H kk => Akn (n + 1) a b H kk)
theorem AiW (x : WantV) (h : Kd x ≤ 1048576) : Ze x := by
 have h0 := h
 unfold Kd at h0
 exact trivial
theorem Alm (x : WantV) (h : Ze x) : Ni K7 (Bw x) := by
 exact wfL_cons.2 ⟨trivial, wfL_cons.2 ⟨trivial, rfl⟩⟩
theorem Ahi (x : WantV) : Fk K7 (Bw x) ≤ 64 * (1 + Kd x) := by
 show 1 + (1 + 0) ≤ _
 unfold Kd
 omega
def Wj (x : PacketV) : Prop := x.fBody.size ≤ 1048576 ∧ x.fWBody.size ≤ 1048576 ∧ x.fPass.size ≤ 1048576 ∧ (x.fWants.length ≤ 1048576 ∧ ∀ y ∈ x.fWants, Ze y) ∧ x.fNames.length ≤ 1048576 ∧ x.fCodes.length ≤ 1048576 ∧ True
theorem Aeb (x : PacketV) (h : Ga x ≤ 1048576) : Wj x := by
 have e3 := Q0 Kd x.fWants
 have e4 := Q0 zbD x.fNames
 have h0 := h
 unfold Ga at h0
 exact ⟨by omega, by omega, by omega, AmN Ze AiW _ (by omega), by omega, by omega, trivial⟩
def Aak : List FV := [.skip, .skip, .skip, .skip, .skip, .skip, .sub Gc [6] 36, .skip, .skip, .skip, .skip, .skip, .skip, .sub Gc [13] 36, .skip, .skip, .skip, .skip, .skip, .sub Gc [19] 36, .skip, .skip, .sub K7 [22] 54, .sub Ib [23] 55, .sub N1 [24] 56]
def AfV : List FV := [.skip, .skip, .skip, .skip, .skip, .skip, .sub Gc [6] 57, .skip, .skip, .skip, .skip, .skip, .skip, .sub Gc [13] 57, .skip, .skip, .skip, .skip, .skip, .sub Gc [19] 57, .skip, .skip, .sub K7 [22] 58, .sub Ib [23] 59, .sub N1 [24] 60]
def Lv : List MF := D6 Aak
theorem Td (x : PacketV) (h : Wj x) : Ni Lv (Ar x) := by
 obtain ⟨h0, h1, h2, h3, h4, h5, _⟩ := h
 exact wfL_cons.2 ⟨rfl, wfL_cons.2 ⟨rfl, wfL_cons.2 ⟨rfl, wfL_cons.2 ⟨rfl, wfL_cons.2 ⟨rfl, wfL_cons.2 ⟨rfl, wfL_cons.2 ⟨Se _ h0, wfL_cons.2 ⟨rfl, wfL_cons.2 ⟨rfl, wfL_cons.2 ⟨rfl, wfL_cons.2 ⟨rfl, wfL_cons.2 ⟨rfl, wfL_cons.2 ⟨rfl, wfL_cons.2 ⟨Se _ h1, wfL_cons.2 ⟨rfl, wfL_cons.2 ⟨rfl, wfL_cons.2 ⟨rfl, wfL_cons.2 ⟨rfl, wfL_cons.2 ⟨rfl, wfL_cons.2 ⟨Se _ h2, wfL_cons.2 ⟨rfl, wfL_cons.2 ⟨rfl, wfL_cons.2 ⟨Aje _ h3.1 fun y hy => Alm y (h3.2 y hy), wfL_cons.2 ⟨Ajf _ h4, wfL_cons.2 ⟨Ajd _ h5, rfl⟩⟩⟩⟩⟩⟩⟩⟩⟩⟩⟩⟩⟩⟩⟩⟩⟩⟩⟩⟩⟩⟩⟩⟩⟩
theorem AaU (x : PacketV) : Fk Lv (Ar x) ≤ 64 * Ga x := by
 have c0 := Pp x.fBody
 have c1 := Pp x.fWBody
 have c2 := Pp x.fPass
 have c3 := Z5 (fs := K7) (wt := Kd) x.fWants (fun y _ => rfl) (fun y _ => Ahi y)
 have c4 := Aew x.fNames
 have c5 := Aev x.fCodes
 have e4 := Q0 zbD x.fNames
 obtain ⟨u, hu⟩ : ∃ u : Nat, u = 0 := ⟨_, rfl⟩
 have cE : Fk Lv (Ar x) = u + (u + (u + (u + (u + (u + (Gg (.sub Gc) (Ag x.fBody) + (u + (u + (u + (u + (u + (u + (Gg (.sub Gc) (Ag x.fWBody) + (u + (u + (u + (u + (u + (Gg (.sub Gc) (Ag x.fPass) + (u + (u + (Gg (.sub K7) (C5 Bw x.fWants) + (Gg (.sub Ib) (En x.fNames) + (Gg (.sub N1) (El x.fCodes) + 0)))))))))))))))))))))))) := by
  subst hu
  exact Fu rfl (Fu rfl (Fu rfl (Fu rfl (Fu rfl (Fu rfl (Fu rfl (Fu rfl (Fu rfl (Fu rfl (Fu rfl (Fu rfl (Fu rfl (Fu rfl (Fu rfl (Fu rfl (Fu rfl (Fu rfl (Fu rfl (Fu rfl (Fu rfl (Fu rfl (Fu rfl (Fu rfl (Fu rfl (rfl)))))))))))))))))))))))))
 rw [cE]
 clear cE
 generalize Gg (.sub Gc) (Ag x.fBody) = a0 at c0 ⊢
 generalize Gg (.sub Gc) (Ag x.fWBody) = a1 at c1 ⊢
 generalize Gg (.sub Gc) (Ag x.fPass) = a2 at c2 ⊢
 generalize Gg (.sub K7) (C5 Bw x.fWants) = a3 at c3 ⊢
 generalize Gg (.sub Ib) (En x.fNames) = a4 at c4 ⊢
 generalize Gg (.sub N1) (El x.fCodes) = a5 at c5 ⊢
 unfold Ga
 simp only [← zaE, zaO, Nat.mul_add]
 omega
theorem AdV : ∀ (cs : List AV) (N : Nat), Ni Lv cs → (A3 Au E0.tp N M2 cs).1.all Bn = true := fun cs N h => Qv _ _ _ (AgV cs Lv h rfl)
theorem Ab8 (n : Nat) (hn : 1048576 < n) : AbO (n + 3) 37 M2 Lv :=
 Agt (n := n + 2) (tI := 3) (fvs := Aak) rfl rfl ⟨rfl, Rt (n + 0) (by omega), ⟨rfl, Rt (n + 0) (by omega), ⟨rfl, Rt (n + 0) (by omega), ⟨rfl, Agv (n + 0) (by omega), ⟨rfl, Ab9 (n + 0) (by omega), ⟨rfl, AiA (n + 0) (by omega), trivial⟩⟩⟩⟩⟩⟩ rfl AdV (fun β a b H kk => Akg (n + 2) a b H kk)
theorem Vo (n : Nat) (hn : 1048576 < n) : AbN (n + 3) 38 Lv :=
 Agd (n := n + 2) (tI := 3) (fvs := AfV) rfl ⟨rfl, Vn (n + 0) (by omega), ⟨rfl, Vn (n + 0) (by omega), ⟨rfl, Vn (n + 0) (by omega), ⟨rfl, Agc (n + 0) (by omega), ⟨rfl, Aby (n + 0) (by omega), ⟨rfl, Ais (n + 0) (by omega), trivial⟩⟩⟩⟩⟩⟩ rfl (fun a b H kk => Akh (n + 2) a b H kk)
end
section
open Go
theorem AtL.split {H : Ad} {ys : List AV} {N : Nat} {ts us : List Nat} {cs ds : List AV} (h : AtL H ys N (ts ++ us) (cs ++ ds)) (hl : ts.length = cs.length) : ∃ y1 y2, ys = y1 ++ y2 ∧ AtL H y1 N ts cs ∧ AtL H y2 (N + Fh cs) us ds := by
 obtain ⟨h1, h2, h3⟩ := h
 have e := Jj (ti := Au) (tp := E0.tp) ts cs us ds N hl
 rw [Eu] at e
 rw [e] at h1 h3
 rw [Hk] at h2
 have h4 := h3.right
 rw [Eu] at h4
 exact ⟨_, _, h1, ⟨rfl, by omega, h3.left⟩, ⟨rfl, by omega, h4⟩⟩
theorem AtL.own {d : Nat} {H : Ad} {ys : List AV} {N : Nat} {ts : List Nat} {cs : List AV} (h : AtL H ys N ts cs) (hok : Hb (I1 Au E0.tp d) ts cs) : OwnC d H ts ys cs (List.range' N (Fh cs)) := by
 have := Sz (fun ty t N h h' _ => Rz d ty t N h h') ts cs N hok h.2.2 (H4 _ _ _)
 rw [Eu, ← h.1] at this
 exact this
end
section
open Go
theorem T8 (n : Nat) (hn : 1048576 < n) (x0 : ByteArray) (k0 : okS x0) (b0 : x0.size ≤ 1048576) : Dd E0 (n + 13) 60 31 [Ag x0] = some (.tup [.agg (Ar (D8 x0)), .sc (.int .i64 (Ac8 x0)), .sc (.int .i64 (Ac7 x0))]) := AgG n hn x0 b0
theorem Oe (n : Nat) (hn : 1048576 < n) (x0 : ByteArray) (k0 : okS x0) (b0 : x0.size ≤ 1048576) : Dd E0 (n + 13) 60 33 [Ag x0] = some (.tup [.agg (Ar (D8 x0)), .sc (.int .i64 (Ac8 x0)), .sc (.int .i64 (Ac7 x0))]) := Agf n hn x0 b0
theorem S3 (x0 : ByteArray) (b0 : x0.size ≤ 1048576) : Ga (D8 x0) ≤ 1048576 ∧ Wj (D8 x0) := by
 have h := (AkQ x0).wt (by decide)
 have h2 : Ga (D8 x0) ≤ 1048576 := za5 h (by decide)
 exact ⟨h2, Aeb _ h2⟩
end
end Go.Proofs.YtlcpigdmekgajaaGreatDoor.Abs
namespace Go.Proofs.YtlcpigdmekgajaaGreatDoor.Abs
open _root_.Bool renaming and_eq_true → zag, not_true → zaw, and_true → zaI, or_eq_true → zaN
open _root_.Option renaming bind_some → zac, map_eq_some_iff → zaH, getD_some → zaJ
open _root_.List renaming getElem?_eq_some_iff → zad, length_append → zae, append_assoc → zaf, getElem?_append_right → zah, getElem?_append_left → zai, replicate → zaj, nil_append → zal, append_nil → zan, length_cons → zao, all_cons → zap, map_cons → zaq, eq_nil_of_length_eq_zero → zar, mem_cons_of_mem → zau, length_nil → zav, mem_cons_self → zax, cons_append → zaz, flatten_cons → za1, drop_append_of_le_length → za3, all_eq_true → za7, map_nil → zaC, getElem?_eq_getElem → zaP, take_append_drop → zaS, drop_length → zaU, getElem?_drop → zaY, replicate_succ → zbf, getElem?_take_of_lt → zbk, length_take → zbm, drop_drop → zbp, flatten_nil → zb3, drop_of_length_le → zb5, take_left' → zb9
open _root_.ByteArray renaming size_append → zak, size_extract → zat, size → zbD
open _root_.Nat renaming le_refl → zam, zero_le → zay, zero_add → za2, le_trans → za5, add_assoc → zaE, add_zero → zaO, sub_self → zaZ, succ_mul → zbv, add_comm → zbF
open _root_.Int renaming tmod_eq_emod_of_nonneg → za9, toNat_natCast → zbq
open Go
set_option linter.unusedVariables false
set_option linter.unusedSimpArgs false
theorem W6 (n : Nat) (hn : 1048576 < n) (x0 : ByteArray) (k0 : okS x0) : Dd E0 (n + 30) 4 6 [Ag x0] = some (.sc (.bool true)) := by
 rw [Bd, Alu, f6]
 simp only [Gw, F8, Ba, D9, A4, Iv, D5, Av, Hf, Iw, Bh, Pr.gT, Pr.gF, Pr.hT, Pr.hF, Pr.kT, Pr.kF, Bv]
 refine Ai8 (cells := Bl x0) rfl fun b0 => ?_
 have c2 := Pp (x0)
 have s1w : x0.size ≤ 1048576 := by omega
 have s1 := s1w
 have c3 := AaU (D8 x0)
 obtain ⟨s4w, s4⟩ := S3 x0 (by omega)
 refine Ue rfl (Dy (Ih _ _ _) Ip) (P7 (n + 28) (by omega) x0 (by omega)) fun y8 X6 N5 n7 a9 => Ab5 rfl (Dy (a9.vw (Ic (d := 6) Ki (x0))) Ip) (T8 (n + 16) (by omega) x0 k0 (by omega)) rfl fun ys13 X11 N10 n12 a14 => ?_
 obtain ⟨y15, ys16, rfl, a17, a18⟩ := a14.cons
 have nb19 : Mx (.agg (Ar (D8 x0))) = Fh (Ar (D8 x0)) := rfl
 obtain ⟨y20, ys21, rfl, a22, a23⟩ := a18.cons
 obtain ⟨y24, ys25, rfl, a26, a27⟩ := a23.cons
 obtain rfl := a27.nil
 refine Rq rfl ?_
 obtain ⟨ys28, rfl, a29⟩ := a17.agg Wt
 refine Rq rfl ?_
 obtain rfl := a22.sc
 refine Rq rfl ?_
 obtain rfl := a26.sc
 refine Ab4 rfl (a29.len.trans (Gj _)) (a29.leaf (Cy _)) fun i31 i31E B30 => ?_
 have o32 : N10 + Fh (Ar (D8 x0)) ≤ i31 := by have := a29.2.1; omega
 replace a29 := a29.grow [⟨ys28, true, true⟩]
 refine Ue rfl (Dy (Ih _ _ _) Ip) (P7 (n + 28) (by omega) x0 (by omega)) fun y36 X34 N33 n35 a37 => ?_
 have o38 : N10 + Fh (Ar (D8 x0)) ≤ N33 := by have := a29.2.1; omega
 have o39 : i31 < N33 := by have := (zad.1 B30).1; omega
 replace a29 := a29.grow X34
 replace B30 := G5 B30 X34
 refine Ab5 rfl (Dy (a37.vw (Ic (d := 6) Ki (x0))) Ip) (Oe (n + 16) (by omega) x0 k0 (by omega)) rfl fun ys43 X41 N40 n42 a44 => ?_
 have o45 : N10 + Fh (Ar (D8 x0)) ≤ N40 := by have := a29.2.1; omega
 have o46 : i31 < N40 := by have := (zad.1 B30).1; omega
 have o47 : N33 + Mx (Ag (x0)) ≤ N40 := by have := a37.2.1; omega
 replace a29 := a29.grow X41
 replace B30 := G5 B30 X41
 replace a37 := a37.grow X41
 obtain ⟨y48, ys49, rfl, a50, a51⟩ := a44.cons
 have nb52 : Mx (.agg (Ar (D8 x0))) = Fh (Ar (D8 x0)) := rfl
 obtain ⟨y53, ys54, rfl, a55, a56⟩ := a51.cons
 obtain ⟨y57, ys58, rfl, a59, a60⟩ := a56.cons
 obtain rfl := a60.nil
 refine Rq rfl ?_
 obtain ⟨ys61, rfl, a62⟩ := a50.agg Wt
 refine Rq rfl ?_
 obtain rfl := a55.sc
 refine Rq rfl ?_
 obtain rfl := a59.sc
 refine Ab4 rfl (a62.len.trans (Gj _)) (a62.leaf (Cy _)) fun i64 i64E B63 => ?_
 have o65 : N10 + Fh (Ar (D8 x0)) ≤ i64 := by have := a29.2.1; omega
 have o66 : i31 < i64 := by have := (zad.1 B30).1; omega
 have o67 : N33 + Mx (Ag (x0)) ≤ i64 := by have := a37.2.1; omega
 have o68 : N40 + Fh (Ar (D8 x0)) ≤ i64 := by have := a62.2.1; omega
 replace a29 := a29.grow [⟨ys61, true, true⟩]
 replace B30 := G5 B30 [⟨ys61, true, true⟩]
 replace a37 := a37.grow [⟨ys61, true, true⟩]
 replace a62 := a62.grow [⟨ys61, true, true⟩]
 refine Rs B63 (a62.len.trans (Gj _)) (Rs B30 (a29.len.trans (Gj _)) (Acw rfl (Dy (a62.vw (I8 5 (D8 x0))) (Dy (a29.vw (I8 5 (D8 x0))) Ip)) (Qm (n + 26) (by omega) _ (D8 x0) s4w) (Y2 (Ii (Ii (Ii (O7 (Vx (Ii (Ii (Ii (O7 (Vx (Xt (Ue rfl (Dy (Ih _ _ _) Ip) (P7 (n + 28) (by omega) x0 (by omega)) fun y72 X70 N69 n71 a73 => ?_)))))))))))))))
 have o74 : N10 + Fh (Ar (D8 x0)) ≤ N69 := by have := a29.2.1; omega
 have o75 : i31 < N69 := by have := (zad.1 B30).1; omega
 have o76 : N33 + Mx (Ag (x0)) ≤ N69 := by have := a37.2.1; omega
 have o77 : N40 + Fh (Ar (D8 x0)) ≤ N69 := by have := a62.2.1; omega
 have o78 : i64 < N69 := by have := (zad.1 B63).1; omega
 replace a29 := a29.grow X70
 replace B30 := G5 B30 X70
 replace a37 := a37.grow X70
 replace a62 := a62.grow X70
 replace B63 := G5 B63 X70
 refine Acw rfl (Dy (a37.vw (Ic (d := 6) Ki (x0))) (Dy (a73.vw (Ic (d := 6) Ki (x0))) Ip)) (Pt (n + 28) (by omega) _ (x0) s1w) (Y2 (Xt (Ai7 (fs := Gc) (t := (Ag (x0))) (Rt (n + 27) (by omega)) ⟨_, _, rfl⟩ a37 (Se _ s1) (by omega) (by omega) fun G79 a81 q80 => ?_)))
 replace a29 := a29.kept q80 (by omega)
 replace B30 := Q5 B30 q80 (by omega)
 replace a62 := a62.kept q80 (by omega)
 replace B63 := Q5 B63 q80 (by omega)
 refine AkU (by omega) (Ii (Rs B63 (a62.len.trans (Gj _)) (Ii (Rs B30 (a29.len.trans (Gj _)) (Ii (Acw rfl (Dy (a62.vw (I8 5 (D8 x0))) (Dy (a29.vw (I8 5 (D8 x0))) Ip)) (Qm (n + 26) (by omega) _ (D8 x0) s4w) (Ii (Y2 (Vx (Ii (Ii (Ii (O7 (Vx (Ii (Ii (Ii (O7 (Vx (Xt (Rs B63 (a62.len.trans (Gj _)) (Agp (Ab8 (n + 26) (by omega)) rfl a62 (Td _ s4) (by omega) (by omega) fun G82 a84 q83 => ?_))))))))))))))))))))))
 replace a29 := a29.kept q83 (by omega)
 replace B30 := Q5 B30 q83 (by omega)
 replace B63 := Q5 B63 q83 (by omega)
 refine Rs B63 (a62.len.trans (Gj _)) (Aau (Vo (n + 26) (by omega)) (a84.vw (Aay _ _ (I8 5 (D8 x0)))) (Td _ s4) (by omega) (by omega) (O7 (Xt (Ue rfl (Dy (Ih _ _ _) Ip) (P7 (n + 28) (by omega) x0 (by omega)) fun y88 X86 N85 n87 a89 => ?_))))
 have o90 : N10 + Fh (Ar (D8 x0)) ≤ N85 := by have := a29.2.1; omega
 have o91 : i31 < N85 := by have := (zad.1 B30).1; omega
 have o92 : N40 + Fh (Ar (D8 x0)) ≤ N85 := by have := a84.2.1; rw [N2] at this; omega
 have o93 : i64 < N85 := by have := (zad.1 B63).1; omega
 replace a29 := a29.grow X86
 replace B30 := G5 B30 X86
 replace a84 := a84.grow X86
 replace B63 := G5 B63 X86
 refine Ab5 rfl (Dy (a89.vw (Ic (d := 6) Ki (x0))) Ip) (Oe (n + 16) (by omega) x0 k0 (by omega)) rfl fun ys97 X95 N94 n96 a98 => ?_
 have o99 : N10 + Fh (Ar (D8 x0)) ≤ N94 := by have := a29.2.1; omega
 have AlX : i31 < N94 := by have := (zad.1 B30).1; omega
 have o101 : N40 + Fh (Ar (D8 x0)) ≤ N94 := by have := a84.2.1; rw [N2] at this; omega
 have AlY : i64 < N94 := by have := (zad.1 B63).1; omega
 replace a29 := a29.grow X95
 replace B30 := G5 B30 X95
 replace a84 := a84.grow X95
 replace B63 := G5 B63 X95
 obtain ⟨y103, ys104, rfl, a105, a106⟩ := a98.cons
 have nb107 : Mx (.agg (Ar (D8 x0))) = Fh (Ar (D8 x0)) := rfl
 obtain ⟨y108, ys109, rfl, a110, a111⟩ := a106.cons
 obtain ⟨y112, ys113, rfl, a114, a115⟩ := a111.cons
 obtain rfl := a115.nil
 refine Rq rfl ?_
 obtain ⟨ys116, rfl, a117⟩ := a105.agg Wt
 refine Rq rfl ?_
 obtain rfl := a110.sc
 refine Rq rfl ?_
 obtain rfl := a114.sc
 refine Ab4 rfl (a117.len.trans (Gj _)) (a117.leaf (Cy _)) fun i119 i119E B118 => ?_
 have o120 : N10 + Fh (Ar (D8 x0)) ≤ i119 := by have := a29.2.1; omega
 have o121 : i31 < i119 := by have := (zad.1 B30).1; omega
 have o122 : N40 + Fh (Ar (D8 x0)) ≤ i119 := by have := a84.2.1; rw [N2] at this; omega
 have o123 : i64 < i119 := by have := (zad.1 B63).1; omega
 have o124 : N94 + Fh (Ar (D8 x0)) ≤ i119 := by have := a117.2.1; omega
 replace a29 := a29.grow [⟨ys116, true, true⟩]
 replace B30 := G5 B30 [⟨ys116, true, true⟩]
 replace a84 := a84.grow [⟨ys116, true, true⟩]
 replace B63 := G5 B63 [⟨ys116, true, true⟩]
 replace a117 := a117.grow [⟨ys116, true, true⟩]
 refine Rs B118 (a117.len.trans (Gj _)) (Rs B30 (a29.len.trans (Gj _)) (Acw rfl (Dy (a117.vw (I8 5 (D8 x0))) (Dy (a29.vw (I8 5 (D8 x0))) Ip)) (Qm (n + 26) (by omega) _ (D8 x0) s4w) (Y2 (Ii (Ii (Ii (O7 (Vx (Ii (Ii (Ii (O7 (Vx (Xt (Rs B63 (a62.len.trans (Gj _)) (Aau (Vo (n + 26) (by omega)) (a84.vw (Aay _ _ (I8 5 (D8 x0)))) (Td _ s4) (by omega) (by omega) (O7 (Xt ?_))))))))))))))))))
 rfl
end Go.Proofs.YtlcpigdmekgajaaGreatDoor.Abs
namespace Go.Proofs.YtlcpigdmekgajaaGreatDoor.fnExactGetPacket
open _root_.Option renaming map_eq_some_iff → zaH
open Go Go.Shelf Go.Lib Go.ChangeShapes Go.WideShapes Go.ChangeAt Go.RowKit
open Go.Proofs.YtlcpigdmekgajaaGreatDoor.Abs
set_option linter.unusedVariables false
theorem own : ownKnob Tryz.prog.godebug = none := by kernel_rfl
theorem Ai2 : laidOutB Tryz.prog = true := by kernel_rfl
theorem types : ([22].all (tyB Au 14)) = true := by kernel_rfl
theorem Ag9 : ([22].all fun t => Tryz.prog.readableRec t && decide (t < Tryz.prog.types.size)) = true := by kernel_rfl
theorem Amc {xs : List AV} (h : Ala Au 14 [22] xs) : ∃ n, Dd E0 n 4 6 xs = some (.sc (.bool true)) := by
 obtain ⟨y0, ys0, rfl, ⟨cs0, h0, rfl⟩, h⟩ := h
 obtain rfl := h
 obtain ⟨x0, rfl, k0⟩ := AbB ⟨_, rfl, rfl, rfl, rfl, rfl, rfl⟩ h0
 exact ⟨_, W6 1048577 (by omega) x0 k0⟩
def wArgs : Array Value := #[.slice none 0 0]
noncomputable def Py (os : Os) : World :=
 let w0 := World.holding Tryz.prog os ⟨#[], #[], []⟩
 let put (h : Array Obj) (g : Nat) (cs : Array Value) : Array Obj := h.modify g fun
  | .cells _ t frozen => .cells cs t frozen
  | o => o
 let h1 := put w0.heap 0 (Lib.firstTab.map fun z => Value.int .u8 z).toArray
 let h2 := put h1 1 ((List.range 16).flatMap fun i => [Value.int .u8 (Lib.accLo i), Value.int .u8 (Lib.accHi i)]).toArray
 { w0 with heap := h2 }
theorem Agl (os : Os) (args : Array Value) : laidMet Tryz.prog Rows.fnExactGetPacketRow.laid ((Py os).forCall (fun _ _ => 0) ⟨#[], args, []⟩).memory :=
 (LaidIn.of_run (l := Rows.fnExactGetPacketRow.laid) [0, 1] 8 (by kernel_rfl) (by kernel_rfl) (by kernel_rfl) (by kernel_rfl)).met
set_option maxRecDepth 100000 in
theorem AaK (os : Os) {H : Type} (enc : TypeId × Value → H) :
  (OpenSpec.ofChange Rows.fnExactGetPacketSpec).preRow enc Tryz.prog Tryz.f6 Rows.fnExactGetPacketRow.domain false Rows.fnExactGetPacketRow.laid ((Py os).forCall (fun _ _ => 0) ⟨#[], wArgs, []⟩).memory wArgs := by
 have hw : ((DataW.whole enc Tryz.prog ((Py os).forCall (fun _ _ => 0) ⟨#[], wArgs, []⟩).memory Tryz.f6.params.toList (OpenSpec.ofChange Rows.fnExactGetPacketSpec).vars false wArgs.toList 8).map (fun x => x.2.1)) = some [] := by kernel_rfl
 obtain ⟨⟨x1, x2, x3⟩, hx, hx1⟩ := zaH.1 hw
 simp only at hx1
 subst hx1
 exact OpenSpec.preRow_of_cond 8 hx rfl (fun k hk => by cases hk) rfl (Agl os _)
set_option maxRecDepth 100000 in
set_option maxHeartbeats 2000000 in
theorem lifted (os : Os) (started : os.Started) (H : Type) (enc : TypeId × Value → H) (F : Stop.Interp) :
  ReturnsInHanded {} Tryz.checked os 6 .any ((OpenSpec.ofChange Rows.fnExactGetPacketSpec).preRow enc Tryz.prog Tryz.f6 Rows.fnExactGetPacketRow.domain false Rows.fnExactGetPacketRow.laid) (((OpenSpec.ofChange Rows.fnExactGetPacketSpec).at F).post enc Tryz.prog Tryz.f6 false true false false) := by
 refine returnsInHanded_of_row (C := Tryz.checked) (s := OpenSpec.ofChange Rows.fnExactGetPacketSpec) own started (by kernel_rfl) Tryz.func6
  (witness_row_atRef (enc := enc) (C := Tryz.checked) false (Py os) wArgs rfl (by kernel_rfl) (by kernel_rfl) (by kernel_rfl) (AaK os enc)) ?_
 intro W base args ds gs before hval0 hW _ _ _ hL hS _
 have hval : ∀ (j : Nat) t v, Tryz.f6.params[j]? = some t → args[j]? = some v → Value.okWide Tryz.prog W .any base t v := hval0
 have hW' := hW
 obtain ⟨p, q, hA0, hV, rfl, hfz, hnd⟩ := hW
 have hA : DataW.TrodAll enc Tryz.prog W 0 (fun _ => true) true Tryz.f6.params.toList args.toList ds p := hA0
 rw [Tryz.params6] at hA hval
 obtain ⟨xs, hok, hl, hx⟩ := Um AgJ (n := 14) [22] args.toList ds p hA (fun j t v ht hv => hval j t v (by simpa using ht) (by simpa using hv)) types
 obtain ⟨m, hm⟩ := Amc hok
 have htab0 := utf8Tabs_of_readsT (U8Types.of196 Tryz.laysValid) ⟨by kernel_rfl, by kernel_rfl, by kernel_rfl, by kernel_rfl, by kernel_rfl, by kernel_rfl, by kernel_rfl⟩ (Pinned.utf8First_eq ▸ Lib.laidMet.reads hL (.tail _ (.head _))) (Lib.laidMet.reads hL (.head _))
 have htab : J0 W := ⟨htab0, cell_of_shapedOpen_int (zero := #[.int .i64 0]) hS (of_decide_eq_true (by kernel_rfl)) (by kernel_rfl) rfl (by kernel_rfl) (by kernel_rfl) Tryz.underlying3⟩
 have hc := Aef Am9 hm (w := W) htab hl hx
 have hA1 := hA
 obtain ⟨v0, vs0, d0, ds0, p0, q0, hargs, rfl, rfl, g0, r0⟩ := trodAll_cons hA
 obtain ⟨rfl, rfl, rfl⟩ := trodAll_nil r0
 obtain ⟨rfl, rfl⟩ := trodVars_none hV
 have hc2 : Calls Tryz.prog 6 args W fun e W' => e = .returned (.bool true) ∧ Below W.heap.size W W' := by simpa using hc
 refine hc2.mono fun e W' ⟨he, bel⟩ => ?_
 subst he
 exact ⟨_, rfl, _, _, _, [], _, [], hW', trodAll_mk1 (shut_bool Tryz.underlying4 _), Qh Ai2 bel Ag9 hA1, rfl, bel.frame _, fun h => by cases h⟩
end Go.Proofs.YtlcpigdmekgajaaGreatDoor.fnExactGetPacket
