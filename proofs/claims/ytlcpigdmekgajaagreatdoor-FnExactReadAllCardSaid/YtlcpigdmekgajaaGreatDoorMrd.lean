/- What the proof needs, part 4: a sound evaluator over trees, the program's functions on it, and what they come to. -/
import Derived.Test.YtlcpigdmekgajaaGreatDoorMrc
import Derived.Laws.BitsLemmas
set_option linter.unusedVariables false
set_option linter.unusedSimpArgs false
set_option maxRecDepth 100000
set_option maxHeartbeats 32000000
namespace Go.Proofs.YtlcpigdmekgajaaGreatDoor.Abs
open _root_.Bool renaming false_eq_true → zaa, and_eq_true → zag, not_true → za0, not_false → za2, or_eq_true → zaI, true_and → zaK, false_or → zaN, false_and → zaV, and_true → zbt, or_false → zb1, true_or → zbE, or_true → zbJ
open _root_.Option renaming bind_some → zac
open _root_.List renaming length_append → zad, append_assoc → zaf, replicate → zai, nil_append → zal, length_cons → zam, append_nil → zap, map_cons → zaq, length_singleton → zas, mem_cons_of_mem → zat, cons_append → zau, length_nil → zaw, all_cons → zax, mem_cons_self → zay, flatten_cons → zaz, map_append → za3, map_nil → zaB, mapM_cons → zaF, all_nil → zaH, mem_append → zaQ, foldl_cons → zaY, foldl_append → zbc, mem_singleton → zbg, drop_drop → zbj, getD_eq_getElem?_getD → zbp, foldl_nil → zbx
open _root_.ByteArray renaming size_append → zah, size_extract → zao, size → zbk, data_append → zbu, data_push → zbC
open _root_.Nat renaming le_refl → zan, zero_le → zav, le_trans → za5, mul_one → zbw, add_mul → zbB
open _root_.Array renaming ext' → zaZ
open _root_.Int renaming tmod_eq_emod_of_nonneg → za7, eq_ofNat_of_zero_le → zbi, toNat_natCast → zbl, add_comm → zbK
section
open Go
def B3 (t : Int) : PacketV := ⟨t, false, 0, false, 0, ⟨#[]⟩, ⟨#[]⟩, ⟨#[]⟩, 0, false, 0, false, ⟨#[]⟩, ⟨#[]⟩, 0, false, false, ⟨#[]⟩, false, ⟨#[]⟩, 0, false, [], [], []⟩
def Dq (p q : PacketV) : PacketV := if p.fHasWill then { q with fHasWill := true, fWTopic := p.fWTopic, fWBody := p.fWBody, fWQos := p.fWQos, fWRetain := p.fWRetain } else q
def Dp (p q : PacketV) : PacketV := if p.fHasUser then (if p.fHasPass then { q with fHasUser := true, fUser := p.fUser, fHasPass := true, fPass := p.fPass } else { q with fHasUser := true, fUser := p.fUser }) else q
def Aw (pc : Bool) (p : PacketV) : PacketV :=
 if p.fType = 1 then Dp p (Dq p { B3 p.fType with fClient := p.fClient, fLevel := p.fLevel, fClean := p.fClean, fKeep := p.fKeep })
 else if p.fType = 2 then { B3 p.fType with fCode := p.fCode, fPresent := p.fPresent && (!pc || decide (p.fCode = 0)) }
 else if p.fType = 3 then (if 0 < p.fQos then { B3 p.fType with fQos := p.fQos, fRetain := p.fRetain, fTopic := p.fTopic, fBody := p.fBody, fDup := p.fDup, fId := p.fId } else { B3 p.fType with fQos := p.fQos, fRetain := p.fRetain, fTopic := p.fTopic, fBody := p.fBody })
 else if p.fType = 4 ∨ p.fType = 5 ∨ p.fType = 6 ∨ p.fType = 7 ∨ p.fType = 11 then { B3 p.fType with fId := p.fId }
 else if p.fType = 8 then { B3 p.fType with fId := p.fId, fWants := p.fWants }
 else if p.fType = 9 then { B3 p.fType with fId := p.fId, fCodes := p.fCodes }
 else if p.fType = 10 then { B3 p.fType with fId := p.fId, fNames := p.fNames }
 else B3 p.fType
theorem Wl (n : Nat) (hn : 1048576 < n) (p : PacketV) {β : Type} {G : Option β → Prop} {KH : KO β} {H : Ab} {L : List Ck} (s0 : Sep H (L)) (hk : ∀ raw H', (∀ L', VwL L' 7 raw (An (Aw false p))) → Sep H' L → Gd G (KH (.agg raw) H')) : Gd G (Eh E0 (n + 1) β 105 [.agg (An p)] H fun x H => KH x H) := by
 rw [Aia, f105]
 try simp only [Lm, Nt, H4, Gg, I7, Ez, Ee, J6, AeU, AhL]
 refine Om s0 (Gw (Ct _)) fun i1 H s2 => Ie s2 fun i3 H s4 => Nl (Ao (c := si p.fType) s4 Cn rfl (Bb (cs := [si p.fType, bF, i0, bF, i0, sE, .nl, sE, i0, bF, i0, bF, sE, .nl, i0, bF, bF, sE, bF, .nl, i0, bF, .nl, .nl, .nl]) rfl (Ie s4 fun i5 H s6 => B8 (cs' := [si p.fType, bF, i0, bF, i0, sE, .nl, sE, i0, bF, i0, bF, sE, .nl, i0, bF, bF, sE, bF, .nl, i0, bF, .nl, .nl, .nl]) s6 (.here) (Ah rfl) rfl (Ca rfl) rfl fun H s7 => Nl (Ao (c := si p.fType) s7 C7 rfl (Ba (Aa ((decide (p.fType = 1))) (fun h8 => ?_) fun h8 => ?_))))))
 refine Ap h8 (gf7 (Ao (c := ss p.fClient) s7 C7 rfl (gf8 (gf9 (We (Qp (Ow (gf7 (F4 s7 C7 (zAp (.here)) (Ao (c := si p.fLevel) s7 C7 rfl (F4 s7 C7 (zAp (.here)) (Ao (c := sb p.fClean) s7 C7 rfl (F4 s7 C7 (zAp (.here)) (Ao (c := si p.fKeep) s7 C7 rfl (F4 s7 C7 (zAp (.here)) (Ao (c := sb p.fHasWill) s7 C7 rfl (F4 s7 C7 (zAp (.here)) (Ao (c := sb p.fHasUser) s7 C7 rfl (Hp (A3 s7 (.here) rfl rfl fun H s9 => gf8 (Hp (A3 s9 (.here) rfl rfl fun H s10 => gf9 (Hp (A3 s10 (.here) rfl rfl fun H s11 => We (Hp (A3 s11 (.here) rfl rfl fun H s12 => Qp (Hp (A3 s12 (.here) rfl rfl fun H s13 => Ow (A3 s13 (.here) rfl rfl fun H s14 => Qp (Ao (c := sb p.fHasWill) s14 C7 rfl (C8 (Aa (p.fHasWill) (fun h15 => ?_) fun h15 => ?_))))))))))))))))))))))))))))))))
 refine Ap h15 (Wf (Ao (c := ss p.fWTopic) s14 C7 rfl (Wg (Wh (AaB (Wf (F4 s14 C7 (zAp (.here)) (Ao (c := Ad p.fWBody) s14 C7 rfl (F4 s14 C7 (zAp (.here)) (Ao (c := si p.fWQos) s14 C7 rfl (F4 s14 C7 (zAp (.here)) (Ao (c := sb p.fWRetain) s14 C7 rfl (Hp (A3 s14 (.here) rfl rfl fun H s16 => Wg (Hp (A3 s16 (.here) rfl rfl fun H s17 => Wh (Hp (A3 s17 (.here) rfl rfl fun H s18 => AaB (A3 s18 (.here) rfl rfl fun H s19 => Ow (Ao (c := sb p.fHasUser) s19 C7 rfl (C8 (Aa (p.fHasUser) (fun h20 => ?_) fun h20 => ?_))))))))))))))))))))))
 refine Ap h20 (Pg (Ao (c := ss p.fUser) s19 C7 rfl (Ke (Pg (F4 s19 C7 (zAp (.here)) (Ao (c := sb p.fHasPass) s19 C7 rfl (Hp (A3 s19 (.here) rfl rfl fun H s21 => Ke (A3 s21 (.here) rfl rfl fun H s22 => Ke (Ao (c := sb p.fHasPass) s22 (.here) rfl (Aa (p.fHasPass) (fun h23 => ?_) fun h23 => ?_)))))))))))
 refine Ap h23 (Ms (Ao (c := Ad p.fPass) s22 C7 rfl (Ms (A3 s22 (.here) rfl rfl fun H s24 => Aq s24 (.here) rfl (B8 (cs' := [si p.fType, bF, i0, bF, i0, sE, .nl, ss p.fClient, si p.fLevel, sb p.fClean, si p.fKeep, sb p.fHasWill, ss p.fWTopic, Ad p.fWBody, si p.fWQos, sb p.fWRetain, sb p.fHasUser, ss p.fUser, sb p.fHasPass, Ad p.fPass, i0, bF, .nl, .nl, .nl]) s24 Cn (Ah rfl) rfl (Ca rfl) rfl fun H s25 => Aq s25 (.here) rfl ?_)))))
 have e : Aw false p = (⟨p.fType, false, 0, false, 0, ⟨#[]⟩, ⟨#[]⟩, p.fClient, p.fLevel, p.fClean, p.fKeep, p.fHasWill, p.fWTopic, p.fWBody, p.fWQos, p.fWRetain, p.fHasUser, p.fUser, p.fHasPass, p.fPass, 0, false, [], [], []⟩ : PacketV) := by
  simp only [Cs] at h8 h15 h20 h23
  simp [Aw, Dq, Dp, B3, h8, h15, h20, h23]
 rw [e] at hk
 exact hk _ _ (fun L' => (Gf (.cons .nl (Gf (.cons .ro (L8 (.cons .ro (Im (.cons .nl (.cons .nl (.cons .nl .nil))))))))))) s25.tail.tail.tail
 refine Au h23 (Aq s22 (.here) rfl (B8 (cs' := [si p.fType, bF, i0, bF, i0, sE, .nl, ss p.fClient, si p.fLevel, sb p.fClean, si p.fKeep, sb p.fHasWill, ss p.fWTopic, Ad p.fWBody, si p.fWQos, sb p.fWRetain, sb p.fHasUser, ss p.fUser, sb p.fHasPass, .nl, i0, bF, .nl, .nl, .nl]) s22 Cn (Ah rfl) rfl (Ca rfl) rfl fun H s26 => Aq s26 (.here) rfl ?_))
 have e : Aw false p = (⟨p.fType, false, 0, false, 0, ⟨#[]⟩, ⟨#[]⟩, p.fClient, p.fLevel, p.fClean, p.fKeep, p.fHasWill, p.fWTopic, p.fWBody, p.fWQos, p.fWRetain, p.fHasUser, p.fUser, p.fHasPass, ⟨#[]⟩, 0, false, [], [], []⟩ : PacketV) := by
  simp only [Cs] at h8 h15 h20 h23
  simp [Aw, Dq, Dp, B3, h8, h15, h20, h23]
 rw [e] at hk
 exact hk _ _ (fun L' => (Gf (.cons .nl (Gf (.cons .ro (L8 (.cons .nl (Im (.cons .nl (.cons .nl (.cons .nl .nil))))))))))) s26.tail.tail.tail
 refine Au h20 (Ke (Ao (c := bF) s19 (.here) rfl (Au rfl (Aq s19 (.here) rfl (B8 (cs' := [si p.fType, bF, i0, bF, i0, sE, .nl, ss p.fClient, si p.fLevel, sb p.fClean, si p.fKeep, sb p.fHasWill, ss p.fWTopic, Ad p.fWBody, si p.fWQos, sb p.fWRetain, sb p.fHasUser, sE, bF, .nl, i0, bF, .nl, .nl, .nl]) s19 Cn (Ah rfl) rfl (Ca rfl) rfl fun H s27 => Aq s27 (.here) rfl ?_)))))
 have e : Aw false p = (⟨p.fType, false, 0, false, 0, ⟨#[]⟩, ⟨#[]⟩, p.fClient, p.fLevel, p.fClean, p.fKeep, p.fHasWill, p.fWTopic, p.fWBody, p.fWQos, p.fWRetain, p.fHasUser, ⟨#[]⟩, false, ⟨#[]⟩, 0, false, [], [], []⟩ : PacketV) := by
  simp only [Cs] at h8 h15 h20
  simp [Aw, Dq, Dp, B3, h8, h15, h20]
 rw [e] at hk
 exact hk _ _ (fun L' => (Gf (.cons .nl (Gf (.cons .ro (L8 (.cons .nl (Im (.cons .nl (.cons .nl (.cons .nl .nil))))))))))) s27.tail.tail.tail
 refine Au h15 (Ow (Ao (c := sb p.fHasUser) s14 C7 rfl (C8 (Aa (p.fHasUser) (fun h28 => ?_) fun h28 => ?_))))
 refine Ap h28 (Pg (Ao (c := ss p.fUser) s14 C7 rfl (Ke (Pg (F4 s14 C7 (zAp (.here)) (Ao (c := sb p.fHasPass) s14 C7 rfl (Hp (A3 s14 (.here) rfl rfl fun H s29 => Ke (A3 s29 (.here) rfl rfl fun H s30 => Ke (Ao (c := sb p.fHasPass) s30 (.here) rfl (Aa (p.fHasPass) (fun h31 => ?_) fun h31 => ?_)))))))))))
 refine Ap h31 (Ms (Ao (c := Ad p.fPass) s30 C7 rfl (Ms (A3 s30 (.here) rfl rfl fun H s32 => Aq s32 (.here) rfl (B8 (cs' := [si p.fType, bF, i0, bF, i0, sE, .nl, ss p.fClient, si p.fLevel, sb p.fClean, si p.fKeep, sb p.fHasWill, sE, .nl, i0, bF, sb p.fHasUser, ss p.fUser, sb p.fHasPass, Ad p.fPass, i0, bF, .nl, .nl, .nl]) s32 Cn (Ah rfl) rfl (Ca rfl) rfl fun H s33 => Aq s33 (.here) rfl ?_)))))
 have e : Aw false p = (⟨p.fType, false, 0, false, 0, ⟨#[]⟩, ⟨#[]⟩, p.fClient, p.fLevel, p.fClean, p.fKeep, p.fHasWill, ⟨#[]⟩, ⟨#[]⟩, 0, false, p.fHasUser, p.fUser, p.fHasPass, p.fPass, 0, false, [], [], []⟩ : PacketV) := by
  simp only [Cs] at h8 h15 h28 h31
  simp [Aw, Dq, Dp, B3, h8, h15, h28, h31]
 rw [e] at hk
 exact hk _ _ (fun L' => (Gf (.cons .nl (Gf (.cons .nl (L8 (.cons .ro (Im (.cons .nl (.cons .nl (.cons .nl .nil))))))))))) s33.tail.tail.tail
 refine Au h31 (Aq s30 (.here) rfl (B8 (cs' := [si p.fType, bF, i0, bF, i0, sE, .nl, ss p.fClient, si p.fLevel, sb p.fClean, si p.fKeep, sb p.fHasWill, sE, .nl, i0, bF, sb p.fHasUser, ss p.fUser, sb p.fHasPass, .nl, i0, bF, .nl, .nl, .nl]) s30 Cn (Ah rfl) rfl (Ca rfl) rfl fun H s34 => Aq s34 (.here) rfl ?_))
 have e : Aw false p = (⟨p.fType, false, 0, false, 0, ⟨#[]⟩, ⟨#[]⟩, p.fClient, p.fLevel, p.fClean, p.fKeep, p.fHasWill, ⟨#[]⟩, ⟨#[]⟩, 0, false, p.fHasUser, p.fUser, p.fHasPass, ⟨#[]⟩, 0, false, [], [], []⟩ : PacketV) := by
  simp only [Cs] at h8 h15 h28 h31
  simp [Aw, Dq, Dp, B3, h8, h15, h28, h31]
 rw [e] at hk
 exact hk _ _ (fun L' => (Gf (.cons .nl (Gf (.cons .nl (L8 (.cons .nl (Im (.cons .nl (.cons .nl (.cons .nl .nil))))))))))) s34.tail.tail.tail
 refine Au h28 (Ke (Ao (c := bF) s14 (.here) rfl (Au rfl (Aq s14 (.here) rfl (B8 (cs' := [si p.fType, bF, i0, bF, i0, sE, .nl, ss p.fClient, si p.fLevel, sb p.fClean, si p.fKeep, sb p.fHasWill, sE, .nl, i0, bF, sb p.fHasUser, sE, bF, .nl, i0, bF, .nl, .nl, .nl]) s14 Cn (Ah rfl) rfl (Ca rfl) rfl fun H s35 => Aq s35 (.here) rfl ?_)))))
 have e : Aw false p = (⟨p.fType, false, 0, false, 0, ⟨#[]⟩, ⟨#[]⟩, p.fClient, p.fLevel, p.fClean, p.fKeep, p.fHasWill, ⟨#[]⟩, ⟨#[]⟩, 0, false, p.fHasUser, ⟨#[]⟩, false, ⟨#[]⟩, 0, false, [], [], []⟩ : PacketV) := by
  simp only [Cs] at h8 h15 h28
  simp [Aw, Dq, Dp, B3, h8, h15, h28]
 rw [e] at hk
 exact hk _ _ (fun L' => (Gf (.cons .nl (Gf (.cons .nl (L8 (.cons .nl (Im (.cons .nl (.cons .nl (.cons .nl .nil))))))))))) s35.tail.tail.tail
 refine Au h8 (Ba (Aa ((decide (p.fType = 2))) (fun h36 => ?_) fun h36 => ?_))
 refine Ap h36 (Q9 (Ao (c := si p.fCode) s7 C7 rfl (Wi (Q9 (F4 s7 C7 (zAp (.here)) (Ao (c := sb p.fPresent) s7 C7 rfl (Hp (A3 s7 (.here) rfl rfl fun H s37 => Wi (A3 s37 (.here) rfl rfl fun H s38 => Aq s38 (.here) rfl (B8 (cs' := [si p.fType, bF, i0, bF, i0, sE, .nl, sE, i0, bF, i0, bF, sE, .nl, i0, bF, bF, sE, bF, .nl, si p.fCode, sb p.fPresent, .nl, .nl, .nl]) s38 Cn (Ah rfl) rfl (Ca rfl) rfl fun H s39 => Aq s39 (.here) rfl ?_))))))))))
 have e : Aw false p = (⟨p.fType, false, 0, false, 0, ⟨#[]⟩, ⟨#[]⟩, ⟨#[]⟩, 0, false, 0, false, ⟨#[]⟩, ⟨#[]⟩, 0, false, false, ⟨#[]⟩, false, ⟨#[]⟩, p.fCode, p.fPresent, [], [], []⟩ : PacketV) := by
  simp only [Cs] at h8 h36
  simp [Aw, Dq, Dp, B3, h8, h36]
 rw [e] at hk
 exact hk _ _ (fun L' => (Gf (.cons .nl (Gf (.cons .nl (L8 (.cons .nl (Im (.cons .nl (.cons .nl (.cons .nl .nil))))))))))) s39.tail.tail.tail
 refine Au h36 (Ba (Aa ((decide (p.fType = 3))) (fun h40 => ?_) fun h40 => ?_))
 refine Ap h40 (Ox (Ao (c := si p.fQos) s7 C7 rfl (gf3 (gf5 (gf6 (Ox (F4 s7 C7 (zAp (.here)) (Ao (c := sb p.fRetain) s7 C7 rfl (F4 s7 C7 (zAp (.here)) (Ao (c := ss p.fTopic) s7 C7 rfl (F4 s7 C7 (zAp (.here)) (Ao (c := Ad p.fBody) s7 C7 rfl (Hp (A3 s7 (.here) rfl rfl fun H s41 => gf3 (Hp (A3 s41 (.here) rfl rfl fun H s42 => gf5 (Hp (A3 s42 (.here) rfl rfl fun H s43 => gf6 (A3 s43 (.here) rfl rfl fun H s44 => Ox (Ao (c := si p.fQos) s44 C7 rfl (Eb (Aa ((decide (0 < p.fQos))) (fun h45 => ?_) fun h45 => ?_))))))))))))))))))))))
 refine Ap h45 (Wd (Ao (c := sb p.fDup) s44 C7 rfl (Ig (Wd (F4 s44 C7 (zAp (.here)) (Ao (c := si p.fId) s44 C7 rfl (Hp (A3 s44 (.here) rfl rfl fun H s46 => Ig (A3 s46 (.here) rfl rfl fun H s47 => Aq s47 (.here) rfl (B8 (cs' := [si p.fType, sb p.fDup, si p.fQos, sb p.fRetain, si p.fId, ss p.fTopic, Ad p.fBody, sE, i0, bF, i0, bF, sE, .nl, i0, bF, bF, sE, bF, .nl, i0, bF, .nl, .nl, .nl]) s47 Cn (Ah rfl) rfl (Ca rfl) rfl fun H s48 => Aq s48 (.here) rfl ?_))))))))))
 have e : Aw false p = (⟨p.fType, p.fDup, p.fQos, p.fRetain, p.fId, p.fTopic, p.fBody, ⟨#[]⟩, 0, false, 0, false, ⟨#[]⟩, ⟨#[]⟩, 0, false, false, ⟨#[]⟩, false, ⟨#[]⟩, 0, false, [], [], []⟩ : PacketV) := by
  simp only [Cs] at h8 h36 h40 h45
  simp [Aw, Dq, Dp, B3, h8, h36, h40, h45]
 rw [e] at hk
 exact hk _ _ (fun L' => (Gf (.cons .ro (Gf (.cons .nl (L8 (.cons .nl (Im (.cons .nl (.cons .nl (.cons .nl .nil))))))))))) s48.tail.tail.tail
 refine Au h45 (Aq s44 (.here) rfl (B8 (cs' := [si p.fType, bF, si p.fQos, sb p.fRetain, i0, ss p.fTopic, Ad p.fBody, sE, i0, bF, i0, bF, sE, .nl, i0, bF, bF, sE, bF, .nl, i0, bF, .nl, .nl, .nl]) s44 Cn (Ah rfl) rfl (Ca rfl) rfl fun H s49 => Aq s49 (.here) rfl ?_))
 have e : Aw false p = (⟨p.fType, false, p.fQos, p.fRetain, 0, p.fTopic, p.fBody, ⟨#[]⟩, 0, false, 0, false, ⟨#[]⟩, ⟨#[]⟩, 0, false, false, ⟨#[]⟩, false, ⟨#[]⟩, 0, false, [], [], []⟩ : PacketV) := by
  simp only [Cs] at h8 h36 h40 h45
  simp [Aw, Dq, Dp, B3, h8, h36, h40, h45]
 rw [e] at hk
 exact hk _ _ (fun L' => (Gf (.cons .ro (Gf (.cons .nl (L8 (.cons .nl (Im (.cons .nl (.cons .nl (.cons .nl .nil))))))))))) s49.tail.tail.tail
 refine Au h40 (Ba (C8 (Aa ((decide (p.fType = 4))) (fun h50 => ?_) fun h50 => ?_)))
 refine Ap h50 (Ap h50 (Ig (Ao (c := si p.fId) s7 C7 rfl (Ig (A3 s7 (.here) rfl rfl fun H s51 => Aq s51 (.here) rfl (B8 (cs' := [si p.fType, bF, i0, bF, si p.fId, sE, .nl, sE, i0, bF, i0, bF, sE, .nl, i0, bF, bF, sE, bF, .nl, i0, bF, .nl, .nl, .nl]) s51 Cn (Ah rfl) rfl (Ca rfl) rfl fun H s52 => Aq s52 (.here) rfl ?_))))))
 have e : Aw false p = (⟨p.fType, false, 0, false, p.fId, ⟨#[]⟩, ⟨#[]⟩, ⟨#[]⟩, 0, false, 0, false, ⟨#[]⟩, ⟨#[]⟩, 0, false, false, ⟨#[]⟩, false, ⟨#[]⟩, 0, false, [], [], []⟩ : PacketV) := by
  simp only [Cs] at h8 h36 h40 h50
  simp [Aw, Dq, Dp, B3, h8, h36, h40, h50]
 rw [e] at hk
 exact hk _ _ (fun L' => (Gf (.cons .nl (Gf (.cons .nl (L8 (.cons .nl (Im (.cons .nl (.cons .nl (.cons .nl .nil))))))))))) s52.tail.tail.tail
 refine Au h50 (Ba (Aa ((decide (p.fType = 5))) (fun h53 => ?_) fun h53 => ?_))
 refine Ap h53 (Ap h53 (Ig (Ao (c := si p.fId) s7 C7 rfl (Ig (A3 s7 (.here) rfl rfl fun H s54 => Aq s54 (.here) rfl (B8 (cs' := [si p.fType, bF, i0, bF, si p.fId, sE, .nl, sE, i0, bF, i0, bF, sE, .nl, i0, bF, bF, sE, bF, .nl, i0, bF, .nl, .nl, .nl]) s54 Cn (Ah rfl) rfl (Ca rfl) rfl fun H s55 => Aq s55 (.here) rfl ?_))))))
 have e : Aw false p = (⟨p.fType, false, 0, false, p.fId, ⟨#[]⟩, ⟨#[]⟩, ⟨#[]⟩, 0, false, 0, false, ⟨#[]⟩, ⟨#[]⟩, 0, false, false, ⟨#[]⟩, false, ⟨#[]⟩, 0, false, [], [], []⟩ : PacketV) := by
  simp only [Cs] at h8 h36 h40 h50 h53
  simp [Aw, Dq, Dp, B3, h8, h36, h40, h50, h53]
 rw [e] at hk
 exact hk _ _ (fun L' => (Gf (.cons .nl (Gf (.cons .nl (L8 (.cons .nl (Im (.cons .nl (.cons .nl (.cons .nl .nil))))))))))) s55.tail.tail.tail
 refine Au h53 (Ba (Aa ((decide (p.fType = 6))) (fun h56 => ?_) fun h56 => ?_))
 refine Ap h56 (Ap h56 (Ig (Ao (c := si p.fId) s7 C7 rfl (Ig (A3 s7 (.here) rfl rfl fun H s57 => Aq s57 (.here) rfl (B8 (cs' := [si p.fType, bF, i0, bF, si p.fId, sE, .nl, sE, i0, bF, i0, bF, sE, .nl, i0, bF, bF, sE, bF, .nl, i0, bF, .nl, .nl, .nl]) s57 Cn (Ah rfl) rfl (Ca rfl) rfl fun H s58 => Aq s58 (.here) rfl ?_))))))
 have e : Aw false p = (⟨p.fType, false, 0, false, p.fId, ⟨#[]⟩, ⟨#[]⟩, ⟨#[]⟩, 0, false, 0, false, ⟨#[]⟩, ⟨#[]⟩, 0, false, false, ⟨#[]⟩, false, ⟨#[]⟩, 0, false, [], [], []⟩ : PacketV) := by
  simp only [Cs] at h8 h36 h40 h50 h53 h56
  simp [Aw, Dq, Dp, B3, h8, h36, h40, h50, h53, h56]
 rw [e] at hk
 exact hk _ _ (fun L' => (Gf (.cons .nl (Gf (.cons .nl (L8 (.cons .nl (Im (.cons .nl (.cons .nl (.cons .nl .nil))))))))))) s58.tail.tail.tail
 refine Au h56 (Ba (Aa ((decide (p.fType = 7))) (fun h59 => ?_) fun h59 => ?_))
 refine Ap h59 (Ap h59 (Ig (Ao (c := si p.fId) s7 C7 rfl (Ig (A3 s7 (.here) rfl rfl fun H s60 => Aq s60 (.here) rfl (B8 (cs' := [si p.fType, bF, i0, bF, si p.fId, sE, .nl, sE, i0, bF, i0, bF, sE, .nl, i0, bF, bF, sE, bF, .nl, i0, bF, .nl, .nl, .nl]) s60 Cn (Ah rfl) rfl (Ca rfl) rfl fun H s61 => Aq s61 (.here) rfl ?_))))))
 have e : Aw false p = (⟨p.fType, false, 0, false, p.fId, ⟨#[]⟩, ⟨#[]⟩, ⟨#[]⟩, 0, false, 0, false, ⟨#[]⟩, ⟨#[]⟩, 0, false, false, ⟨#[]⟩, false, ⟨#[]⟩, 0, false, [], [], []⟩ : PacketV) := by
  simp only [Cs] at h8 h36 h40 h50 h53 h56 h59
  simp [Aw, Dq, Dp, B3, h8, h36, h40, h50, h53, h56, h59]
 rw [e] at hk
 exact hk _ _ (fun L' => (Gf (.cons .nl (Gf (.cons .nl (L8 (.cons .nl (Im (.cons .nl (.cons .nl (.cons .nl .nil))))))))))) s61.tail.tail.tail
 refine Au h59 (Ba (Aa ((decide (p.fType = 11))) (fun h62 => ?_) fun h62 => ?_))
 refine Ap h62 (Ig (Ao (c := si p.fId) s7 C7 rfl (Ig (A3 s7 (.here) rfl rfl fun H s63 => Aq s63 (.here) rfl (B8 (cs' := [si p.fType, bF, i0, bF, si p.fId, sE, .nl, sE, i0, bF, i0, bF, sE, .nl, i0, bF, bF, sE, bF, .nl, i0, bF, .nl, .nl, .nl]) s63 Cn (Ah rfl) rfl (Ca rfl) rfl fun H s64 => Aq s64 (.here) rfl ?_)))))
 have e : Aw false p = (⟨p.fType, false, 0, false, p.fId, ⟨#[]⟩, ⟨#[]⟩, ⟨#[]⟩, 0, false, 0, false, ⟨#[]⟩, ⟨#[]⟩, 0, false, false, ⟨#[]⟩, false, ⟨#[]⟩, 0, false, [], [], []⟩ : PacketV) := by
  simp only [Cs] at h8 h36 h40 h50 h53 h56 h59 h62
  simp [Aw, Dq, Dp, B3, h8, h36, h40, h50, h53, h56, h59, h62]
 rw [e] at hk
 exact hk _ _ (fun L' => (Gf (.cons .nl (Gf (.cons .nl (L8 (.cons .nl (Im (.cons .nl (.cons .nl (.cons .nl .nil))))))))))) s64.tail.tail.tail
 refine Au h62 (Ba (Aa ((decide (p.fType = 8))) (fun h65 => ?_) fun h65 => ?_))
 refine Ap h65 (Ig (Ao (c := si p.fId) s7 C7 rfl (Kf (Ig (F4 s7 C7 (zAp (.here)) (Ao (c := Bt Bp p.fWants) s7 C7 rfl (Hp (A3 s7 (.here) rfl rfl fun H s66 => Kf (A3 s66 (.here) rfl rfl fun H s67 => Aq s67 (.here) rfl (B8 (cs' := [si p.fType, bF, i0, bF, si p.fId, sE, .nl, sE, i0, bF, i0, bF, sE, .nl, i0, bF, bF, sE, bF, .nl, i0, bF, Bt Bp p.fWants, .nl, .nl]) s67 Cn (Ah rfl) rfl (Ca rfl) rfl fun H s68 => Aq s68 (.here) rfl ?_))))))))))
 have e : Aw false p = (⟨p.fType, false, 0, false, p.fId, ⟨#[]⟩, ⟨#[]⟩, ⟨#[]⟩, 0, false, 0, false, ⟨#[]⟩, ⟨#[]⟩, 0, false, false, ⟨#[]⟩, false, ⟨#[]⟩, 0, false, p.fWants, [], []⟩ : PacketV) := by
  simp only [Cs] at h8 h36 h40 h50 h53 h56 h59 h62 h65
  simp [Aw, Dq, Dp, B3, h8, h36, h40, h50, h53, h56, h59, h62, h65]
 rw [e] at hk
 exact hk _ _ (fun L' => (Gf (.cons .nl (Gf (.cons .nl (L8 (.cons .nl (Im (.cons .ro (.cons .nl (.cons .nl .nil))))))))))) s68.tail.tail.tail
 refine Au h65 (Ba (Aa ((decide (p.fType = 9))) (fun h69 => ?_) fun h69 => ?_))
 refine Ap h69 (Ig (Ao (c := si p.fId) s7 C7 rfl (Kn (Ig (F4 s7 C7 (zAp (.here)) (Ao (c := D5 p.fCodes) s7 C7 rfl (Hp (A3 s7 (.here) rfl rfl fun H s70 => Kn (A3 s70 (.here) rfl rfl fun H s71 => Aq s71 (.here) rfl (B8 (cs' := [si p.fType, bF, i0, bF, si p.fId, sE, .nl, sE, i0, bF, i0, bF, sE, .nl, i0, bF, bF, sE, bF, .nl, i0, bF, .nl, .nl, D5 p.fCodes]) s71 Cn (Ah rfl) rfl (Ca rfl) rfl fun H s72 => Aq s72 (.here) rfl ?_))))))))))
 have e : Aw false p = (⟨p.fType, false, 0, false, p.fId, ⟨#[]⟩, ⟨#[]⟩, ⟨#[]⟩, 0, false, 0, false, ⟨#[]⟩, ⟨#[]⟩, 0, false, false, ⟨#[]⟩, false, ⟨#[]⟩, 0, false, [], [], p.fCodes⟩ : PacketV) := by
  simp only [Cs] at h8 h36 h40 h50 h53 h56 h59 h62 h65 h69
  simp [Aw, Dq, Dp, B3, h8, h36, h40, h50, h53, h56, h59, h62, h65, h69]
 rw [e] at hk
 exact hk _ _ (fun L' => (Gf (.cons .nl (Gf (.cons .nl (L8 (.cons .nl (Im (.cons .nl (.cons .nl (.cons .ro .nil))))))))))) s72.tail.tail.tail
 refine Au h69 (Ba (Aa ((decide (p.fType = 10))) (fun h73 => ?_) fun h73 => ?_))
 refine Ap h73 (Ig (Ao (c := si p.fId) s7 C7 rfl (Km (Ig (F4 s7 C7 (zAp (.here)) (Ao (c := D6 p.fNames) s7 C7 rfl (Hp (A3 s7 (.here) rfl rfl fun H s74 => Km (A3 s74 (.here) rfl rfl fun H s75 => Aq s75 (.here) rfl (B8 (cs' := [si p.fType, bF, i0, bF, si p.fId, sE, .nl, sE, i0, bF, i0, bF, sE, .nl, i0, bF, bF, sE, bF, .nl, i0, bF, .nl, D6 p.fNames, .nl]) s75 Cn (Ah rfl) rfl (Ca rfl) rfl fun H s76 => Aq s76 (.here) rfl ?_))))))))))
 have e : Aw false p = (⟨p.fType, false, 0, false, p.fId, ⟨#[]⟩, ⟨#[]⟩, ⟨#[]⟩, 0, false, 0, false, ⟨#[]⟩, ⟨#[]⟩, 0, false, false, ⟨#[]⟩, false, ⟨#[]⟩, 0, false, [], p.fNames, []⟩ : PacketV) := by
  simp only [Cs] at h8 h36 h40 h50 h53 h56 h59 h62 h65 h69 h73
  simp [Aw, Dq, Dp, B3, h8, h36, h40, h50, h53, h56, h59, h62, h65, h69, h73]
 rw [e] at hk
 exact hk _ _ (fun L' => (Gf (.cons .nl (Gf (.cons .nl (L8 (.cons .nl (Im (.cons .nl (.cons .ro (.cons .nl .nil))))))))))) s76.tail.tail.tail
 refine Au h73 (Aq s7 (.here) rfl (B8 (cs' := [si p.fType, bF, i0, bF, i0, sE, .nl, sE, i0, bF, i0, bF, sE, .nl, i0, bF, bF, sE, bF, .nl, i0, bF, .nl, .nl, .nl]) s7 Cn (Ah rfl) rfl (Ca rfl) rfl fun H s77 => Aq s77 (.here) rfl ?_))
 have e : Aw false p = (⟨p.fType, false, 0, false, 0, ⟨#[]⟩, ⟨#[]⟩, ⟨#[]⟩, 0, false, 0, false, ⟨#[]⟩, ⟨#[]⟩, 0, false, false, ⟨#[]⟩, false, ⟨#[]⟩, 0, false, [], [], []⟩ : PacketV) := by
  simp only [Cs] at h8 h36 h40 h50 h53 h56 h59 h62 h65 h69 h73
  simp [Aw, Dq, Dp, B3, h8, h36, h40, h50, h53, h56, h59, h62, h65, h69, h73]
 rw [e] at hk
 exact hk _ _ (fun L' => (Gf (.cons .nl (Gf (.cons .nl (L8 (.cons .nl (Im (.cons .nl (.cons .nl (.cons .nl .nil))))))))))) s77.tail.tail.tail
theorem Xl (n : Nat) (hn : 1048576 < n) (p : PacketV) {β : Type} {G : Option β → Prop} {KH : KO β} {H : Ab} {L : List Ck} (s0 : Sep H (L)) (hk : ∀ raw H', (∀ L', VwL L' 7 raw (An (Aw true p))) → Sep H' L → Gd G (KH (.agg raw) H')) : Gd G (Eh E0 (n + 1) β 90 [.agg (An p)] H fun x H => KH x H) := by
 rw [Al6, f90]
 try simp only [Lm, Nt, H4, Gg, I7, Ez, Ee, Fe, Pr.gT, Pr.gF, Pr.hT, Pr.hF, Pr.kT, Pr.kF, Gh, J6]
 refine Om s0 (Gw (Ct _)) fun i1 H s2 => Ie s2 fun i3 H s4 => Nl (Ao (c := si p.fType) s4 Cn rfl (Bb (cs := [si p.fType, bF, i0, bF, i0, sE, .nl, sE, i0, bF, i0, bF, sE, .nl, i0, bF, bF, sE, bF, .nl, i0, bF, .nl, .nl, .nl]) rfl (Ie s4 fun i5 H s6 => B8 (cs' := [si p.fType, bF, i0, bF, i0, sE, .nl, sE, i0, bF, i0, bF, sE, .nl, i0, bF, bF, sE, bF, .nl, i0, bF, .nl, .nl, .nl]) s6 (.here) (Ah rfl) rfl (Ca rfl) rfl fun H s7 => Nl (Ao (c := si p.fType) s7 C7 rfl (Ba (Aa ((decide (p.fType = 1))) (fun h8 => ?_) fun h8 => ?_))))))
 refine Ap h8 (gf8 (Ao (c := si p.fLevel) s7 C7 rfl (gf8 (A3 s7 (.here) rfl rfl fun H s9 => gf7 (Ao (c := ss p.fClient) s9 C7 rfl (gf7 (A3 s9 (.here) rfl rfl fun H s10 => gf9 (Ao (c := sb p.fClean) s10 C7 rfl (gf9 (A3 s10 (.here) rfl rfl fun H s11 => We (Ao (c := si p.fKeep) s11 C7 rfl (We (A3 s11 (.here) rfl rfl fun H s12 => Qp (Ao (c := sb p.fHasWill) s12 C7 rfl (C8 (Aa (p.fHasWill) (fun h13 => ?_) fun h13 => ?_))))))))))))))))
 refine Ap h13 (Qp (A3 s12 (.here) rfl rfl fun H s14 => Wf (Ao (c := ss p.fWTopic) s14 C7 rfl (Wf (A3 s14 (.here) rfl rfl fun H s15 => Wg (Ao (c := Ad p.fWBody) s15 C7 rfl (Wg (A3 s15 (.here) rfl rfl fun H s16 => Wh (Ao (c := si p.fWQos) s16 C7 rfl (Wh (A3 s16 (.here) rfl rfl fun H s17 => AaB (Ao (c := sb p.fWRetain) s17 C7 rfl (AaB (A3 s17 (.here) rfl rfl fun H s18 => Ow (Ao (c := sb p.fHasUser) s18 C7 rfl (Aa (p.fHasUser) (fun h19 => ?_) fun h19 => ?_))))))))))))))))
 refine Ap h19 (Ow (A3 s18 (.here) rfl rfl fun H s20 => Pg (Ao (c := ss p.fUser) s20 C7 rfl (Pg (A3 s20 (.here) rfl rfl fun H s21 => Ke (Ao (c := sb p.fHasPass) s21 C7 rfl (Aa (p.fHasPass) (fun h22 => ?_) fun h22 => ?_)))))))
 refine Ap h22 (Ke (A3 s21 (.here) rfl rfl fun H s23 => Ms (Ao (c := Ad p.fPass) s23 C7 rfl (Ms (A3 s23 (.here) rfl rfl fun H s24 => Aq s24 (.here) rfl (B8 (cs' := [si p.fType, bF, i0, bF, i0, sE, .nl, ss p.fClient, si p.fLevel, sb p.fClean, si p.fKeep, bT, ss p.fWTopic, Ad p.fWBody, si p.fWQos, sb p.fWRetain, bT, ss p.fUser, bT, Ad p.fPass, i0, bF, .nl, .nl, .nl]) s24 Cn (Ah rfl) rfl (Ca rfl) rfl fun H s25 => Aq s25 (.here) rfl ?_))))))
 have e : Aw true p = (⟨p.fType, false, 0, false, 0, ⟨#[]⟩, ⟨#[]⟩, p.fClient, p.fLevel, p.fClean, p.fKeep, true, p.fWTopic, p.fWBody, p.fWQos, p.fWRetain, true, p.fUser, true, p.fPass, 0, false, [], [], []⟩ : PacketV) := by
  simp only [Cs] at h8 h13 h19 h22
  simp [Aw, Dq, Dp, B3, h8, h13, h19, h22]
 rw [e] at hk
 exact hk _ _ (fun L' => (Gf (.cons .nl (Gf (.cons .ro (L8 (.cons .ro (Im (.cons .nl (.cons .nl (.cons .nl .nil))))))))))) s25.tail.tail.tail
 refine Au h22 (Aq s21 (.here) rfl (B8 (cs' := [si p.fType, bF, i0, bF, i0, sE, .nl, ss p.fClient, si p.fLevel, sb p.fClean, si p.fKeep, bT, ss p.fWTopic, Ad p.fWBody, si p.fWQos, sb p.fWRetain, bT, ss p.fUser, bF, .nl, i0, bF, .nl, .nl, .nl]) s21 Cn (Ah rfl) rfl (Ca rfl) rfl fun H s26 => Aq s26 (.here) rfl ?_))
 have e : Aw true p = (⟨p.fType, false, 0, false, 0, ⟨#[]⟩, ⟨#[]⟩, p.fClient, p.fLevel, p.fClean, p.fKeep, true, p.fWTopic, p.fWBody, p.fWQos, p.fWRetain, true, p.fUser, false, ⟨#[]⟩, 0, false, [], [], []⟩ : PacketV) := by
  simp only [Cs] at h8 h13 h19 h22
  simp [Aw, Dq, Dp, B3, h8, h13, h19, h22]
 rw [e] at hk
 exact hk _ _ (fun L' => (Gf (.cons .nl (Gf (.cons .ro (L8 (.cons .nl (Im (.cons .nl (.cons .nl (.cons .nl .nil))))))))))) s26.tail.tail.tail
 refine Au h19 (Aq s18 (.here) rfl (B8 (cs' := [si p.fType, bF, i0, bF, i0, sE, .nl, ss p.fClient, si p.fLevel, sb p.fClean, si p.fKeep, bT, ss p.fWTopic, Ad p.fWBody, si p.fWQos, sb p.fWRetain, bF, sE, bF, .nl, i0, bF, .nl, .nl, .nl]) s18 Cn (Ah rfl) rfl (Ca rfl) rfl fun H s27 => Aq s27 (.here) rfl ?_))
 have e : Aw true p = (⟨p.fType, false, 0, false, 0, ⟨#[]⟩, ⟨#[]⟩, p.fClient, p.fLevel, p.fClean, p.fKeep, true, p.fWTopic, p.fWBody, p.fWQos, p.fWRetain, false, ⟨#[]⟩, false, ⟨#[]⟩, 0, false, [], [], []⟩ : PacketV) := by
  simp only [Cs] at h8 h13 h19
  simp [Aw, Dq, Dp, B3, h8, h13, h19]
 rw [e] at hk
 exact hk _ _ (fun L' => (Gf (.cons .nl (Gf (.cons .ro (L8 (.cons .nl (Im (.cons .nl (.cons .nl (.cons .nl .nil))))))))))) s27.tail.tail.tail
 refine Au h13 (Ow (Ao (c := sb p.fHasUser) s12 C7 rfl (Aa (p.fHasUser) (fun h28 => ?_) fun h28 => ?_)))
 refine Ap h28 (Ow (A3 s12 (.here) rfl rfl fun H s29 => Pg (Ao (c := ss p.fUser) s29 C7 rfl (Pg (A3 s29 (.here) rfl rfl fun H s30 => Ke (Ao (c := sb p.fHasPass) s30 C7 rfl (Aa (p.fHasPass) (fun h31 => ?_) fun h31 => ?_)))))))
 refine Ap h31 (Ke (A3 s30 (.here) rfl rfl fun H s32 => Ms (Ao (c := Ad p.fPass) s32 C7 rfl (Ms (A3 s32 (.here) rfl rfl fun H s33 => Aq s33 (.here) rfl (B8 (cs' := [si p.fType, bF, i0, bF, i0, sE, .nl, ss p.fClient, si p.fLevel, sb p.fClean, si p.fKeep, bF, sE, .nl, i0, bF, bT, ss p.fUser, bT, Ad p.fPass, i0, bF, .nl, .nl, .nl]) s33 Cn (Ah rfl) rfl (Ca rfl) rfl fun H s34 => Aq s34 (.here) rfl ?_))))))
 have e : Aw true p = (⟨p.fType, false, 0, false, 0, ⟨#[]⟩, ⟨#[]⟩, p.fClient, p.fLevel, p.fClean, p.fKeep, false, ⟨#[]⟩, ⟨#[]⟩, 0, false, true, p.fUser, true, p.fPass, 0, false, [], [], []⟩ : PacketV) := by
  simp only [Cs] at h8 h13 h28 h31
  simp [Aw, Dq, Dp, B3, h8, h13, h28, h31]
 rw [e] at hk
 exact hk _ _ (fun L' => (Gf (.cons .nl (Gf (.cons .nl (L8 (.cons .ro (Im (.cons .nl (.cons .nl (.cons .nl .nil))))))))))) s34.tail.tail.tail
 refine Au h31 (Aq s30 (.here) rfl (B8 (cs' := [si p.fType, bF, i0, bF, i0, sE, .nl, ss p.fClient, si p.fLevel, sb p.fClean, si p.fKeep, bF, sE, .nl, i0, bF, bT, ss p.fUser, bF, .nl, i0, bF, .nl, .nl, .nl]) s30 Cn (Ah rfl) rfl (Ca rfl) rfl fun H s35 => Aq s35 (.here) rfl ?_))
 have e : Aw true p = (⟨p.fType, false, 0, false, 0, ⟨#[]⟩, ⟨#[]⟩, p.fClient, p.fLevel, p.fClean, p.fKeep, false, ⟨#[]⟩, ⟨#[]⟩, 0, false, true, p.fUser, false, ⟨#[]⟩, 0, false, [], [], []⟩ : PacketV) := by
  simp only [Cs] at h8 h13 h28 h31
  simp [Aw, Dq, Dp, B3, h8, h13, h28, h31]
 rw [e] at hk
 exact hk _ _ (fun L' => (Gf (.cons .nl (Gf (.cons .nl (L8 (.cons .nl (Im (.cons .nl (.cons .nl (.cons .nl .nil))))))))))) s35.tail.tail.tail
 refine Au h28 (Aq s12 (.here) rfl (B8 (cs' := [si p.fType, bF, i0, bF, i0, sE, .nl, ss p.fClient, si p.fLevel, sb p.fClean, si p.fKeep, bF, sE, .nl, i0, bF, bF, sE, bF, .nl, i0, bF, .nl, .nl, .nl]) s12 Cn (Ah rfl) rfl (Ca rfl) rfl fun H s36 => Aq s36 (.here) rfl ?_))
 have e : Aw true p = (⟨p.fType, false, 0, false, 0, ⟨#[]⟩, ⟨#[]⟩, p.fClient, p.fLevel, p.fClean, p.fKeep, false, ⟨#[]⟩, ⟨#[]⟩, 0, false, false, ⟨#[]⟩, false, ⟨#[]⟩, 0, false, [], [], []⟩ : PacketV) := by
  simp only [Cs] at h8 h13 h28
  simp [Aw, Dq, Dp, B3, h8, h13, h28]
 rw [e] at hk
 exact hk _ _ (fun L' => (Gf (.cons .nl (Gf (.cons .nl (L8 (.cons .nl (Im (.cons .nl (.cons .nl (.cons .nl .nil))))))))))) s36.tail.tail.tail
 refine Au h8 (Ba (Aa ((decide (p.fType = 2))) (fun h37 => ?_) fun h37 => ?_))
 refine Ap h37 (Q9 (Ao (c := si p.fCode) s7 C7 rfl (Q9 (A3 s7 (.here) rfl rfl fun H s38 => Wi (Ao (c := sb p.fPresent) s38 C7 rfl (Aa (p.fPresent) (fun h39 => ?_) fun h39 => ?_))))))
 refine Af h39 (Q9 (Af h39 (Ao (c := si p.fCode) s38 C7 rfl (Af h39 (Ba (E2 h39 (Wi (A3 s38 (.here) rfl rfl fun H s40 => Aq s40 (.here) rfl (B8 (cs' := [si p.fType, bF, i0, bF, i0, sE, .nl, sE, i0, bF, i0, bF, sE, .nl, i0, bF, bF, sE, bF, .nl, si p.fCode, sb (decide (p.fCode = 0)), .nl, .nl, .nl]) s40 Cn (Ah rfl) rfl (Ca rfl) rfl fun H s41 => Aq s41 (.here) rfl ?_)))))))))
 have e : Aw true p = (⟨p.fType, false, 0, false, 0, ⟨#[]⟩, ⟨#[]⟩, ⟨#[]⟩, 0, false, 0, false, ⟨#[]⟩, ⟨#[]⟩, 0, false, false, ⟨#[]⟩, false, ⟨#[]⟩, p.fCode, (decide (p.fCode = 0)), [], [], []⟩ : PacketV) := by
  simp only [Cs] at h8 h37 h39
  simp [Aw, Dq, Dp, B3, h8, h37, h39]
 rw [e] at hk
 exact hk _ _ (fun L' => (Gf (.cons .nl (Gf (.cons .nl (L8 (.cons .nl (Im (.cons .nl (.cons .nl (.cons .nl .nil))))))))))) s41.tail.tail.tail
 refine Ae h39 (Ae h39 (Ae h39 (E1 h39 (Wi (A3 s38 (.here) rfl rfl fun H s42 => Aq s42 (.here) rfl (B8 (cs' := [si p.fType, bF, i0, bF, i0, sE, .nl, sE, i0, bF, i0, bF, sE, .nl, i0, bF, bF, sE, bF, .nl, si p.fCode, bF, .nl, .nl, .nl]) s42 Cn (Ah rfl) rfl (Ca rfl) rfl fun H s43 => Aq s43 (.here) rfl ?_))))))
 have e : Aw true p = (⟨p.fType, false, 0, false, 0, ⟨#[]⟩, ⟨#[]⟩, ⟨#[]⟩, 0, false, 0, false, ⟨#[]⟩, ⟨#[]⟩, 0, false, false, ⟨#[]⟩, false, ⟨#[]⟩, p.fCode, false, [], [], []⟩ : PacketV) := by
  simp only [Cs] at h8 h37 h39
  simp [Aw, Dq, Dp, B3, h8, h37, h39]
 rw [e] at hk
 exact hk _ _ (fun L' => (Gf (.cons .nl (Gf (.cons .nl (L8 (.cons .nl (Im (.cons .nl (.cons .nl (.cons .nl .nil))))))))))) s43.tail.tail.tail
 refine Au h37 (Ba (Aa ((decide (p.fType = 3))) (fun h44 => ?_) fun h44 => ?_))
 refine Ap h44 (Ox (Ao (c := si p.fQos) s7 C7 rfl (Ox (A3 s7 (.here) rfl rfl fun H s45 => gf3 (Ao (c := sb p.fRetain) s45 C7 rfl (gf3 (A3 s45 (.here) rfl rfl fun H s46 => gf5 (Ao (c := ss p.fTopic) s46 C7 rfl (gf5 (A3 s46 (.here) rfl rfl fun H s47 => gf6 (Ao (c := Ad p.fBody) s47 C7 rfl (gf6 (A3 s47 (.here) rfl rfl fun H s48 => Ox (Ao (c := si p.fQos) s48 C7 rfl (Eb (Aa ((decide (0 < p.fQos))) (fun h49 => ?_) fun h49 => ?_))))))))))))))))
 refine Ap h49 (Wd (Ao (c := sb p.fDup) s48 C7 rfl (Wd (A3 s48 (.here) rfl rfl fun H s50 => Ig (Ao (c := si p.fId) s50 C7 rfl (Ig (A3 s50 (.here) rfl rfl fun H s51 => Aq s51 (.here) rfl (B8 (cs' := [si p.fType, sb p.fDup, si p.fQos, sb p.fRetain, si p.fId, ss p.fTopic, Ad p.fBody, sE, i0, bF, i0, bF, sE, .nl, i0, bF, bF, sE, bF, .nl, i0, bF, .nl, .nl, .nl]) s51 Cn (Ah rfl) rfl (Ca rfl) rfl fun H s52 => Aq s52 (.here) rfl ?_))))))))
 have e : Aw true p = (⟨p.fType, p.fDup, p.fQos, p.fRetain, p.fId, p.fTopic, p.fBody, ⟨#[]⟩, 0, false, 0, false, ⟨#[]⟩, ⟨#[]⟩, 0, false, false, ⟨#[]⟩, false, ⟨#[]⟩, 0, false, [], [], []⟩ : PacketV) := by
  simp only [Cs] at h8 h37 h44 h49
  simp [Aw, Dq, Dp, B3, h8, h37, h44, h49]
 rw [e] at hk
 exact hk _ _ (fun L' => (Gf (.cons .ro (Gf (.cons .nl (L8 (.cons .nl (Im (.cons .nl (.cons .nl (.cons .nl .nil))))))))))) s52.tail.tail.tail
 refine Au h49 (Aq s48 (.here) rfl (B8 (cs' := [si p.fType, bF, si p.fQos, sb p.fRetain, i0, ss p.fTopic, Ad p.fBody, sE, i0, bF, i0, bF, sE, .nl, i0, bF, bF, sE, bF, .nl, i0, bF, .nl, .nl, .nl]) s48 Cn (Ah rfl) rfl (Ca rfl) rfl fun H s53 => Aq s53 (.here) rfl ?_))
 have e : Aw true p = (⟨p.fType, false, p.fQos, p.fRetain, 0, p.fTopic, p.fBody, ⟨#[]⟩, 0, false, 0, false, ⟨#[]⟩, ⟨#[]⟩, 0, false, false, ⟨#[]⟩, false, ⟨#[]⟩, 0, false, [], [], []⟩ : PacketV) := by
  simp only [Cs] at h8 h37 h44 h49
  simp [Aw, Dq, Dp, B3, h8, h37, h44, h49]
 rw [e] at hk
 exact hk _ _ (fun L' => (Gf (.cons .ro (Gf (.cons .nl (L8 (.cons .nl (Im (.cons .nl (.cons .nl (.cons .nl .nil))))))))))) s53.tail.tail.tail
 refine Au h44 (Ba (C8 (Aa ((decide (p.fType = 4))) (fun h54 => ?_) fun h54 => ?_)))
 refine Ap h54 (Ap h54 (Ig (Ao (c := si p.fId) s7 C7 rfl (Ig (A3 s7 (.here) rfl rfl fun H s55 => Aq s55 (.here) rfl (B8 (cs' := [si p.fType, bF, i0, bF, si p.fId, sE, .nl, sE, i0, bF, i0, bF, sE, .nl, i0, bF, bF, sE, bF, .nl, i0, bF, .nl, .nl, .nl]) s55 Cn (Ah rfl) rfl (Ca rfl) rfl fun H s56 => Aq s56 (.here) rfl ?_))))))
 have e : Aw true p = (⟨p.fType, false, 0, false, p.fId, ⟨#[]⟩, ⟨#[]⟩, ⟨#[]⟩, 0, false, 0, false, ⟨#[]⟩, ⟨#[]⟩, 0, false, false, ⟨#[]⟩, false, ⟨#[]⟩, 0, false, [], [], []⟩ : PacketV) := by
  simp only [Cs] at h8 h37 h44 h54
  simp [Aw, Dq, Dp, B3, h8, h37, h44, h54]
 rw [e] at hk
 exact hk _ _ (fun L' => (Gf (.cons .nl (Gf (.cons .nl (L8 (.cons .nl (Im (.cons .nl (.cons .nl (.cons .nl .nil))))))))))) s56.tail.tail.tail
 refine Au h54 (Ba (Aa ((decide (p.fType = 5))) (fun h57 => ?_) fun h57 => ?_))
 refine Ap h57 (Ap h57 (Ig (Ao (c := si p.fId) s7 C7 rfl (Ig (A3 s7 (.here) rfl rfl fun H s58 => Aq s58 (.here) rfl (B8 (cs' := [si p.fType, bF, i0, bF, si p.fId, sE, .nl, sE, i0, bF, i0, bF, sE, .nl, i0, bF, bF, sE, bF, .nl, i0, bF, .nl, .nl, .nl]) s58 Cn (Ah rfl) rfl (Ca rfl) rfl fun H s59 => Aq s59 (.here) rfl ?_))))))
 have e : Aw true p = (⟨p.fType, false, 0, false, p.fId, ⟨#[]⟩, ⟨#[]⟩, ⟨#[]⟩, 0, false, 0, false, ⟨#[]⟩, ⟨#[]⟩, 0, false, false, ⟨#[]⟩, false, ⟨#[]⟩, 0, false, [], [], []⟩ : PacketV) := by
  simp only [Cs] at h8 h37 h44 h54 h57
  simp [Aw, Dq, Dp, B3, h8, h37, h44, h54, h57]
 rw [e] at hk
 exact hk _ _ (fun L' => (Gf (.cons .nl (Gf (.cons .nl (L8 (.cons .nl (Im (.cons .nl (.cons .nl (.cons .nl .nil))))))))))) s59.tail.tail.tail
 refine Au h57 (Ba (Aa ((decide (p.fType = 6))) (fun h60 => ?_) fun h60 => ?_))
 refine Ap h60 (Ap h60 (Ig (Ao (c := si p.fId) s7 C7 rfl (Ig (A3 s7 (.here) rfl rfl fun H s61 => Aq s61 (.here) rfl (B8 (cs' := [si p.fType, bF, i0, bF, si p.fId, sE, .nl, sE, i0, bF, i0, bF, sE, .nl, i0, bF, bF, sE, bF, .nl, i0, bF, .nl, .nl, .nl]) s61 Cn (Ah rfl) rfl (Ca rfl) rfl fun H s62 => Aq s62 (.here) rfl ?_))))))
 have e : Aw true p = (⟨p.fType, false, 0, false, p.fId, ⟨#[]⟩, ⟨#[]⟩, ⟨#[]⟩, 0, false, 0, false, ⟨#[]⟩, ⟨#[]⟩, 0, false, false, ⟨#[]⟩, false, ⟨#[]⟩, 0, false, [], [], []⟩ : PacketV) := by
  simp only [Cs] at h8 h37 h44 h54 h57 h60
  simp [Aw, Dq, Dp, B3, h8, h37, h44, h54, h57, h60]
 rw [e] at hk
 exact hk _ _ (fun L' => (Gf (.cons .nl (Gf (.cons .nl (L8 (.cons .nl (Im (.cons .nl (.cons .nl (.cons .nl .nil))))))))))) s62.tail.tail.tail
 refine Au h60 (Ba (Aa ((decide (p.fType = 7))) (fun h63 => ?_) fun h63 => ?_))
 refine Ap h63 (Ap h63 (Ig (Ao (c := si p.fId) s7 C7 rfl (Ig (A3 s7 (.here) rfl rfl fun H s64 => Aq s64 (.here) rfl (B8 (cs' := [si p.fType, bF, i0, bF, si p.fId, sE, .nl, sE, i0, bF, i0, bF, sE, .nl, i0, bF, bF, sE, bF, .nl, i0, bF, .nl, .nl, .nl]) s64 Cn (Ah rfl) rfl (Ca rfl) rfl fun H s65 => Aq s65 (.here) rfl ?_))))))
 have e : Aw true p = (⟨p.fType, false, 0, false, p.fId, ⟨#[]⟩, ⟨#[]⟩, ⟨#[]⟩, 0, false, 0, false, ⟨#[]⟩, ⟨#[]⟩, 0, false, false, ⟨#[]⟩, false, ⟨#[]⟩, 0, false, [], [], []⟩ : PacketV) := by
  simp only [Cs] at h8 h37 h44 h54 h57 h60 h63
  simp [Aw, Dq, Dp, B3, h8, h37, h44, h54, h57, h60, h63]
 rw [e] at hk
 exact hk _ _ (fun L' => (Gf (.cons .nl (Gf (.cons .nl (L8 (.cons .nl (Im (.cons .nl (.cons .nl (.cons .nl .nil))))))))))) s65.tail.tail.tail
 refine Au h63 (Ba (Aa ((decide (p.fType = 11))) (fun h66 => ?_) fun h66 => ?_))
 refine Ap h66 (Ig (Ao (c := si p.fId) s7 C7 rfl (Ig (A3 s7 (.here) rfl rfl fun H s67 => Aq s67 (.here) rfl (B8 (cs' := [si p.fType, bF, i0, bF, si p.fId, sE, .nl, sE, i0, bF, i0, bF, sE, .nl, i0, bF, bF, sE, bF, .nl, i0, bF, .nl, .nl, .nl]) s67 Cn (Ah rfl) rfl (Ca rfl) rfl fun H s68 => Aq s68 (.here) rfl ?_)))))
 have e : Aw true p = (⟨p.fType, false, 0, false, p.fId, ⟨#[]⟩, ⟨#[]⟩, ⟨#[]⟩, 0, false, 0, false, ⟨#[]⟩, ⟨#[]⟩, 0, false, false, ⟨#[]⟩, false, ⟨#[]⟩, 0, false, [], [], []⟩ : PacketV) := by
  simp only [Cs] at h8 h37 h44 h54 h57 h60 h63 h66
  simp [Aw, Dq, Dp, B3, h8, h37, h44, h54, h57, h60, h63, h66]
 rw [e] at hk
 exact hk _ _ (fun L' => (Gf (.cons .nl (Gf (.cons .nl (L8 (.cons .nl (Im (.cons .nl (.cons .nl (.cons .nl .nil))))))))))) s68.tail.tail.tail
 refine Au h66 (Ba (Aa ((decide (p.fType = 8))) (fun h69 => ?_) fun h69 => ?_))
 refine Ap h69 (Ig (Ao (c := si p.fId) s7 C7 rfl (Ig (A3 s7 (.here) rfl rfl fun H s70 => Kf (Ao (c := Bt Bp p.fWants) s70 C7 rfl (Kf (A3 s70 (.here) rfl rfl fun H s71 => Aq s71 (.here) rfl (B8 (cs' := [si p.fType, bF, i0, bF, si p.fId, sE, .nl, sE, i0, bF, i0, bF, sE, .nl, i0, bF, bF, sE, bF, .nl, i0, bF, Bt Bp p.fWants, .nl, .nl]) s71 Cn (Ah rfl) rfl (Ca rfl) rfl fun H s72 => Aq s72 (.here) rfl ?_))))))))
 have e : Aw true p = (⟨p.fType, false, 0, false, p.fId, ⟨#[]⟩, ⟨#[]⟩, ⟨#[]⟩, 0, false, 0, false, ⟨#[]⟩, ⟨#[]⟩, 0, false, false, ⟨#[]⟩, false, ⟨#[]⟩, 0, false, p.fWants, [], []⟩ : PacketV) := by
  simp only [Cs] at h8 h37 h44 h54 h57 h60 h63 h66 h69
  simp [Aw, Dq, Dp, B3, h8, h37, h44, h54, h57, h60, h63, h66, h69]
 rw [e] at hk
 exact hk _ _ (fun L' => (Gf (.cons .nl (Gf (.cons .nl (L8 (.cons .nl (Im (.cons .ro (.cons .nl (.cons .nl .nil))))))))))) s72.tail.tail.tail
 refine Au h69 (Ba (Aa ((decide (p.fType = 9))) (fun h73 => ?_) fun h73 => ?_))
 refine Ap h73 (Ig (Ao (c := si p.fId) s7 C7 rfl (Ig (A3 s7 (.here) rfl rfl fun H s74 => Kn (Ao (c := D5 p.fCodes) s74 C7 rfl (Kn (A3 s74 (.here) rfl rfl fun H s75 => Aq s75 (.here) rfl (B8 (cs' := [si p.fType, bF, i0, bF, si p.fId, sE, .nl, sE, i0, bF, i0, bF, sE, .nl, i0, bF, bF, sE, bF, .nl, i0, bF, .nl, .nl, D5 p.fCodes]) s75 Cn (Ah rfl) rfl (Ca rfl) rfl fun H s76 => Aq s76 (.here) rfl ?_))))))))
 have e : Aw true p = (⟨p.fType, false, 0, false, p.fId, ⟨#[]⟩, ⟨#[]⟩, ⟨#[]⟩, 0, false, 0, false, ⟨#[]⟩, ⟨#[]⟩, 0, false, false, ⟨#[]⟩, false, ⟨#[]⟩, 0, false, [], [], p.fCodes⟩ : PacketV) := by
  simp only [Cs] at h8 h37 h44 h54 h57 h60 h63 h66 h69 h73
  simp [Aw, Dq, Dp, B3, h8, h37, h44, h54, h57, h60, h63, h66, h69, h73]
 rw [e] at hk
 exact hk _ _ (fun L' => (Gf (.cons .nl (Gf (.cons .nl (L8 (.cons .nl (Im (.cons .nl (.cons .nl (.cons .ro .nil))))))))))) s76.tail.tail.tail
 refine Au h73 (Ba (Aa ((decide (p.fType = 10))) (fun h77 => ?_) fun h77 => ?_))
 refine Ap h77 (Ig (Ao (c := si p.fId) s7 C7 rfl (Ig (A3 s7 (.here) rfl rfl fun H s78 => Km (Ao (c := D6 p.fNames) s78 C7 rfl (Km (A3 s78 (.here) rfl rfl fun H s79 => Aq s79 (.here) rfl (B8 (cs' := [si p.fType, bF, i0, bF, si p.fId, sE, .nl, sE, i0, bF, i0, bF, sE, .nl, i0, bF, bF, sE, bF, .nl, i0, bF, .nl, D6 p.fNames, .nl]) s79 Cn (Ah rfl) rfl (Ca rfl) rfl fun H s80 => Aq s80 (.here) rfl ?_))))))))
 have e : Aw true p = (⟨p.fType, false, 0, false, p.fId, ⟨#[]⟩, ⟨#[]⟩, ⟨#[]⟩, 0, false, 0, false, ⟨#[]⟩, ⟨#[]⟩, 0, false, false, ⟨#[]⟩, false, ⟨#[]⟩, 0, false, [], p.fNames, []⟩ : PacketV) := by
  simp only [Cs] at h8 h37 h44 h54 h57 h60 h63 h66 h69 h73 h77
  simp [Aw, Dq, Dp, B3, h8, h37, h44, h54, h57, h60, h63, h66, h69, h73, h77]
 rw [e] at hk
 exact hk _ _ (fun L' => (Gf (.cons .nl (Gf (.cons .nl (L8 (.cons .nl (Im (.cons .nl (.cons .ro (.cons .nl .nil))))))))))) s80.tail.tail.tail
 refine Au h77 (Aq s7 (.here) rfl (B8 (cs' := [si p.fType, bF, i0, bF, i0, sE, .nl, sE, i0, bF, i0, bF, sE, .nl, i0, bF, bF, sE, bF, .nl, i0, bF, .nl, .nl, .nl]) s7 Cn (Ah rfl) rfl (Ca rfl) rfl fun H s81 => Aq s81 (.here) rfl ?_))
 have e : Aw true p = (⟨p.fType, false, 0, false, 0, ⟨#[]⟩, ⟨#[]⟩, ⟨#[]⟩, 0, false, 0, false, ⟨#[]⟩, ⟨#[]⟩, 0, false, false, ⟨#[]⟩, false, ⟨#[]⟩, 0, false, [], [], []⟩ : PacketV) := by
  simp only [Cs] at h8 h37 h44 h54 h57 h60 h63 h66 h69 h73 h77
  simp [Aw, Dq, Dp, B3, h8, h37, h44, h54, h57, h60, h63, h66, h69, h73, h77]
 rw [e] at hk
 exact hk _ _ (fun L' => (Gf (.cons .nl (Gf (.cons .nl (L8 (.cons .nl (Im (.cons .nl (.cons .nl (.cons .nl .nil))))))))))) s81.tail.tail.tail
end
section
open Go
def Cf (w : WantV) : Bool := Bx w.fFilter && Bu w.fQos 0 2
def Cc (c : Int) : Bool := Bu c 0 2 || decide (c = 128)
def F8 (p : PacketV) : Bool := Bu (((p.fWants.length : Nat) : Int) + ((p.fNames.length : Nat) : Int) + ((p.fCodes.length : Nat) : Int)) 1 4
def Jj (p : PacketV) : Bool := p.fCodes.all Cc && F8 p
def Iv (p : PacketV) : Bool := p.fNames.all Bx && Jj p
def Ey (p : PacketV) : Bool := p.fWants.all Cf && Iv p
def Hj (p : PacketV) : Bool := (Bu p.fLevel 0 255 && (Bo p.fClient && (Bu p.fKeep 0 65535 && ((!p.fHasWill || (C3 p.fWTopic && (decide (((p.fWBody.size : Nat) : Int) ≤ 40) && Bu p.fWQos 0 2))) && (Bo p.fUser && decide (((p.fPass.size : Nat) : Int) ≤ 60))))))
def Cj (p : PacketV) : Bool :=
 if p.fType = 1 then Hj p
 else if p.fType = 2 then Bu p.fCode 0 5 && (!p.fPresent || decide (p.fCode = 0))
 else if p.fType = 3 then Bu p.fQos 0 2 && (C3 p.fTopic && (decide (((p.fBody.size : Nat) : Int) ≤ 40) && (decide (p.fQos = 0) || Bu p.fId 1 65535)))
 else if p.fType = 4 ∨ p.fType = 5 ∨ p.fType = 6 ∨ p.fType = 7 ∨ p.fType = 11 then Bu p.fId 1 65535
 else if p.fType = 8 ∨ p.fType = 9 ∨ p.fType = 10 then Bu p.fId 1 65535 && Ey p
 else true
def Am (p : PacketV) : Bool := Bu p.fType 1 14 && (Ce p (Aw false p) && Cj p)
structure G0 (p : PacketV) : Prop where
 t1 : p.fTopic.size ≤ 1048576
 t2 : p.fClient.size ≤ 1048576
 t3 : p.fWTopic.size ≤ 1048576
 t4 : p.fUser.size ≤ 1048576
 l1 : p.fWants.length ≤ 1048576
 l2 : p.fNames.length ≤ 1048576
 l3 : p.fCodes.length ≤ 1048576
 w1 : ∀ y ∈ p.fWants, y.fFilter.size ≤ 1048576
 w2 : ∀ y ∈ p.fNames, y.size ≤ 1048576
theorem Pp {s : ByteArray} (h : s.size ≤ 1048576) : okS s := by unfold okS; omega
theorem Hq (n : Nat) (i : Int) : C0 E0 (n + 2) 4 109 [.sc (.int .i64 i)] = some (.sc (.bool (Bu i 1 65535))) := by
 rw [A7, Aie, f109]
 refine Cm (G := (· = some (sb (Bu i 1 65535)))) ?_
 try simp only [Fa, E9]
 have s0 : Sep [] [] := Ch
 refine Ar (v := (.bool (Bu i 1 65535))) s0 rfl (P0 .nil) (Jk n _ i 1 65535) (Al rfl ?_)
 rfl
theorem R5 (n : Nat) (i : Int) : C0 E0 (n + 2) 4 107 [.sc (.int .i64 i)] = some (.sc (.bool (Bu i 0 2))) := by
 rw [A7, Aic, f107]
 refine Cm (G := (· = some (sb (Bu i 0 2)))) ?_
 try simp only [Fa, E9]
 have s0 : Sep [] [] := Ch
 refine Ar (v := (.bool (Bu i 0 2))) s0 rfl (P0 .nil) (Jk n _ i 0 2) (Al rfl ?_)
 rfl
theorem AgY (n : Nat) (i : Int) : C0 E0 (n + 2) 4 118 [.sc (.int .i64 i)] = some (.sc (.bool (Bu i 0 65535))) := by
 rw [A7, Ail, f118]
 refine Cm (G := (· = some (sb (Bu i 0 65535)))) ?_
 try simp only [Fa, E9]
 have s0 : Sep [] [] := Ch
 refine Ar (v := (.bool (Bu i 0 65535))) s0 rfl (P0 .nil) (Jk n _ i 0 65535) (Al rfl ?_)
 rfl
theorem Vd (n : Nat) (hn : 1048576 < n) (p : PacketV) (hp : G0 p) : C0 E0 (n + 6) 4 106 [.agg (An p)] = some (.sc (.bool (Hj p))) := by
 rw [A7, Aib, f106]
 refine Cm (G := (· = some (sb (Hj p)))) ?_
 try simp only [Fa, E9]
 have s0 : Sep [] [] := Ch
 refine Om s0 (Gw (Ct _)) fun i1 H s2 => Qp (Ao (c := sb p.fHasWill) s2 (.here) rfl (Cr ?_))
 apply Br ((!p.fHasWill) || (((C3 p.fWTopic) && (decide (((p.fWBody.size : Nat) : Int) ≤ 40))) && (Bu p.fWQos 0 2)))
 intro b3 q3
 refine Aa (p.fHasWill) (fun h3 => ?_) fun h3 => ?_
 refine Af (nF h3) (Wf (Af (nF h3) (Ao (c := ss p.fWTopic) s2 (.here) rfl (Af (nF h3) (Ar (v := (.bool (C3 p.fWTopic))) s2 rfl (.cons .sc .nil) (Ra n (by omega) _ p.fWTopic hp.t3) (Af (nF h3) ?_))))))
 apply Br ((C3 p.fWTopic) && (decide (((p.fWBody.size : Nat) : Int) ≤ 40)))
 intro b4 q4
 refine Aa ((C3 p.fWTopic)) (fun h4 => ?_) fun h4 => ?_
 exact Af h4 (Wg (Af h4 (Ao (c := Ad p.fWBody) s2 (.here) rfl (Af h4 (Cu (Af h4 (Pd (Af (nF h3) (Dc h4 (Fp q4 h4) A0)))))))))
 exact Ae h4 (Ae h4 (Ae h4 (Ae h4 (Af (nF h3) (Db h4 (Fo q4 h4) A0)))))
 intro b4 q4
 refine Af (nF h3) ?_
 apply Br (b4 && (Bu p.fWQos 0 2))
 intro b5 q5
 refine Aa (b4) (fun h5 => ?_) fun h5 => ?_
 exact Af h5 (Wh (Af h5 (Ao (c := si p.fWQos) s2 (.here) rfl (Af h5 (Ar (v := (.bool (Bu p.fWQos 0 2))) s2 rfl (.cons .sc .nil) (R5 (n + 3) p.fWQos) (Af (nF h3) (Dc h5 (Fp q5 h5) A0)))))))
 exact Ae h5 (Ae h5 (Ae h5 (Af (nF h3) (Db h5 (Fo q5 h5) A0))))
 intro b5 q5
 exact Db (nF h3) (by subst q5 q4; exact mOF q3 (nF h3)) A0
 exact Ae (nT h3) (Ae (nT h3) (Ae (nT h3) (Ae (nT h3) (Ef (Ef (Ef (Ef (Ae (nT h3) (Ae (nT h3) (Ef (Ef (Ef (Ae (nT h3) (Dc (nT h3) (mOT q3 (nT h3)) A0))))))))))))))
 intro b3 q3
 refine gf8 (Ao (c := si p.fLevel) s2 (.here) rfl (Ar (v := (.bool (Bu p.fLevel 0 255))) s2 rfl (P0 .nil) (Jk (n + 4) _ p.fLevel 0 255) ?_))
 apply Br ((Bu p.fLevel 0 255) && (Bo p.fClient))
 intro b6 q6
 refine Aa ((Bu p.fLevel 0 255)) (fun h6 => ?_) fun h6 => ?_
 exact Af h6 (gf7 (Af h6 (Ao (c := ss p.fClient) s2 (.here) rfl (Af h6 (Wc rfl rfl (M3 _ p.fClient (Pp hp.t2)) (Dc h6 (Fp q6 h6) A0))))))
 exact Ae h6 (Ae h6 (Ae h6 (Db h6 (Fo q6 h6) A0)))
 intro b6 q6
 apply Br (b6 && (Bu p.fKeep 0 65535))
 intro b7 q7
 refine Aa (b6) (fun h7 => ?_) fun h7 => ?_
 exact Af h7 (We (Af h7 (Ao (c := si p.fKeep) s2 (.here) rfl (Af h7 (Ar (v := (.bool (Bu p.fKeep 0 65535))) s2 rfl (.cons .sc .nil) (AgY (n + 3) p.fKeep) (Dc h7 (Fp q7 h7) A0))))))
 exact Ae h7 (Ae h7 (Ae h7 (Db h7 (Fo q7 h7) A0)))
 intro b7 q7
 apply Br (b7 && b3)
 intro b8 q8
 refine Aa (b7) (fun h8 => ?_) fun h8 => ?_
 exact Af h8 (Dc h8 (Fp q8 h8) A0)
 exact Ae h8 (Db h8 (Fo q8 h8) A0)
 intro b8 q8
 apply Br (b8 && (Bo p.fUser))
 intro b9 q9
 refine Aa (b8) (fun h9 => ?_) fun h9 => ?_
 exact Af h9 (Pg (Af h9 (Ao (c := ss p.fUser) s2 (.here) rfl (Af h9 (Wc rfl rfl (M3 _ p.fUser (Pp hp.t4)) (Dc h9 (Fp q9 h9) A0))))))
 exact Ae h9 (Ae h9 (Ae h9 (Db h9 (Fo q9 h9) A0)))
 intro b9 q9
 apply Br (b9 && (decide (((p.fPass.size : Nat) : Int) ≤ 60)))
 intro b10 q10
 refine Aa (b9) (fun h10 => ?_) fun h10 => ?_
 exact Af h10 (Ms (Af h10 (Ao (c := Ad p.fPass) s2 (.here) rfl (Af h10 (Cu (Af h10 (Pd (Dc h10 (Fp q10 h10) A0))))))))
 exact Ae h10 (Ae h10 (Ae h10 (Ae h10 (Db h10 (Fo q10 h10) A0))))
 intro b10 q10
 refine Al rfl ?_
 have e : Hj p = b10 := by
  unfold Hj
  simp only [q3, q6, q7, q8, q9, q10, Bool.and_assoc]
 rw [e]
theorem Pm (n : Nat) (hn : 1048576 < n) (p : PacketV) (hp : G0 p)   : ∀ (t pre : List Int) (m : Nat) (i : Int) (i1 : Nat) (H : Ab), p.fCodes = pre ++ t → i = ((pre.length : Nat) : Int) → t.length < m → Sep H [.blk i1 (An p) true] → Gd (· = some (.sc (.bool (t.all Cc && F8 p)))) (Nw (PR (n + 6) AV) (n + 6) (fun x H => A8 As E0.tp 4 H x) m (.ptr i1 0) (D5 p.fCodes) (.sc (.int .i64 ((p.fCodes.length : Nat) : Int))) (.sc (.int .i64 i)) H)
 | [], pre, m + 1, i, i1, H, he, hi, hm, s0 => by
  obtain rfl : pre = p.fCodes := by simpa using he.symm
  have hl1 := hp.l1
  have hl2 := hp.l2
  have hl3 := hp.l3
  have hlen := hp.l3
  rw [Nw]
  try simp only [Fa, E9]
  refine Di (Au (by simp [hi]) (Kf (Ao (c := Bt Bp p.fWants) s0 (.here) rfl (Cu (Km (Ao (c := D6 p.fNames) s0 (.here) rfl (Cu (Bw (by omega) (by omega) (Kn (Ao (c := D5 p.fCodes) s0 (.here) rfl (Cu (Bw (by omega) (by omega) (Ar (v := (.bool (Bu ((((p.fWants.length : Nat) : Int) + ((p.fNames.length : Nat) : Int)) + ((p.fCodes.length : Nat) : Int)) 1 4))) s0 rfl (P0 .nil) (Jk (n + 5) _ ((((p.fWants.length : Nat) : Int) + ((p.fNames.length : Nat) : Int)) + ((p.fCodes.length : Nat) : Int)) 1 4) (Al rfl ?_))))))))))))))
  have e : ([].all Cc && F8 p) = (Bu ((((p.fWants.length : Nat) : Int) + ((p.fNames.length : Nat) : Int)) + ((p.fCodes.length : Nat) : Int)) 1 4) := by
   simp only [zax, zaH, Cf, Cc, F8, D9]
  rw [e]
 | y :: t, pre, m + 1, i, i1, H, he, hi, hm, s0 => by
  have hlt : pre.length < p.fCodes.length := by rw [he]; simp
  have hl1 := hp.l1
  have hl2 := hp.l2
  have hl3 := hp.l3
  have hlen := hp.l3
  rw [Nw]
  try simp only [Fa, E9]
  refine Di (Ap (by simp [hi]; omega) (J4 hi he (E5 (c := .sc (.int .i64 y)) rfl (Ar (v := (.bool (Bu y 0 2))) s0 rfl (.cons .sc .nil) (R5 (n + 4) y) (Cr (Aa ((Bu y 0 2)) (fun h201 => ?_) fun h201 => ?_))))))
  refine Ae (nF h201) (Ae (nF h201) (E1 (nF h201) (Au rfl (Bw (by omega) (by omega) ?_))))
  have e202 : ((y :: t).all Cc && F8 p) = (t.all Cc && F8 p) := by
   simp only [zax, Cf, Cc, h201, zaK, zbt, zaN, zb1, zbE, zbJ, zaV, za0, za2]
  rw [e202]
  exact Pm n hn p hp   t (pre ++ [y]) m _ i1 _ (by rw [he]; simp) (by rw [hi]; simp) (by simpa using hm) (by simpa only [za3, zaq, zaB] using (s0.sel (.cons (.here) .nil)))
  refine Af (nT h201) (Af (nT h201) (Ks (E2 (nT h201) (Aa ((decide (y = 128))) (fun h203 => ?_) fun h203 => ?_))))
  refine Au (nF h203) (Bw (by omega) (by omega) ?_)
  have e204 : ((y :: t).all Cc && F8 p) = (t.all Cc && F8 p) := by
   simp only [zax, Cf, Cc, h201, h203, zaK, zbt, zaN, zb1, zbE, zbJ, zaV, za0, za2]
  rw [e204]
  exact Pm n hn p hp   t (pre ++ [y]) m _ i1 _ (by rw [he]; simp) (by rw [hi]; simp) (by simpa using hm) (by simpa only [za3, zaq, zaB] using (s0.sel (.cons (.here) .nil)))
  refine Ap (nT h203) (Al rfl ?_)
  have e : ((y :: t).all Cc && F8 p) = false := by
   simp only [zax, zaH, Cf, Cc, F8, h201, h203, D9]
  rw [e]
theorem T8 (n : Nat) (hn : 1048576 < n) (p : PacketV) (hp : G0 p)   : ∀ (t pre : List ByteArray) (m : Nat) (i : Int) (i1 : Nat) (H : Ab), p.fNames = pre ++ t → i = ((pre.length : Nat) : Int) → t.length < m → Sep H [.blk i1 (An p) true] → Gd (· = some (.sc (.bool (t.all Bx && Jj p)))) (K0 (PR (n + 6) AV) (n + 6) (fun x H => A8 As E0.tp 4 H x) m (.ptr i1 0) (D6 p.fNames) (.sc (.int .i64 ((p.fNames.length : Nat) : Int))) (.sc (.int .i64 i)) H)
 | [], pre, m + 1, i, i1, H, he, hi, hm, s0 => by
  obtain rfl : pre = p.fNames := by simpa using he.symm
  have hl1 := hp.l1
  have hl2 := hp.l2
  have hl3 := hp.l3
  have hlen := hp.l2
  rw [K0]
  try simp only [Fa, E9]
  refine Di (Au (by simp [hi]) (Kn (Ao (c := D5 p.fCodes) s0 (.here) rfl (Cu ?_))))
  rw [zaH, zaK]
  have hv : Jj p = (p.fCodes.all Cc && F8 p) := rfl
  rw [hv]
  exact Pm n hn p hp   p.fCodes [] _ 0 i1 _ rfl rfl (by omega) s0
 | y :: t, pre, m + 1, i, i1, H, he, hi, hm, s0 => by
  have hlt : pre.length < p.fNames.length := by rw [he]; simp
  have hl1 := hp.l1
  have hl2 := hp.l2
  have hl3 := hp.l3
  have hlen := hp.l2
  rw [K0]
  try simp only [Fa, E9]
  refine Di (Ap (by simp [hi]; omega) (Ng hi he (E5 (c := .sc (.string y)) rfl (Ar (v := (.bool (Bx y))) s0 rfl (.cons .sc .nil) (T3 n (by omega) y (hp.w2 y (by rw [he]; simp)) (Pp (hp.w2 y (by rw [he]; simp)))) (Cr (Aa ((Bx y)) (fun h201 => ?_) fun h201 => ?_))))))
  refine Au (nF h201) (Bw (by omega) (by omega) ?_)
  have e202 : ((y :: t).all Bx && Jj p) = (t.all Bx && Jj p) := by
   simp only [zax, Cf, Cc, h201, zaK, zbt, zaN, zb1, zbE, zbJ, zaV, za0, za2]
  rw [e202]
  exact T8 n hn p hp   t (pre ++ [y]) m _ i1 _ (by rw [he]; simp) (by rw [hi]; simp) (by simpa using hm) (by simpa only [za3, zaq, zaB] using (s0.sel (.cons (.here) .nil)))
  refine Ap (nT h201) (Al rfl ?_)
  have e : ((y :: t).all Bx && Jj p) = false := by
   simp only [zax, zaH, Cf, Cc, F8, h201, D9]
  rw [e]
theorem T7 (n : Nat) (hn : 1048576 < n) (p : PacketV) (hp : G0 p)   : ∀ (t pre : List WantV) (m : Nat) (i : Int) (i1 : Nat) (H : Ab), p.fWants = pre ++ t → i = ((pre.length : Nat) : Int) → t.length < m → Sep H [.blk i1 (An p) true] → Gd (· = some (.sc (.bool (t.all Cf && Iv p)))) (Kz (PR (n + 6) AV) (n + 6) (fun x H => A8 As E0.tp 4 H x) m (.ptr i1 0) (Bt Bp p.fWants) (.sc (.int .i64 ((p.fWants.length : Nat) : Int))) (.sc (.int .i64 i)) H)
 | [], pre, m + 1, i, i1, H, he, hi, hm, s0 => by
  obtain rfl : pre = p.fWants := by simpa using he.symm
  have hl1 := hp.l1
  have hl2 := hp.l2
  have hl3 := hp.l3
  have hlen := hp.l1
  rw [Kz]
  try simp only [Fa, E9]
  refine Di (Au (by simp [hi]) (Km (Ao (c := D6 p.fNames) s0 (.here) rfl (Cu ?_))))
  rw [zaH, zaK]
  have hv : Iv p = (p.fNames.all Bx && Jj p) := rfl
  rw [hv]
  exact T8 n hn p hp   p.fNames [] _ 0 i1 _ rfl rfl (by omega) s0
 | y :: t, pre, m + 1, i, i1, H, he, hi, hm, s0 => by
  have hlt : pre.length < p.fWants.length := by rw [he]; simp
  have hl1 := hp.l1
  have hl2 := hp.l2
  have hl3 := hp.l3
  have hlen := hp.l1
  rw [Kz]
  try simp only [Fa, E9]
  refine Di (Ap (by simp [hi]; omega) (Mr hi F5 (by decide) he (Aky (F5 _) (Ie s0 fun i201 H s202 => B8 (cs' := Bp y) s202 (.here) (Gw (V8 _)) rfl (Ca rfl) rfl fun H s203 => Nl (Ao (c := .sc (.string y.fFilter)) s203 (.here) rfl (Ar (v := (.bool (Bx y.fFilter))) s203 rfl (.cons .sc .nil) (T3 n (by omega) y.fFilter (hp.w1 y (by rw [he]; simp)) (Pp (hp.w1 y (by rw [he]; simp)))) (Cr (Aa ((Bx y.fFilter)) (fun h204 => ?_) fun h204 => ?_))))))))
  refine Af (nF h204) (Wd (Af (nF h204) (Ao (c := si y.fQos) s203 (.here) rfl (Af (nF h204) (Ar (v := (.bool (Bu y.fQos 0 2))) s203 rfl (.cons .sc .nil) (R5 (n + 4) y.fQos) (Af (nF h204) (Cr (E1 (nF h204) (Aa ((Bu y.fQos 0 2)) (fun h205 => ?_) fun h205 => ?_)))))))))
  refine Au (nF h205) (Bw (by omega) (by omega) ?_)
  have e206 : ((y :: t).all Cf && Iv p) = (t.all Cf && Iv p) := by
   simp only [zax, Cf, Cc, h204, h205, zaK, zbt, zaN, zb1, zbE, zbJ, zaV, za0, za2]
  rw [e206]
  exact T7 n hn p hp   t (pre ++ [y]) m _ i1 _ (by rw [he]; simp) (by rw [hi]; simp) (by simpa using hm) (by simpa only [za3, zaq, zaB] using (s203.sel (.cons Cn .nil)))
  refine Ap (nT h205) (Al rfl ?_)
  have e : ((y :: t).all Cf && Iv p) = false := by
   simp only [zax, zaH, Cf, Cc, F8, h204, h205, D9]
  rw [e]
  refine Ae (nT h204) (Ae (nT h204) (Ae (nT h204) (Ae (nT h204) (E2 (nT h204) (Ap rfl (Al rfl ?_))))))
  have e : ((y :: t).all Cf && Iv p) = false := by
   simp only [zax, zaH, Cf, Cc, F8, h204, D9]
  rw [e]
theorem M8 (n : Nat) (hn : 1048576 < n) (p : PacketV) (hp : G0 p) : C0 E0 (n + 7) 4 110 [.agg (An p)] = some (.sc (.bool (Ey p))) := by
 rw [A7, Aif, f110]
 refine Cm (G := (· = some (sb (Ey p)))) ?_
 have hl1 := hp.l1
 have hl2 := hp.l2
 have hl3 := hp.l3
 try simp only [Fa, E9]
 have s0 : Sep [] [] := Ch
 refine Om s0 (Gw (Ct _)) fun i1 H s2 => Kf (Ao (c := Bt Bp p.fWants) s2 (.here) rfl (Cu ?_))
 have hv : Ey p = (p.fWants.all Cf && Iv p) := rfl
 rw [hv]
 exact T7 n hn p hp   p.fWants [] _ 0 i1 _ rfl rfl (by omega) s2
theorem S7 (n : Nat) (hn : 1048576 < n) (p : PacketV) (hp : G0 p) : C0 E0 (n + 10) 4 70 [.agg (An p)] = some (.sc (.bool (Am p))) := by
 rw [A7, Alt, f70]
 refine Cm (G := (· = some (sb (Am p)))) ?_
 try simp only [Fa, E9]
 have s0 : Sep [] [] := Ch
 refine Om s0 (Gw (Ct _)) fun i1 H s2 => Nl (Ao (c := si p.fType) s2 (.here) rfl (Ar (v := (.bool (Bu p.fType 1 14))) s2 rfl (P0 .nil) (Jk (n + 8) _ p.fType 1 14) (Cr (Aa ((Bu p.fType 1 14)) (fun h3 => ?_) fun h3 => ?_))))
 refine Af (nF h3) (Aq s2 (.here) rfl (Gd.bothE ?_ ?_))
 refine Af (nF h3) (Aq s2 (.here) rfl (Af (nF h3) (Jw rfl rfl (Wl (n + 8) (by omega) p s2 fun Rs4 H hRs4 s4 => Af (nF h3) (Ar (v := (.bool (Ce p (Aw false p)))) s4 rfl (.aggF (Ct _) (.agg (hRs4 _) .nil)) (On (n + 7) (by omega) _ p (Aw false p) hp.l1 hp.l2 hp.l3) (Af (nF h3) (Cr (E1 (nF h3) (Aa ((Ce p (Aw false p))) (fun h5 => ?_) fun h5 => ?_)))))))))
 refine Au (nF h5) (Nl (Ao (c := si p.fType) s4 (.here) rfl (Ba (Aa ((decide (p.fType = 1))) (fun h6 => ?_) fun h6 => ?_))))
 refine Ap h6 (Aq s4 (.here) rfl (Ar (v := (.bool (Hj p))) s4 rfl (.aggF (Ct _) .nil) (Vd (n + 3) (by omega) p hp) (Al rfl ?_)))
 have e : Am p = (Hj p) := by
  try simp only [Cs] at h6
  unfold Am Cj
  simp only [h3, h5, D9]; simp [h6]
 rw [e]
 refine Au h6 (Ba (Aa ((decide (p.fType = 2))) (fun h7 => ?_) fun h7 => ?_))
 refine Ap h7 (Q9 (Ao (c := si p.fCode) s4 (.here) rfl (Ar (v := (.bool (Bu p.fCode 0 5))) s4 rfl (P0 .nil) (Jk (n + 8) _ p.fCode 0 5) ?_)))
 apply Br ((Bu p.fCode 0 5) && ((!p.fPresent) || (decide (p.fCode = 0))))
 intro b8 q8
 refine Aa ((Bu p.fCode 0 5)) (fun h8 => ?_) fun h8 => ?_
 refine Af h8 (Wi (Af h8 (Ao (c := sb p.fPresent) s4 (.here) rfl (Af h8 (Cr (Af h8 ?_))))))
 apply Br ((!p.fPresent) || (decide (p.fCode = 0)))
 intro b9 q9
 refine Aa (p.fPresent) (fun h9 => ?_) fun h9 => ?_
 exact Af (nF h9) (Q9 (Af (nF h9) (Ao (c := si p.fCode) s4 (.here) rfl (Af (nF h9) (Ba (Af h8 (Db (nF h9) (mOF q9 (nF h9)) A0)))))))
 exact Ae (nT h9) (Ae (nT h9) (Ae (nT h9) (Af h8 (Dc (nT h9) (mOT q9 (nT h9)) A0))))
 intro b9 q9
 exact Dc h8 (by subst q9; exact Fp q8 h8) A0
 exact Ae h8 (Ae h8 (Ae h8 (Ae h8 (Ef (Ef (Ef (Ae h8 (Db h8 (Fo q8 h8) A0))))))))
 intro b8 q8
 refine Al rfl ?_
 have e : Am p = b8 := by
  try simp only [Cs] at h6 h7
  unfold Am Cj
  simp only [h3, h5, q8, D9]; simp [h6, h7]
 rw [e]
 refine Au h7 (Ba (Aa ((decide (p.fType = 3))) (fun h10 => ?_) fun h10 => ?_))
 refine Ap h10 (Ox (Ao (c := si p.fQos) s4 (.here) rfl (Ar (v := (.bool (Bu p.fQos 0 2))) s4 rfl (.cons .sc .nil) (R5 (n + 7) p.fQos) ?_)))
 apply Br ((Bu p.fQos 0 2) && (C3 p.fTopic))
 intro b11 q11
 refine Aa ((Bu p.fQos 0 2)) (fun h11 => ?_) fun h11 => ?_
 exact Af h11 (gf5 (Af h11 (Ao (c := ss p.fTopic) s4 (.here) rfl (Af h11 (Ar (v := (.bool (C3 p.fTopic))) s4 rfl (.cons .sc .nil) (Ra (n + 4) (by omega) _ p.fTopic hp.t1) (Dc h11 (Fp q11 h11) A0))))))
 exact Ae h11 (Ae h11 (Ae h11 (Db h11 (Fo q11 h11) A0)))
 intro b11 q11
 apply Br (b11 && (decide (((p.fBody.size : Nat) : Int) ≤ 40)))
 intro b12 q12
 refine Aa (b11) (fun h12 => ?_) fun h12 => ?_
 exact Af h12 (gf6 (Af h12 (Ao (c := Ad p.fBody) s4 (.here) rfl (Af h12 (Cu (Af h12 (Pd (Dc h12 (Fp q12 h12) A0))))))))
 exact Ae h12 (Ae h12 (Ae h12 (Ae h12 (Db h12 (Fo q12 h12) A0))))
 intro b12 q12
 apply Br (b12 && ((decide (p.fQos = 0)) || (Bu p.fId 1 65535)))
 intro b13 q13
 refine Aa (b12) (fun h13 => ?_) fun h13 => ?_
 refine Af h13 (Ox (Af h13 (Ao (c := si p.fQos) s4 (.here) rfl (Af h13 (Ba (Af h13 ?_))))))
 apply Br ((decide (p.fQos = 0)) || (Bu p.fId 1 65535))
 intro b14 q14
 refine Aa ((decide (p.fQos = 0))) (fun h14 => ?_) fun h14 => ?_
 exact Ae h14 (Ae h14 (Ae h14 (Af h13 (Dc h14 (mOT q14 h14) A0))))
 exact Af h14 (Ig (Af h14 (Ao (c := si p.fId) s4 (.here) rfl (Af h14 (Ar (v := (.bool (Bu p.fId 1 65535))) s4 rfl (.cons .sc .nil) (Hq (n + 7) p.fId) (Af h13 (Db h14 (mOF q14 h14) A0)))))))
 intro b14 q14
 exact Dc h13 (by subst q14; exact Fp q13 h13) A0
 exact Ae h13 (Ae h13 (Ae h13 (Ae h13 (Ef (Ef (Ef (Ae h13 (Db h13 (Fo q13 h13) A0))))))))
 intro b13 q13
 refine Al rfl ?_
 have e : Am p = b13 := by
  try simp only [Cs] at h6 h7 h10
  unfold Am Cj
  (simp only [h3, h5, D9]; grind)
 rw [e]
 refine Au h10 (Ba (C8 (Aa ((decide (p.fType = 4))) (fun h15 => ?_) fun h15 => ?_)))
 refine Ap h15 (Ap h15 (Ig (Ao (c := si p.fId) s4 (.here) rfl (Ar (v := (.bool (Bu p.fId 1 65535))) s4 rfl (.cons .sc .nil) (Hq (n + 7) p.fId) (Al rfl ?_)))))
 have e : Am p = (Bu p.fId 1 65535) := by
  try simp only [Cs] at h6 h7 h10 h15
  unfold Am Cj
  simp only [h3, h5, D9]; simp [h6, h7, h10, h15]
 rw [e]
 refine Au h15 (Ba (Aa ((decide (p.fType = 5))) (fun h16 => ?_) fun h16 => ?_))
 refine Ap h16 (Ap h16 (Ig (Ao (c := si p.fId) s4 (.here) rfl (Ar (v := (.bool (Bu p.fId 1 65535))) s4 rfl (.cons .sc .nil) (Hq (n + 7) p.fId) (Al rfl ?_)))))
 have e : Am p = (Bu p.fId 1 65535) := by
  try simp only [Cs] at h6 h7 h10 h15 h16
  unfold Am Cj
  simp only [h3, h5, D9]; simp [h6, h7, h10, h15, h16]
 rw [e]
 refine Au h16 (Ba (Aa ((decide (p.fType = 6))) (fun h17 => ?_) fun h17 => ?_))
 refine Ap h17 (Ap h17 (Ig (Ao (c := si p.fId) s4 (.here) rfl (Ar (v := (.bool (Bu p.fId 1 65535))) s4 rfl (.cons .sc .nil) (Hq (n + 7) p.fId) (Al rfl ?_)))))
 have e : Am p = (Bu p.fId 1 65535) := by
  try simp only [Cs] at h6 h7 h10 h15 h16 h17
  unfold Am Cj
  simp only [h3, h5, D9]; simp [h6, h7, h10, h15, h16, h17]
 rw [e]
 refine Au h17 (Ba (Aa ((decide (p.fType = 7))) (fun h18 => ?_) fun h18 => ?_))
 refine Ap h18 (Ap h18 (Ig (Ao (c := si p.fId) s4 (.here) rfl (Ar (v := (.bool (Bu p.fId 1 65535))) s4 rfl (.cons .sc .nil) (Hq (n + 7) p.fId) (Al rfl ?_)))))
 have e : Am p = (Bu p.fId 1 65535) := by
  try simp only [Cs] at h6 h7 h10 h15 h16 h17 h18
  unfold Am Cj
  simp only [h3, h5, D9]; simp [h6, h7, h10, h15, h16, h17, h18]
 rw [e]
 refine Au h18 (Ba (Aa ((decide (p.fType = 11))) (fun h19 => ?_) fun h19 => ?_))
 refine Ap h19 (Ig (Ao (c := si p.fId) s4 (.here) rfl (Ar (v := (.bool (Bu p.fId 1 65535))) s4 rfl (.cons .sc .nil) (Hq (n + 7) p.fId) (Al rfl ?_))))
 have e : Am p = (Bu p.fId 1 65535) := by
  try simp only [Cs] at h6 h7 h10 h15 h16 h17 h18 h19
  unfold Am Cj
  simp only [h3, h5, D9]; simp [h6, h7, h10, h15, h16, h17, h18, h19]
 rw [e]
 refine Au h19 (Ba (C8 (Aa ((decide (p.fType = 8))) (fun h20 => ?_) fun h20 => ?_)))
 refine Ap h20 (Ap h20 (Ig (Ao (c := si p.fId) s4 (.here) rfl (Ar (v := (.bool (Bu p.fId 1 65535))) s4 rfl (.cons .sc .nil) (Hq (n + 7) p.fId) ?_))))
 apply Br ((Bu p.fId 1 65535) && (Ey p))
 intro b21 q21
 refine Aa ((Bu p.fId 1 65535)) (fun h21 => ?_) fun h21 => ?_
 exact Af h21 (Aq s4 (.here) rfl (Af h21 (Ar (v := (.bool (Ey p))) s4 rfl (.aggF (Ct _) .nil) (M8 (n + 2) (by omega) p hp) (Dc h21 (Fp q21 h21) A0))))
 exact Ae h21 (Ae h21 (Db h21 (Fo q21 h21) A0))
 intro b21 q21
 refine Al rfl ?_
 have e : Am p = b21 := by
  try simp only [Cs] at h6 h7 h10 h15 h16 h17 h18 h19 h20
  unfold Am Cj
  simp only [h3, h5, q21, D9]; simp [h6, h7, h10, h15, h16, h17, h18, h19, h20]
 rw [e]
 refine Au h20 (Ba (Aa ((decide (p.fType = 9))) (fun h22 => ?_) fun h22 => ?_))
 refine Ap h22 (Ap h22 (Ig (Ao (c := si p.fId) s4 (.here) rfl (Ar (v := (.bool (Bu p.fId 1 65535))) s4 rfl (.cons .sc .nil) (Hq (n + 7) p.fId) ?_))))
 apply Br ((Bu p.fId 1 65535) && (Ey p))
 intro b23 q23
 refine Aa ((Bu p.fId 1 65535)) (fun h23 => ?_) fun h23 => ?_
 exact Af h23 (Aq s4 (.here) rfl (Af h23 (Ar (v := (.bool (Ey p))) s4 rfl (.aggF (Ct _) .nil) (M8 (n + 2) (by omega) p hp) (Dc h23 (Fp q23 h23) A0))))
 exact Ae h23 (Ae h23 (Db h23 (Fo q23 h23) A0))
 intro b23 q23
 refine Al rfl ?_
 have e : Am p = b23 := by
  try simp only [Cs] at h6 h7 h10 h15 h16 h17 h18 h19 h20 h22
  unfold Am Cj
  simp only [h3, h5, q23, D9]; simp [h6, h7, h10, h15, h16, h17, h18, h19, h20, h22]
 rw [e]
 refine Au h22 (Ba (Aa ((decide (p.fType = 10))) (fun h24 => ?_) fun h24 => ?_))
 refine Ap h24 (Ig (Ao (c := si p.fId) s4 (.here) rfl (Ar (v := (.bool (Bu p.fId 1 65535))) s4 rfl (.cons .sc .nil) (Hq (n + 7) p.fId) ?_)))
 apply Br ((Bu p.fId 1 65535) && (Ey p))
 intro b25 q25
 refine Aa ((Bu p.fId 1 65535)) (fun h25 => ?_) fun h25 => ?_
 exact Af h25 (Aq s4 (.here) rfl (Af h25 (Ar (v := (.bool (Ey p))) s4 rfl (.aggF (Ct _) .nil) (M8 (n + 2) (by omega) p hp) (Dc h25 (Fp q25 h25) A0))))
 exact Ae h25 (Ae h25 (Db h25 (Fo q25 h25) A0))
 intro b25 q25
 refine Al rfl ?_
 have e : Am p = b25 := by
  try simp only [Cs] at h6 h7 h10 h15 h16 h17 h18 h19 h20 h22 h24
  unfold Am Cj
  simp only [h3, h5, q25, D9]; simp [h6, h7, h10, h15, h16, h17, h18, h19, h20, h22, h24]
 rw [e]
 refine Au h24 (Al rfl ?_)
 have e : Am p = true := by
  try simp only [Cs] at h6 h7 h10 h15 h16 h17 h18 h19 h20 h22 h24
  unfold Am Cj
  simp only [h3, h5, D9]; simp [h6, h7, h10, h15, h16, h17, h18, h19, h20, h22, h24]
 rw [e]
 refine Ap (nT h5) (Al rfl ?_)
 have e : Am p = false := by
  unfold Am Cj
  simp only [h3, h5, D9]
 rw [e]
 refine Af (nF h3) (Jw rfl rfl (Wl (n + 8) (by omega) p s2 fun Rs26 H hRs26 s26 => Af (nF h3) (Aq s26 (.here) rfl (Af (nF h3) (Ar (v := (.bool (Ce p (Aw false p)))) s26 rfl (.aggF (Ct _) (.agg (hRs26 _) .nil)) (On (n + 7) (by omega) _ p (Aw false p) hp.l1 hp.l2 hp.l3) (Af (nF h3) (Cr (E1 (nF h3) (Aa ((Ce p (Aw false p))) (fun h27 => ?_) fun h27 => ?_)))))))))
 refine Au (nF h27) (Nl (Ao (c := si p.fType) s26 (.here) rfl (Ba (Aa ((decide (p.fType = 1))) (fun h28 => ?_) fun h28 => ?_))))
 refine Ap h28 (Aq s26 (.here) rfl (Ar (v := (.bool (Hj p))) s26 rfl (.aggF (Ct _) .nil) (Vd (n + 3) (by omega) p hp) (Al rfl ?_)))
 have e : Am p = (Hj p) := by
  try simp only [Cs] at h28
  unfold Am Cj
  simp only [h3, h27, D9]; simp [h28]
 rw [e]
 refine Au h28 (Ba (Aa ((decide (p.fType = 2))) (fun h29 => ?_) fun h29 => ?_))
 refine Ap h29 (Q9 (Ao (c := si p.fCode) s26 (.here) rfl (Ar (v := (.bool (Bu p.fCode 0 5))) s26 rfl (P0 .nil) (Jk (n + 8) _ p.fCode 0 5) ?_)))
 apply Br ((Bu p.fCode 0 5) && ((!p.fPresent) || (decide (p.fCode = 0))))
 intro b30 q30
 refine Aa ((Bu p.fCode 0 5)) (fun h30 => ?_) fun h30 => ?_
 refine Af h30 (Wi (Af h30 (Ao (c := sb p.fPresent) s26 (.here) rfl (Af h30 (Cr (Af h30 ?_))))))
 apply Br ((!p.fPresent) || (decide (p.fCode = 0)))
 intro b31 q31
 refine Aa (p.fPresent) (fun h31 => ?_) fun h31 => ?_
 exact Af (nF h31) (Q9 (Af (nF h31) (Ao (c := si p.fCode) s26 (.here) rfl (Af (nF h31) (Ba (Af h30 (Db (nF h31) (mOF q31 (nF h31)) A0)))))))
 exact Ae (nT h31) (Ae (nT h31) (Ae (nT h31) (Af h30 (Dc (nT h31) (mOT q31 (nT h31)) A0))))
 intro b31 q31
 exact Dc h30 (by subst q31; exact Fp q30 h30) A0
 exact Ae h30 (Ae h30 (Ae h30 (Ae h30 (Ef (Ef (Ef (Ae h30 (Db h30 (Fo q30 h30) A0))))))))
 intro b30 q30
 refine Al rfl ?_
 have e : Am p = b30 := by
  try simp only [Cs] at h28 h29
  unfold Am Cj
  simp only [h3, h27, q30, D9]; simp [h28, h29]
 rw [e]
 refine Au h29 (Ba (Aa ((decide (p.fType = 3))) (fun h32 => ?_) fun h32 => ?_))
 refine Ap h32 (Ox (Ao (c := si p.fQos) s26 (.here) rfl (Ar (v := (.bool (Bu p.fQos 0 2))) s26 rfl (.cons .sc .nil) (R5 (n + 7) p.fQos) ?_)))
 apply Br ((Bu p.fQos 0 2) && (C3 p.fTopic))
 intro b33 q33
 refine Aa ((Bu p.fQos 0 2)) (fun h33 => ?_) fun h33 => ?_
 exact Af h33 (gf5 (Af h33 (Ao (c := ss p.fTopic) s26 (.here) rfl (Af h33 (Ar (v := (.bool (C3 p.fTopic))) s26 rfl (.cons .sc .nil) (Ra (n + 4) (by omega) _ p.fTopic hp.t1) (Dc h33 (Fp q33 h33) A0))))))
 exact Ae h33 (Ae h33 (Ae h33 (Db h33 (Fo q33 h33) A0)))
 intro b33 q33
 apply Br (b33 && (decide (((p.fBody.size : Nat) : Int) ≤ 40)))
 intro b34 q34
 refine Aa (b33) (fun h34 => ?_) fun h34 => ?_
 exact Af h34 (gf6 (Af h34 (Ao (c := Ad p.fBody) s26 (.here) rfl (Af h34 (Cu (Af h34 (Pd (Dc h34 (Fp q34 h34) A0))))))))
 exact Ae h34 (Ae h34 (Ae h34 (Ae h34 (Db h34 (Fo q34 h34) A0))))
 intro b34 q34
 apply Br (b34 && ((decide (p.fQos = 0)) || (Bu p.fId 1 65535)))
 intro b35 q35
 refine Aa (b34) (fun h35 => ?_) fun h35 => ?_
 refine Af h35 (Ox (Af h35 (Ao (c := si p.fQos) s26 (.here) rfl (Af h35 (Ba (Af h35 ?_))))))
 apply Br ((decide (p.fQos = 0)) || (Bu p.fId 1 65535))
 intro b36 q36
 refine Aa ((decide (p.fQos = 0))) (fun h36 => ?_) fun h36 => ?_
 exact Ae h36 (Ae h36 (Ae h36 (Af h35 (Dc h36 (mOT q36 h36) A0))))
 exact Af h36 (Ig (Af h36 (Ao (c := si p.fId) s26 (.here) rfl (Af h36 (Ar (v := (.bool (Bu p.fId 1 65535))) s26 rfl (.cons .sc .nil) (Hq (n + 7) p.fId) (Af h35 (Db h36 (mOF q36 h36) A0)))))))
 intro b36 q36
 exact Dc h35 (by subst q36; exact Fp q35 h35) A0
 exact Ae h35 (Ae h35 (Ae h35 (Ae h35 (Ef (Ef (Ef (Ae h35 (Db h35 (Fo q35 h35) A0))))))))
 intro b35 q35
 refine Al rfl ?_
 have e : Am p = b35 := by
  try simp only [Cs] at h28 h29 h32
  unfold Am Cj
  (simp only [h3, h27, D9]; grind)
 rw [e]
 refine Au h32 (Ba (C8 (Aa ((decide (p.fType = 4))) (fun h37 => ?_) fun h37 => ?_)))
 refine Ap h37 (Ap h37 (Ig (Ao (c := si p.fId) s26 (.here) rfl (Ar (v := (.bool (Bu p.fId 1 65535))) s26 rfl (.cons .sc .nil) (Hq (n + 7) p.fId) (Al rfl ?_)))))
 have e : Am p = (Bu p.fId 1 65535) := by
  try simp only [Cs] at h28 h29 h32 h37
  unfold Am Cj
  simp only [h3, h27, D9]; simp [h28, h29, h32, h37]
 rw [e]
 refine Au h37 (Ba (Aa ((decide (p.fType = 5))) (fun h38 => ?_) fun h38 => ?_))
 refine Ap h38 (Ap h38 (Ig (Ao (c := si p.fId) s26 (.here) rfl (Ar (v := (.bool (Bu p.fId 1 65535))) s26 rfl (.cons .sc .nil) (Hq (n + 7) p.fId) (Al rfl ?_)))))
 have e : Am p = (Bu p.fId 1 65535) := by
  try simp only [Cs] at h28 h29 h32 h37 h38
  unfold Am Cj
  simp only [h3, h27, D9]; simp [h28, h29, h32, h37, h38]
 rw [e]
 refine Au h38 (Ba (Aa ((decide (p.fType = 6))) (fun h39 => ?_) fun h39 => ?_))
 refine Ap h39 (Ap h39 (Ig (Ao (c := si p.fId) s26 (.here) rfl (Ar (v := (.bool (Bu p.fId 1 65535))) s26 rfl (.cons .sc .nil) (Hq (n + 7) p.fId) (Al rfl ?_)))))
 have e : Am p = (Bu p.fId 1 65535) := by
  try simp only [Cs] at h28 h29 h32 h37 h38 h39
  unfold Am Cj
  simp only [h3, h27, D9]; simp [h28, h29, h32, h37, h38, h39]
 rw [e]
 refine Au h39 (Ba (Aa ((decide (p.fType = 7))) (fun h40 => ?_) fun h40 => ?_))
 refine Ap h40 (Ap h40 (Ig (Ao (c := si p.fId) s26 (.here) rfl (Ar (v := (.bool (Bu p.fId 1 65535))) s26 rfl (.cons .sc .nil) (Hq (n + 7) p.fId) (Al rfl ?_)))))
 have e : Am p = (Bu p.fId 1 65535) := by
  try simp only [Cs] at h28 h29 h32 h37 h38 h39 h40
  unfold Am Cj
  simp only [h3, h27, D9]; simp [h28, h29, h32, h37, h38, h39, h40]
 rw [e]
 refine Au h40 (Ba (Aa ((decide (p.fType = 11))) (fun h41 => ?_) fun h41 => ?_))
 refine Ap h41 (Ig (Ao (c := si p.fId) s26 (.here) rfl (Ar (v := (.bool (Bu p.fId 1 65535))) s26 rfl (.cons .sc .nil) (Hq (n + 7) p.fId) (Al rfl ?_))))
 have e : Am p = (Bu p.fId 1 65535) := by
  try simp only [Cs] at h28 h29 h32 h37 h38 h39 h40 h41
  unfold Am Cj
  simp only [h3, h27, D9]; simp [h28, h29, h32, h37, h38, h39, h40, h41]
 rw [e]
 refine Au h41 (Ba (C8 (Aa ((decide (p.fType = 8))) (fun h42 => ?_) fun h42 => ?_)))
 refine Ap h42 (Ap h42 (Ig (Ao (c := si p.fId) s26 (.here) rfl (Ar (v := (.bool (Bu p.fId 1 65535))) s26 rfl (.cons .sc .nil) (Hq (n + 7) p.fId) ?_))))
 apply Br ((Bu p.fId 1 65535) && (Ey p))
 intro b43 q43
 refine Aa ((Bu p.fId 1 65535)) (fun h43 => ?_) fun h43 => ?_
 exact Af h43 (Aq s26 (.here) rfl (Af h43 (Ar (v := (.bool (Ey p))) s26 rfl (.aggF (Ct _) .nil) (M8 (n + 2) (by omega) p hp) (Dc h43 (Fp q43 h43) A0))))
 exact Ae h43 (Ae h43 (Db h43 (Fo q43 h43) A0))
 intro b43 q43
 refine Al rfl ?_
 have e : Am p = b43 := by
  try simp only [Cs] at h28 h29 h32 h37 h38 h39 h40 h41 h42
  unfold Am Cj
  simp only [h3, h27, q43, D9]; simp [h28, h29, h32, h37, h38, h39, h40, h41, h42]
 rw [e]
 refine Au h42 (Ba (Aa ((decide (p.fType = 9))) (fun h44 => ?_) fun h44 => ?_))
 refine Ap h44 (Ap h44 (Ig (Ao (c := si p.fId) s26 (.here) rfl (Ar (v := (.bool (Bu p.fId 1 65535))) s26 rfl (.cons .sc .nil) (Hq (n + 7) p.fId) ?_))))
 apply Br ((Bu p.fId 1 65535) && (Ey p))
 intro b45 q45
 refine Aa ((Bu p.fId 1 65535)) (fun h45 => ?_) fun h45 => ?_
 exact Af h45 (Aq s26 (.here) rfl (Af h45 (Ar (v := (.bool (Ey p))) s26 rfl (.aggF (Ct _) .nil) (M8 (n + 2) (by omega) p hp) (Dc h45 (Fp q45 h45) A0))))
 exact Ae h45 (Ae h45 (Db h45 (Fo q45 h45) A0))
 intro b45 q45
 refine Al rfl ?_
 have e : Am p = b45 := by
  try simp only [Cs] at h28 h29 h32 h37 h38 h39 h40 h41 h42 h44
  unfold Am Cj
  simp only [h3, h27, q45, D9]; simp [h28, h29, h32, h37, h38, h39, h40, h41, h42, h44]
 rw [e]
 refine Au h44 (Ba (Aa ((decide (p.fType = 10))) (fun h46 => ?_) fun h46 => ?_))
 refine Ap h46 (Ig (Ao (c := si p.fId) s26 (.here) rfl (Ar (v := (.bool (Bu p.fId 1 65535))) s26 rfl (.cons .sc .nil) (Hq (n + 7) p.fId) ?_)))
 apply Br ((Bu p.fId 1 65535) && (Ey p))
 intro b47 q47
 refine Aa ((Bu p.fId 1 65535)) (fun h47 => ?_) fun h47 => ?_
 exact Af h47 (Aq s26 (.here) rfl (Af h47 (Ar (v := (.bool (Ey p))) s26 rfl (.aggF (Ct _) .nil) (M8 (n + 2) (by omega) p hp) (Dc h47 (Fp q47 h47) A0))))
 exact Ae h47 (Ae h47 (Db h47 (Fo q47 h47) A0))
 intro b47 q47
 refine Al rfl ?_
 have e : Am p = b47 := by
  try simp only [Cs] at h28 h29 h32 h37 h38 h39 h40 h41 h42 h44 h46
  unfold Am Cj
  simp only [h3, h27, q47, D9]; simp [h28, h29, h32, h37, h38, h39, h40, h41, h42, h44, h46]
 rw [e]
 refine Au h46 (Al rfl ?_)
 have e : Am p = true := by
  try simp only [Cs] at h28 h29 h32 h37 h38 h39 h40 h41 h42 h44 h46
  unfold Am Cj
  simp only [h3, h27, D9]; simp [h28, h29, h32, h37, h38, h39, h40, h41, h42, h44, h46]
 rw [e]
 refine Ap (nT h27) (Al rfl ?_)
 have e : Am p = false := by
  unfold Am Cj
  simp only [h3, h27, D9]
 rw [e]
 refine Ae (nT h3) (Gd.bothE ?_ ?_)
 refine Ae (nT h3) (Ae (nT h3) (Ae (nT h3) (Ae (nT h3) (E2 (nT h3) (Ap rfl (Al rfl ?_))))))
 have e : Am p = false := by
  unfold Am Cj
  simp only [h3, D9]
 rw [e]
 refine Ae (nT h3) (Ae (nT h3) (Ae (nT h3) (Ae (nT h3) (E2 (nT h3) (Ap rfl (Al rfl ?_))))))
 have e : Am p = false := by
  unfold Am Cj
  simp only [h3, D9]
 rw [e]
def Ed (p : PacketV) : Bool :=
 if p.fType = 1 then (if p.fHasWill = true ∧ ((C3 p.fWTopic && (decide (((p.fWBody.size : Nat) : Int) ≤ 40) && Bu p.fWQos 0 2)) = false) then false else (Bu p.fLevel 0 255 && (Bo p.fClient && (Bu p.fKeep 0 65535 && (Bo p.fUser && decide (((p.fPass.size : Nat) : Int) ≤ 60))))))
 else if p.fType = 2 then Bu p.fCode 0 5
 else if p.fType = 3 then (Bu p.fQos 0 2 && ((decide (p.fQos = 0) || Bu p.fId 1 65535) && (C3 p.fTopic && decide (((p.fBody.size : Nat) : Int) ≤ 40))))
 else if p.fType = 12 ∨ p.fType = 13 ∨ p.fType = 14 then true
 else if p.fType = 8 then (p.fWants.all Cf && (Bu p.fId 1 65535 && Bu ((p.fWants.length : Nat) : Int) 1 4))
 else if p.fType = 9 then (p.fCodes.all Cc && (Bu p.fId 1 65535 && Bu ((p.fCodes.length : Nat) : Int) 1 4))
 else if p.fType = 10 then (p.fNames.all Bx && (Bu p.fId 1 65535 && Bu ((p.fNames.length : Nat) : Int) 1 4))
 else Bu p.fId 1 65535
def A1 (p : PacketV) : Bool := Bu p.fType 1 14 && (Ce p (Aw true p) && Ed p)
theorem Ss (n : Nat) (hn : 1048576 < n) (p : PacketV) (hp : G0 p) (h3 : (Bu p.fType 1 14) = true) (h5 : (Ce p (Aw true p)) = true) (h6 : (decide (p.fType = 1)) = false) (h15 : (decide (p.fType = 2)) = false) (h16 : (decide (p.fType = 3)) = false) (h21 : (decide (p.fType = 12)) = false) (h22 : (decide (p.fType = 13)) = false) (h23 : (decide (p.fType = 14)) = false) (h24 : (decide (p.fType = 8)) = true)  : ∀ (t pre : List WantV) (m : Nat) (i : Int) (i1 : Nat) (H : Ab), p.fWants = pre ++ t → i = ((pre.length : Nat) : Int) → t.length < m → Sep H [.blk i1 (An p) true] → Gd (· = some (.sc (.bool (t.all Cf && (Bu p.fId 1 65535 && Bu ((p.fWants.length : Nat) : Int) 1 4))))) (Lr (PR (n + 9) AV) (n + 9) (fun x H => A8 As E0.tp 4 H x) m (.ptr i1 0) (.sc (.bool (Bu p.fId 1 65535))) (.sc (.int .i64 i)) H)
 | [], pre, m + 1, i, i1, H, he, hi, hm, s0 => by
  obtain rfl : pre = p.fWants := by simpa using he.symm
  have hl1 := hp.l1
  have hl2 := hp.l2
  have hl3 := hp.l3
  have hlen := hp.l1
  rw [Lr]
  try simp only [Fa, E9]
  refine Kf (Ao (c := Bt Bp p.fWants) s0 (.here) rfl (Cu (Di (Au (by simp [hi]) ?_))))
  apply Br ((Bu p.fId 1 65535) && (Bu ((p.fWants.length : Nat) : Int) 1 4))
  intro b201 q201
  refine Aa ((Bu p.fId 1 65535)) (fun h201 => ?_) fun h201 => ?_
  exact Af h201 (Kf (Af h201 (Ao (c := Bt Bp p.fWants) s0 (.here) rfl (Af h201 (Cu (Af h201 (Ar (v := (.bool (Bu ((p.fWants.length : Nat) : Int) 1 4))) s0 rfl (P0 .nil) (Hh (n + 8) _ ((p.fWants.length : Nat) : Int) 1 4) (Dc h201 (Fp q201 h201) A0))))))))
  exact Ae h201 (Ae h201 (Ae h201 (Ae h201 (Db h201 (Fo q201 h201) A0))))
  intro b201 q201
  refine Al rfl ?_
  have e : ([].all Cf && (Bu p.fId 1 65535 && Bu ((p.fWants.length : Nat) : Int) 1 4)) = b201 := by
   simp only [zax, zaH, Cf, Cc]; grind
  rw [e]
 | y :: t, pre, m + 1, i, i1, H, he, hi, hm, s0 => by
  have hlt : pre.length < p.fWants.length := by rw [he]; simp
  have hl1 := hp.l1
  have hl2 := hp.l2
  have hl3 := hp.l3
  have hlen := hp.l1
  rw [Lr]
  try simp only [Fa, E9]
  refine Kf (Ao (c := Bt Bp p.fWants) s0 (.here) rfl (Cu (Di (Ap (by simp [hi]; omega) (Kf (Ao (c := Bt Bp p.fWants) s0 (.here) rfl (Mr hi F5 (by decide) he (Qb (E5 (c := .sc (.string y.fFilter)) rfl (Ar (v := (.bool (Bx y.fFilter))) s0 rfl (.cons .sc .nil) (Mm (n + 3) (by omega) y.fFilter (hp.w1 y (by rw [he]; simp)) (Pp (hp.w1 y (by rw [he]; simp)))) (Cr ?_)))))))))))
  apply Br ((!(Bx y.fFilter)) || (!(Bu y.fQos 0 2)))
  intro b201 q201
  refine Aa ((Bx y.fFilter)) (fun h201 => ?_) fun h201 => ?_
  exact Af (nF h201) (Kf (Af (nF h201) (Ao (c := Bt Bp p.fWants) s0 (.here) rfl (Af (nF h201) (Af (nF h201) (Mr hi F5 (by decide) he (Af (nF h201) (Qb (Af (nF h201) (E5 (c := si y.fQos) rfl (Af (nF h201) (Ar (v := (.bool (Bu y.fQos 0 2))) s0 rfl (P0 .nil) (Hh (n + 8) _ y.fQos 0 2) (Af (nF h201) (Cr (Db (nF h201) (mOF q201 (nF h201)) A0)))))))))))))))
  exact Ae (nT h201) (Ae (nT h201) (Ae (nT h201) (Ae (nT h201) (Ae (nT h201) (Ae (nT h201) (Ae (nT h201) (Ae (nT h201) (Dc (nT h201) (mOT q201 (nT h201)) A0))))))))
  intro b201 q201
  refine Aa (b201) (fun h202 => ?_) fun h202 => ?_
  refine Ap h202 (Al rfl ?_)
  have e : ((y :: t).all Cf && (Bu p.fId 1 65535 && Bu ((p.fWants.length : Nat) : Int) 1 4)) = false := by
   simp only [zax, zaH, Cf, Cc]; grind
  rw [e]
  refine Au h202 (Bw (by omega) (by omega) ?_)
  have e203 : ((y :: t).all Cf && (Bu p.fId 1 65535 && Bu ((p.fWants.length : Nat) : Int) 1 4)) = (t.all Cf && (Bu p.fId 1 65535 && Bu ((p.fWants.length : Nat) : Int) 1 4)) := by
   (simp only [zax, Cf, Cc]; grind)
  rw [e203]
  exact Ss n hn p hp h3 h5 h6 h15 h16 h21 h22 h23 h24  t (pre ++ [y]) m _ i1 _ (by rw [he]; simp) (by rw [hi]; simp) (by simpa using hm) (by simpa only [za3, zaq, zaB] using (s0.sel (.cons (.here) .nil)))
theorem Su (n : Nat) (hn : 1048576 < n) (p : PacketV) (hp : G0 p) (h3 : (Bu p.fType 1 14) = true) (h5 : (Ce p (Aw true p)) = true) (h6 : (decide (p.fType = 1)) = false) (h15 : (decide (p.fType = 2)) = false) (h16 : (decide (p.fType = 3)) = false) (h21 : (decide (p.fType = 12)) = false) (h22 : (decide (p.fType = 13)) = false) (h23 : (decide (p.fType = 14)) = false) (h24 : (decide (p.fType = 8)) = false) (h25 : (decide (p.fType = 9)) = true)  : ∀ (t pre : List Int) (m : Nat) (i : Int) (i1 : Nat) (H : Ab), p.fCodes = pre ++ t → i = ((pre.length : Nat) : Int) → t.length < m → Sep H [.blk i1 (An p) true] → Gd (· = some (.sc (.bool (t.all Cc && (Bu p.fId 1 65535 && Bu ((p.fCodes.length : Nat) : Int) 1 4))))) (Ls (PR (n + 9) AV) (n + 9) (fun x H => A8 As E0.tp 4 H x) m (.ptr i1 0) (.sc (.bool (Bu p.fId 1 65535))) (.sc (.int .i64 i)) H)
 | [], pre, m + 1, i, i1, H, he, hi, hm, s0 => by
  obtain rfl : pre = p.fCodes := by simpa using he.symm
  have hl1 := hp.l1
  have hl2 := hp.l2
  have hl3 := hp.l3
  have hlen := hp.l3
  rw [Ls]
  try simp only [Fa, E9]
  refine Kn (Ao (c := D5 p.fCodes) s0 (.here) rfl (Cu (Di (Au (by simp [hi]) ?_))))
  apply Br ((Bu p.fId 1 65535) && (Bu ((p.fCodes.length : Nat) : Int) 1 4))
  intro b201 q201
  refine Aa ((Bu p.fId 1 65535)) (fun h201 => ?_) fun h201 => ?_
  exact Af h201 (Kn (Af h201 (Ao (c := D5 p.fCodes) s0 (.here) rfl (Af h201 (Cu (Af h201 (Ar (v := (.bool (Bu ((p.fCodes.length : Nat) : Int) 1 4))) s0 rfl (P0 .nil) (Hh (n + 8) _ ((p.fCodes.length : Nat) : Int) 1 4) (Dc h201 (Fp q201 h201) A0))))))))
  exact Ae h201 (Ae h201 (Ae h201 (Ae h201 (Db h201 (Fo q201 h201) A0))))
  intro b201 q201
  refine Al rfl ?_
  have e : ([].all Cc && (Bu p.fId 1 65535 && Bu ((p.fCodes.length : Nat) : Int) 1 4)) = b201 := by
   simp only [zax, zaH, Cf, Cc]; grind
  rw [e]
 | y :: t, pre, m + 1, i, i1, H, he, hi, hm, s0 => by
  have hlt : pre.length < p.fCodes.length := by rw [he]; simp
  have hl1 := hp.l1
  have hl2 := hp.l2
  have hl3 := hp.l3
  have hlen := hp.l3
  rw [Ls]
  try simp only [Fa, E9]
  refine Kn (Ao (c := D5 p.fCodes) s0 (.here) rfl (Cu (Di (Ap (by simp [hi]; omega) (Kn (Ao (c := D5 p.fCodes) s0 (.here) rfl (J4 hi he (E5 (c := .sc (.int .i64 y)) rfl (Ar (v := (.bool (Bu y 0 2))) s0 rfl (P0 .nil) (Hh (n + 8) _ y 0 2) (Cr ?_))))))))))
  apply Br ((!(Bu y 0 2)) && (!(decide (y = 128))))
  intro b201 q201
  refine Aa ((Bu y 0 2)) (fun h201 => ?_) fun h201 => ?_
  exact Ae (nF h201) (Ae (nF h201) (Ae (nF h201) (Ae (nF h201) (Ae (nF h201) (Ae (nF h201) (Db (nF h201) (Fo q201 (nF h201)) A0))))))
  exact Af (nT h201) (Kn (Af (nT h201) (Ao (c := D5 p.fCodes) s0 (.here) rfl (Af (nT h201) (Af (nT h201) (J4 hi he (Af (nT h201) (E5 (c := si y) rfl (Af (nT h201) (Ks (Dc (nT h201) (Fp q201 (nT h201)) A0)))))))))))
  intro b201 q201
  refine Aa (b201) (fun h202 => ?_) fun h202 => ?_
  refine Ap h202 (Al rfl ?_)
  have e : ((y :: t).all Cc && (Bu p.fId 1 65535 && Bu ((p.fCodes.length : Nat) : Int) 1 4)) = false := by
   simp only [zax, zaH, Cf, Cc]; grind
  rw [e]
  refine Au h202 (Bw (by omega) (by omega) ?_)
  have e203 : ((y :: t).all Cc && (Bu p.fId 1 65535 && Bu ((p.fCodes.length : Nat) : Int) 1 4)) = (t.all Cc && (Bu p.fId 1 65535 && Bu ((p.fCodes.length : Nat) : Int) 1 4)) := by
   (simp only [zax, Cf, Cc]; grind)
  rw [e203]
  exact Su n hn p hp h3 h5 h6 h15 h16 h21 h22 h23 h24 h25  t (pre ++ [y]) m _ i1 _ (by rw [he]; simp) (by rw [hi]; simp) (by simpa using hm) (by simpa only [za3, zaq, zaB] using (s0.sel (.cons (.here) .nil)))
theorem Sv (n : Nat) (hn : 1048576 < n) (p : PacketV) (hp : G0 p) (h3 : (Bu p.fType 1 14) = true) (h5 : (Ce p (Aw true p)) = true) (h6 : (decide (p.fType = 1)) = false) (h15 : (decide (p.fType = 2)) = false) (h16 : (decide (p.fType = 3)) = false) (h21 : (decide (p.fType = 12)) = false) (h22 : (decide (p.fType = 13)) = false) (h23 : (decide (p.fType = 14)) = false) (h24 : (decide (p.fType = 8)) = false) (h25 : (decide (p.fType = 9)) = false) (h26 : (decide (p.fType = 10)) = true)  : ∀ (t pre : List ByteArray) (m : Nat) (i : Int) (i1 : Nat) (H : Ab), p.fNames = pre ++ t → i = ((pre.length : Nat) : Int) → t.length < m → Sep H [.blk i1 (An p) true] → Gd (· = some (.sc (.bool (t.all Bx && (Bu p.fId 1 65535 && Bu ((p.fNames.length : Nat) : Int) 1 4))))) (Lt (PR (n + 9) AV) (n + 9) (fun x H => A8 As E0.tp 4 H x) m (.ptr i1 0) (.sc (.bool (Bu p.fId 1 65535))) (.sc (.int .i64 i)) H)
 | [], pre, m + 1, i, i1, H, he, hi, hm, s0 => by
  obtain rfl : pre = p.fNames := by simpa using he.symm
  have hl1 := hp.l1
  have hl2 := hp.l2
  have hl3 := hp.l3
  have hlen := hp.l2
  rw [Lt]
  try simp only [Fa, E9]
  refine Km (Ao (c := D6 p.fNames) s0 (.here) rfl (Cu (Di (Au (by simp [hi]) ?_))))
  apply Br ((Bu p.fId 1 65535) && (Bu ((p.fNames.length : Nat) : Int) 1 4))
  intro b201 q201
  refine Aa ((Bu p.fId 1 65535)) (fun h201 => ?_) fun h201 => ?_
  exact Af h201 (Km (Af h201 (Ao (c := D6 p.fNames) s0 (.here) rfl (Af h201 (Cu (Af h201 (Ar (v := (.bool (Bu ((p.fNames.length : Nat) : Int) 1 4))) s0 rfl (P0 .nil) (Hh (n + 8) _ ((p.fNames.length : Nat) : Int) 1 4) (Dc h201 (Fp q201 h201) A0))))))))
  exact Ae h201 (Ae h201 (Ae h201 (Ae h201 (Db h201 (Fo q201 h201) A0))))
  intro b201 q201
  refine Al rfl ?_
  have e : ([].all Bx && (Bu p.fId 1 65535 && Bu ((p.fNames.length : Nat) : Int) 1 4)) = b201 := by
   simp only [zax, zaH, Cf, Cc]; grind
  rw [e]
 | y :: t, pre, m + 1, i, i1, H, he, hi, hm, s0 => by
  have hlt : pre.length < p.fNames.length := by rw [he]; simp
  have hl1 := hp.l1
  have hl2 := hp.l2
  have hl3 := hp.l3
  have hlen := hp.l2
  rw [Lt]
  try simp only [Fa, E9]
  refine Km (Ao (c := D6 p.fNames) s0 (.here) rfl (Cu (Di (Ap (by simp [hi]; omega) (Km (Ao (c := D6 p.fNames) s0 (.here) rfl (Ng hi he (E5 (c := .sc (.string y)) rfl (Ar (v := (.bool (Bx y))) s0 rfl (.cons .sc .nil) (Mm (n + 3) (by omega) y (hp.w2 y (by rw [he]; simp)) (Pp (hp.w2 y (by rw [he]; simp)))) (Cr (Aa ((Bx y)) (fun h201 => ?_) fun h201 => ?_)))))))))))
  refine Au (nF h201) (Bw (by omega) (by omega) ?_)
  have e202 : ((y :: t).all Bx && (Bu p.fId 1 65535 && Bu ((p.fNames.length : Nat) : Int) 1 4)) = (t.all Bx && (Bu p.fId 1 65535 && Bu ((p.fNames.length : Nat) : Int) 1 4)) := by
   simp only [zax, Cf, Cc, h3, h5, h6, h15, h16, h21, h22, h23, h24, h25, h26, h201, zaK, zbt, zaN, zb1, zbE, zbJ, zaV, za0, za2]
  rw [e202]
  exact Sv n hn p hp h3 h5 h6 h15 h16 h21 h22 h23 h24 h25 h26  t (pre ++ [y]) m _ i1 _ (by rw [he]; simp) (by rw [hi]; simp) (by simpa using hm) (by simpa only [za3, zaq, zaB] using (s0.sel (.cons (.here) .nil)))
  refine Ap (nT h201) (Al rfl ?_)
  have e : ((y :: t).all Bx && (Bu p.fId 1 65535 && Bu ((p.fNames.length : Nat) : Int) 1 4)) = false := by
   simp only [zax, zaH, Cf, Cc, h3, h5, h6, h15, h16, h21, h22, h23, h24, h25, h26, h201, D9]
  rw [e]
theorem Qw (n : Nat) (hn : 1048576 < n) (p : PacketV) (hp : G0 p) (h3 : (Bu p.fType 1 14) = true) (h28 : (Ce p (Aw true p)) = true) (h29 : (decide (p.fType = 1)) = false) (h38 : (decide (p.fType = 2)) = false) (h39 : (decide (p.fType = 3)) = false) (h44 : (decide (p.fType = 12)) = false) (h45 : (decide (p.fType = 13)) = false) (h46 : (decide (p.fType = 14)) = false) (h47 : (decide (p.fType = 8)) = true)  : ∀ (t pre : List WantV) (m : Nat) (i : Int) (i1 : Nat) (H : Ab), p.fWants = pre ++ t → i = ((pre.length : Nat) : Int) → t.length < m → Sep H [.blk i1 (An p) true] → Gd (· = some (.sc (.bool (t.all Cf && (Bu p.fId 1 65535 && Bu ((p.fWants.length : Nat) : Int) 1 4))))) (Lr (PR (n + 9) AV) (n + 9) (fun x H => A8 As E0.tp 4 H x) m (.ptr i1 0) (.sc (.bool (Bu p.fId 1 65535))) (.sc (.int .i64 i)) H)
 | [], pre, m + 1, i, i1, H, he, hi, hm, s0 => by
  obtain rfl : pre = p.fWants := by simpa using he.symm
  have hl1 := hp.l1
  have hl2 := hp.l2
  have hl3 := hp.l3
  have hlen := hp.l1
  rw [Lr]
  try simp only [Fa, E9]
  refine Kf (Ao (c := Bt Bp p.fWants) s0 (.here) rfl (Cu (Di (Au (by simp [hi]) ?_))))
  apply Br ((Bu p.fId 1 65535) && (Bu ((p.fWants.length : Nat) : Int) 1 4))
  intro b201 q201
  refine Aa ((Bu p.fId 1 65535)) (fun h201 => ?_) fun h201 => ?_
  exact Af h201 (Kf (Af h201 (Ao (c := Bt Bp p.fWants) s0 (.here) rfl (Af h201 (Cu (Af h201 (Ar (v := (.bool (Bu ((p.fWants.length : Nat) : Int) 1 4))) s0 rfl (P0 .nil) (Hh (n + 8) _ ((p.fWants.length : Nat) : Int) 1 4) (Dc h201 (Fp q201 h201) A0))))))))
  exact Ae h201 (Ae h201 (Ae h201 (Ae h201 (Db h201 (Fo q201 h201) A0))))
  intro b201 q201
  refine Al rfl ?_
  have e : ([].all Cf && (Bu p.fId 1 65535 && Bu ((p.fWants.length : Nat) : Int) 1 4)) = b201 := by
   simp only [zax, zaH, Cf, Cc]; grind
  rw [e]
 | y :: t, pre, m + 1, i, i1, H, he, hi, hm, s0 => by
  have hlt : pre.length < p.fWants.length := by rw [he]; simp
  have hl1 := hp.l1
  have hl2 := hp.l2
  have hl3 := hp.l3
  have hlen := hp.l1
  rw [Lr]
  try simp only [Fa, E9]
  refine Kf (Ao (c := Bt Bp p.fWants) s0 (.here) rfl (Cu (Di (Ap (by simp [hi]; omega) (Kf (Ao (c := Bt Bp p.fWants) s0 (.here) rfl (Mr hi F5 (by decide) he (Qb (E5 (c := .sc (.string y.fFilter)) rfl (Ar (v := (.bool (Bx y.fFilter))) s0 rfl (.cons .sc .nil) (Mm (n + 3) (by omega) y.fFilter (hp.w1 y (by rw [he]; simp)) (Pp (hp.w1 y (by rw [he]; simp)))) (Cr ?_)))))))))))
  apply Br ((!(Bx y.fFilter)) || (!(Bu y.fQos 0 2)))
  intro b201 q201
  refine Aa ((Bx y.fFilter)) (fun h201 => ?_) fun h201 => ?_
  exact Af (nF h201) (Kf (Af (nF h201) (Ao (c := Bt Bp p.fWants) s0 (.here) rfl (Af (nF h201) (Af (nF h201) (Mr hi F5 (by decide) he (Af (nF h201) (Qb (Af (nF h201) (E5 (c := si y.fQos) rfl (Af (nF h201) (Ar (v := (.bool (Bu y.fQos 0 2))) s0 rfl (P0 .nil) (Hh (n + 8) _ y.fQos 0 2) (Af (nF h201) (Cr (Db (nF h201) (mOF q201 (nF h201)) A0)))))))))))))))
  exact Ae (nT h201) (Ae (nT h201) (Ae (nT h201) (Ae (nT h201) (Ae (nT h201) (Ae (nT h201) (Ae (nT h201) (Ae (nT h201) (Dc (nT h201) (mOT q201 (nT h201)) A0))))))))
  intro b201 q201
  refine Aa (b201) (fun h202 => ?_) fun h202 => ?_
  refine Ap h202 (Al rfl ?_)
  have e : ((y :: t).all Cf && (Bu p.fId 1 65535 && Bu ((p.fWants.length : Nat) : Int) 1 4)) = false := by
   simp only [zax, zaH, Cf, Cc]; grind
  rw [e]
  refine Au h202 (Bw (by omega) (by omega) ?_)
  have e203 : ((y :: t).all Cf && (Bu p.fId 1 65535 && Bu ((p.fWants.length : Nat) : Int) 1 4)) = (t.all Cf && (Bu p.fId 1 65535 && Bu ((p.fWants.length : Nat) : Int) 1 4)) := by
   (simp only [zax, Cf, Cc]; grind)
  rw [e203]
  exact Qw n hn p hp h3 h28 h29 h38 h39 h44 h45 h46 h47  t (pre ++ [y]) m _ i1 _ (by rw [he]; simp) (by rw [hi]; simp) (by simpa using hm) (by simpa only [za3, zaq, zaB] using (s0.sel (.cons (.here) .nil)))
theorem Qx (n : Nat) (hn : 1048576 < n) (p : PacketV) (hp : G0 p) (h3 : (Bu p.fType 1 14) = true) (h28 : (Ce p (Aw true p)) = true) (h29 : (decide (p.fType = 1)) = false) (h38 : (decide (p.fType = 2)) = false) (h39 : (decide (p.fType = 3)) = false) (h44 : (decide (p.fType = 12)) = false) (h45 : (decide (p.fType = 13)) = false) (h46 : (decide (p.fType = 14)) = false) (h47 : (decide (p.fType = 8)) = false) (h48 : (decide (p.fType = 9)) = true)  : ∀ (t pre : List Int) (m : Nat) (i : Int) (i1 : Nat) (H : Ab), p.fCodes = pre ++ t → i = ((pre.length : Nat) : Int) → t.length < m → Sep H [.blk i1 (An p) true] → Gd (· = some (.sc (.bool (t.all Cc && (Bu p.fId 1 65535 && Bu ((p.fCodes.length : Nat) : Int) 1 4))))) (Ls (PR (n + 9) AV) (n + 9) (fun x H => A8 As E0.tp 4 H x) m (.ptr i1 0) (.sc (.bool (Bu p.fId 1 65535))) (.sc (.int .i64 i)) H)
 | [], pre, m + 1, i, i1, H, he, hi, hm, s0 => by
  obtain rfl : pre = p.fCodes := by simpa using he.symm
  have hl1 := hp.l1
  have hl2 := hp.l2
  have hl3 := hp.l3
  have hlen := hp.l3
  rw [Ls]
  try simp only [Fa, E9]
  refine Kn (Ao (c := D5 p.fCodes) s0 (.here) rfl (Cu (Di (Au (by simp [hi]) ?_))))
  apply Br ((Bu p.fId 1 65535) && (Bu ((p.fCodes.length : Nat) : Int) 1 4))
  intro b201 q201
  refine Aa ((Bu p.fId 1 65535)) (fun h201 => ?_) fun h201 => ?_
  exact Af h201 (Kn (Af h201 (Ao (c := D5 p.fCodes) s0 (.here) rfl (Af h201 (Cu (Af h201 (Ar (v := (.bool (Bu ((p.fCodes.length : Nat) : Int) 1 4))) s0 rfl (P0 .nil) (Hh (n + 8) _ ((p.fCodes.length : Nat) : Int) 1 4) (Dc h201 (Fp q201 h201) A0))))))))
  exact Ae h201 (Ae h201 (Ae h201 (Ae h201 (Db h201 (Fo q201 h201) A0))))
  intro b201 q201
  refine Al rfl ?_
  have e : ([].all Cc && (Bu p.fId 1 65535 && Bu ((p.fCodes.length : Nat) : Int) 1 4)) = b201 := by
   simp only [zax, zaH, Cf, Cc]; grind
  rw [e]
 | y :: t, pre, m + 1, i, i1, H, he, hi, hm, s0 => by
  have hlt : pre.length < p.fCodes.length := by rw [he]; simp
  have hl1 := hp.l1
  have hl2 := hp.l2
  have hl3 := hp.l3
  have hlen := hp.l3
  rw [Ls]
  try simp only [Fa, E9]
  refine Kn (Ao (c := D5 p.fCodes) s0 (.here) rfl (Cu (Di (Ap (by simp [hi]; omega) (Kn (Ao (c := D5 p.fCodes) s0 (.here) rfl (J4 hi he (E5 (c := .sc (.int .i64 y)) rfl (Ar (v := (.bool (Bu y 0 2))) s0 rfl (P0 .nil) (Hh (n + 8) _ y 0 2) (Cr ?_))))))))))
  apply Br ((!(Bu y 0 2)) && (!(decide (y = 128))))
  intro b201 q201
  refine Aa ((Bu y 0 2)) (fun h201 => ?_) fun h201 => ?_
  exact Ae (nF h201) (Ae (nF h201) (Ae (nF h201) (Ae (nF h201) (Ae (nF h201) (Ae (nF h201) (Db (nF h201) (Fo q201 (nF h201)) A0))))))
  exact Af (nT h201) (Kn (Af (nT h201) (Ao (c := D5 p.fCodes) s0 (.here) rfl (Af (nT h201) (Af (nT h201) (J4 hi he (Af (nT h201) (E5 (c := si y) rfl (Af (nT h201) (Ks (Dc (nT h201) (Fp q201 (nT h201)) A0)))))))))))
  intro b201 q201
  refine Aa (b201) (fun h202 => ?_) fun h202 => ?_
  refine Ap h202 (Al rfl ?_)
  have e : ((y :: t).all Cc && (Bu p.fId 1 65535 && Bu ((p.fCodes.length : Nat) : Int) 1 4)) = false := by
   simp only [zax, zaH, Cf, Cc]; grind
  rw [e]
  refine Au h202 (Bw (by omega) (by omega) ?_)
  have e203 : ((y :: t).all Cc && (Bu p.fId 1 65535 && Bu ((p.fCodes.length : Nat) : Int) 1 4)) = (t.all Cc && (Bu p.fId 1 65535 && Bu ((p.fCodes.length : Nat) : Int) 1 4)) := by
   (simp only [zax, Cf, Cc]; grind)
  rw [e203]
  exact Qx n hn p hp h3 h28 h29 h38 h39 h44 h45 h46 h47 h48  t (pre ++ [y]) m _ i1 _ (by rw [he]; simp) (by rw [hi]; simp) (by simpa using hm) (by simpa only [za3, zaq, zaB] using (s0.sel (.cons (.here) .nil)))
theorem Qy (n : Nat) (hn : 1048576 < n) (p : PacketV) (hp : G0 p) (h3 : (Bu p.fType 1 14) = true) (h28 : (Ce p (Aw true p)) = true) (h29 : (decide (p.fType = 1)) = false) (h38 : (decide (p.fType = 2)) = false) (h39 : (decide (p.fType = 3)) = false) (h44 : (decide (p.fType = 12)) = false) (h45 : (decide (p.fType = 13)) = false) (h46 : (decide (p.fType = 14)) = false) (h47 : (decide (p.fType = 8)) = false) (h48 : (decide (p.fType = 9)) = false) (h49 : (decide (p.fType = 10)) = true)  : ∀ (t pre : List ByteArray) (m : Nat) (i : Int) (i1 : Nat) (H : Ab), p.fNames = pre ++ t → i = ((pre.length : Nat) : Int) → t.length < m → Sep H [.blk i1 (An p) true] → Gd (· = some (.sc (.bool (t.all Bx && (Bu p.fId 1 65535 && Bu ((p.fNames.length : Nat) : Int) 1 4))))) (Lt (PR (n + 9) AV) (n + 9) (fun x H => A8 As E0.tp 4 H x) m (.ptr i1 0) (.sc (.bool (Bu p.fId 1 65535))) (.sc (.int .i64 i)) H)
 | [], pre, m + 1, i, i1, H, he, hi, hm, s0 => by
  obtain rfl : pre = p.fNames := by simpa using he.symm
  have hl1 := hp.l1
  have hl2 := hp.l2
  have hl3 := hp.l3
  have hlen := hp.l2
  rw [Lt]
  try simp only [Fa, E9]
  refine Km (Ao (c := D6 p.fNames) s0 (.here) rfl (Cu (Di (Au (by simp [hi]) ?_))))
  apply Br ((Bu p.fId 1 65535) && (Bu ((p.fNames.length : Nat) : Int) 1 4))
  intro b201 q201
  refine Aa ((Bu p.fId 1 65535)) (fun h201 => ?_) fun h201 => ?_
  exact Af h201 (Km (Af h201 (Ao (c := D6 p.fNames) s0 (.here) rfl (Af h201 (Cu (Af h201 (Ar (v := (.bool (Bu ((p.fNames.length : Nat) : Int) 1 4))) s0 rfl (P0 .nil) (Hh (n + 8) _ ((p.fNames.length : Nat) : Int) 1 4) (Dc h201 (Fp q201 h201) A0))))))))
  exact Ae h201 (Ae h201 (Ae h201 (Ae h201 (Db h201 (Fo q201 h201) A0))))
  intro b201 q201
  refine Al rfl ?_
  have e : ([].all Bx && (Bu p.fId 1 65535 && Bu ((p.fNames.length : Nat) : Int) 1 4)) = b201 := by
   simp only [zax, zaH, Cf, Cc]; grind
  rw [e]
 | y :: t, pre, m + 1, i, i1, H, he, hi, hm, s0 => by
  have hlt : pre.length < p.fNames.length := by rw [he]; simp
  have hl1 := hp.l1
  have hl2 := hp.l2
  have hl3 := hp.l3
  have hlen := hp.l2
  rw [Lt]
  try simp only [Fa, E9]
  refine Km (Ao (c := D6 p.fNames) s0 (.here) rfl (Cu (Di (Ap (by simp [hi]; omega) (Km (Ao (c := D6 p.fNames) s0 (.here) rfl (Ng hi he (E5 (c := .sc (.string y)) rfl (Ar (v := (.bool (Bx y))) s0 rfl (.cons .sc .nil) (Mm (n + 3) (by omega) y (hp.w2 y (by rw [he]; simp)) (Pp (hp.w2 y (by rw [he]; simp)))) (Cr (Aa ((Bx y)) (fun h201 => ?_) fun h201 => ?_)))))))))))
  refine Au (nF h201) (Bw (by omega) (by omega) ?_)
  have e202 : ((y :: t).all Bx && (Bu p.fId 1 65535 && Bu ((p.fNames.length : Nat) : Int) 1 4)) = (t.all Bx && (Bu p.fId 1 65535 && Bu ((p.fNames.length : Nat) : Int) 1 4)) := by
   simp only [zax, Cf, Cc, h3, h28, h29, h38, h39, h44, h45, h46, h47, h48, h49, h201, zaK, zbt, zaN, zb1, zbE, zbJ, zaV, za0, za2]
  rw [e202]
  exact Qy n hn p hp h3 h28 h29 h38 h39 h44 h45 h46 h47 h48 h49  t (pre ++ [y]) m _ i1 _ (by rw [he]; simp) (by rw [hi]; simp) (by simpa using hm) (by simpa only [za3, zaq, zaB] using (s0.sel (.cons (.here) .nil)))
  refine Ap (nT h201) (Al rfl ?_)
  have e : ((y :: t).all Bx && (Bu p.fId 1 65535 && Bu ((p.fNames.length : Nat) : Int) 1 4)) = false := by
   simp only [zax, zaH, Cf, Cc, h3, h28, h29, h38, h39, h44, h45, h46, h47, h48, h49, h201, D9]
  rw [e]
theorem AeL (n : Nat) (hn : 1048576 < n) (p : PacketV) (hp : G0 p) : C0 E0 (n + 10) 4 64 [.agg (An p)] = some (.sc (.bool (A1 p))) := by
 rw [A7, Aln, f64]
 refine Cm (G := (· = some (sb (A1 p)))) ?_
 have hl1 := hp.l1
 have hl2 := hp.l2
 have hl3 := hp.l3
 try simp only [Fa, E9]
 have s0 : Sep [] [] := Ch
 refine Om s0 (Gw (Ct _)) fun i1 H s2 => Nl (Ao (c := si p.fType) s2 (.here) rfl (Ar (v := (.bool (Bu p.fType 1 14))) s2 rfl (P0 .nil) (Hh (n + 8) _ p.fType 1 14) (Cr (Aa ((Bu p.fType 1 14)) (fun h3 => ?_) fun h3 => ?_))))
 refine Af (nF h3) (Aq s2 (.here) rfl (Gd.bothE ?_ ?_))
 refine Af (nF h3) (Aq s2 (.here) rfl (Af (nF h3) (Jw rfl rfl (Xl (n + 8) (by omega) p s2 fun Rs4 H hRs4 s4 => Af (nF h3) (Ar (v := (.bool (Ce p (Aw true p)))) s4 rfl (.aggF (Ct _) (.agg (hRs4 _) .nil)) (Ou (n + 7) (by omega) _ p (Aw true p) hp.l1 hp.l2 hp.l3) (Af (nF h3) (Cr (E1 (nF h3) (Aa ((Ce p (Aw true p))) (fun h5 => ?_) fun h5 => ?_)))))))))
 refine Au (nF h5) (Ig (Ao (c := si p.fId) s4 (.here) rfl (Ar (v := (.bool (Bu p.fId 1 65535))) s4 rfl (P0 .nil) (Hh (n + 8) _ p.fId 1 65535) (Nl (Ao (c := si p.fType) s4 (.here) rfl (Ba (Aa ((decide (p.fType = 1))) (fun h6 => ?_) fun h6 => ?_)))))))
 refine Ap h6 (Qp (Ao (c := sb p.fHasWill) s4 (.here) rfl ?_))
 apply Br (p.fHasWill && (((!(C3 p.fWTopic)) || (decide (40 < ((p.fWBody.size : Nat) : Int)))) || (!(Bu p.fWQos 0 2))))
 intro b7 q7
 refine Aa (p.fHasWill) (fun h7 => ?_) fun h7 => ?_
 refine Af h7 (Wf (Af h7 (Ao (c := ss p.fWTopic) s4 (.here) rfl (Af h7 (Ar (v := (.bool (C3 p.fWTopic))) s4 rfl (.cons .sc .nil) (Of (n + 4) (by omega) _ p.fWTopic hp.t3) (Af h7 (Cr (Af h7 ?_))))))))
 apply Br ((!(C3 p.fWTopic)) || (decide (40 < ((p.fWBody.size : Nat) : Int))))
 intro b8 q8
 refine Aa ((C3 p.fWTopic)) (fun h8 => ?_) fun h8 => ?_
 exact Af (nF h8) (Wg (Af (nF h8) (Ao (c := Ad p.fWBody) s4 (.here) rfl (Af (nF h8) (Cu (Af (nF h8) (Eb (Af h7 (Db (nF h8) (mOF q8 (nF h8)) A0)))))))))
 exact Ae (nT h8) (Ae (nT h8) (Ae (nT h8) (Ae (nT h8) (Af h7 (Dc (nT h8) (mOT q8 (nT h8)) A0)))))
 intro b8 q8
 refine Af h7 ?_
 apply Br (b8 || (!(Bu p.fWQos 0 2)))
 intro b9 q9
 refine Aa (b8) (fun h9 => ?_) fun h9 => ?_
 exact Ae h9 (Ae h9 (Ae h9 (Ae h9 (Af h7 (Dc h9 (mOT q9 h9) A0)))))
 exact Af h9 (Wh (Af h9 (Ao (c := si p.fWQos) s4 (.here) rfl (Af h9 (Ar (v := (.bool (Bu p.fWQos 0 2))) s4 rfl (P0 .nil) (Hh (n + 8) _ p.fWQos 0 2) (Af h9 (Cr (Af h7 (Db h9 (mOF q9 h9) A0)))))))))
 intro b9 q9
 exact Dc h7 (by subst q9 q8; exact Fp q7 h7) A0
 exact Ae h7 (Ae h7 (Ae h7 (Ae h7 (Ae h7 (Ef (Ef (Ef (Ef (Ae h7 (Ae h7 (Ef (Ef (Ef (Ef (Ae h7 (Db h7 (Fo q7 h7) A0))))))))))))))))
 intro b7 q7
 refine Aa (b7) (fun h10 => ?_) fun h10 => ?_
 refine Ap h10 (Al rfl ?_)
 have e : A1 p = false := by
  try simp only [Cs] at h6
  unfold A1 Ed
  (simp only [h3, h5, h10, D9]; grind)
 rw [e]
 refine Au h10 (gf8 (Ao (c := si p.fLevel) s4 (.here) rfl (Ar (v := (.bool (Bu p.fLevel 0 255))) s4 rfl (P0 .nil) (Hh (n + 8) _ p.fLevel 0 255) ?_)))
 apply Br ((Bu p.fLevel 0 255) && (Bo p.fClient))
 intro b11 q11
 refine Aa ((Bu p.fLevel 0 255)) (fun h11 => ?_) fun h11 => ?_
 exact Af h11 (gf7 (Af h11 (Ao (c := ss p.fClient) s4 (.here) rfl (Af h11 (Ar (v := (.bool (Bo p.fClient))) s4 rfl (.cons .sc .nil) (I3 (n + 5) (by omega) _ p.fClient) (Dc h11 (Fp q11 h11) A0))))))
 exact Ae h11 (Ae h11 (Ae h11 (Db h11 (Fo q11 h11) A0)))
 intro b11 q11
 apply Br (b11 && (Bu p.fKeep 0 65535))
 intro b12 q12
 refine Aa (b11) (fun h12 => ?_) fun h12 => ?_
 exact Af h12 (We (Af h12 (Ao (c := si p.fKeep) s4 (.here) rfl (Af h12 (Ar (v := (.bool (Bu p.fKeep 0 65535))) s4 rfl (P0 .nil) (Hh (n + 8) _ p.fKeep 0 65535) (Dc h12 (Fp q12 h12) A0))))))
 exact Ae h12 (Ae h12 (Ae h12 (Db h12 (Fo q12 h12) A0)))
 intro b12 q12
 apply Br (b12 && (Bo p.fUser))
 intro b13 q13
 refine Aa (b12) (fun h13 => ?_) fun h13 => ?_
 exact Af h13 (Pg (Af h13 (Ao (c := ss p.fUser) s4 (.here) rfl (Af h13 (Ar (v := (.bool (Bo p.fUser))) s4 rfl (.cons .sc .nil) (I3 (n + 5) (by omega) _ p.fUser) (Dc h13 (Fp q13 h13) A0))))))
 exact Ae h13 (Ae h13 (Ae h13 (Db h13 (Fo q13 h13) A0)))
 intro b13 q13
 apply Br (b13 && (decide (((p.fPass.size : Nat) : Int) ≤ 60)))
 intro b14 q14
 refine Aa (b13) (fun h14 => ?_) fun h14 => ?_
 exact Af h14 (Ms (Af h14 (Ao (c := Ad p.fPass) s4 (.here) rfl (Af h14 (Cu (Af h14 (Pd (Dc h14 (Fp q14 h14) A0))))))))
 exact Ae h14 (Ae h14 (Ae h14 (Ae h14 (Db h14 (Fo q14 h14) A0))))
 intro b14 q14
 refine Al rfl ?_
 have e : A1 p = b14 := by
  try simp only [Cs] at h6
  unfold A1 Ed
  (simp only [h3, h5, h10, D9]; grind)
 rw [e]
 refine Au h6 (Ba (Aa ((decide (p.fType = 2))) (fun h15 => ?_) fun h15 => ?_))
 refine Ap h15 (Q9 (Ao (c := si p.fCode) s4 (.here) rfl (Ar (v := (.bool (Bu p.fCode 0 5))) s4 rfl (P0 .nil) (Hh (n + 8) _ p.fCode 0 5) (Al rfl ?_))))
 have e : A1 p = (Bu p.fCode 0 5) := by
  try simp only [Cs] at h6 h15
  unfold A1 Ed
  simp only [h3, h5, D9]; simp [h6, h15]
 rw [e]
 refine Au h15 (Ba (Aa ((decide (p.fType = 3))) (fun h16 => ?_) fun h16 => ?_))
 refine Ap h16 (Ox (Ao (c := si p.fQos) s4 (.here) rfl (Ar (v := (.bool (Bu p.fQos 0 2))) s4 rfl (P0 .nil) (Hh (n + 8) _ p.fQos 0 2) ?_)))
 apply Br ((Bu p.fQos 0 2) && ((decide (p.fQos = 0)) || (Bu p.fId 1 65535)))
 intro b17 q17
 refine Aa ((Bu p.fQos 0 2)) (fun h17 => ?_) fun h17 => ?_
 refine Af h17 (Ox (Af h17 (Ao (c := si p.fQos) s4 (.here) rfl (Af h17 (Ba (Af h17 ?_))))))
 apply Br ((decide (p.fQos = 0)) || (Bu p.fId 1 65535))
 intro b18 q18
 refine Aa ((decide (p.fQos = 0))) (fun h18 => ?_) fun h18 => ?_
 exact Ae h18 (Af h17 (Dc h18 (mOT q18 h18) A0))
 exact Af h18 (Af h17 (Db h18 (mOF q18 h18) A0))
 intro b18 q18
 exact Dc h17 (by subst q18; exact Fp q17 h17) A0
 exact Ae h17 (Ae h17 (Ae h17 (Ae h17 (Ef (Ae h17 (Db h17 (Fo q17 h17) A0))))))
 intro b17 q17
 apply Br (b17 && (C3 p.fTopic))
 intro b19 q19
 refine Aa (b17) (fun h19 => ?_) fun h19 => ?_
 exact Af h19 (gf5 (Af h19 (Ao (c := ss p.fTopic) s4 (.here) rfl (Af h19 (Ar (v := (.bool (C3 p.fTopic))) s4 rfl (.cons .sc .nil) (Of (n + 4) (by omega) _ p.fTopic hp.t1) (Dc h19 (Fp q19 h19) A0))))))
 exact Ae h19 (Ae h19 (Ae h19 (Db h19 (Fo q19 h19) A0)))
 intro b19 q19
 apply Br (b19 && (decide (((p.fBody.size : Nat) : Int) ≤ 40)))
 intro b20 q20
 refine Aa (b19) (fun h20 => ?_) fun h20 => ?_
 exact Af h20 (gf6 (Af h20 (Ao (c := Ad p.fBody) s4 (.here) rfl (Af h20 (Cu (Af h20 (Pd (Dc h20 (Fp q20 h20) A0))))))))
 exact Ae h20 (Ae h20 (Ae h20 (Ae h20 (Db h20 (Fo q20 h20) A0))))
 intro b20 q20
 refine Al rfl ?_
 have e : A1 p = b20 := by
  try simp only [Cs] at h6 h15 h16
  unfold A1 Ed
  (simp only [h3, h5, D9]; grind)
 rw [e]
 refine Au h16 (Ba (C8 (Aa ((decide (p.fType = 12))) (fun h21 => ?_) fun h21 => ?_)))
 refine Ap h21 (Ap h21 (Al rfl ?_))
 have e : A1 p = true := by
  try simp only [Cs] at h6 h15 h16 h21
  unfold A1 Ed
  simp only [h3, h5, D9]; simp [h6, h15, h16, h21]
 rw [e]
 refine Au h21 (Ba (Aa ((decide (p.fType = 13))) (fun h22 => ?_) fun h22 => ?_))
 refine Ap h22 (Ap h22 (Al rfl ?_))
 have e : A1 p = true := by
  try simp only [Cs] at h6 h15 h16 h21 h22
  unfold A1 Ed
  simp only [h3, h5, D9]; simp [h6, h15, h16, h21, h22]
 rw [e]
 refine Au h22 (Ba (Aa ((decide (p.fType = 14))) (fun h23 => ?_) fun h23 => ?_))
 refine Ap h23 (Al rfl ?_)
 have e : A1 p = true := by
  try simp only [Cs] at h6 h15 h16 h21 h22 h23
  unfold A1 Ed
  simp only [h3, h5, D9]; simp [h6, h15, h16, h21, h22, h23]
 rw [e]
 refine Au h23 (Ba (Aa ((decide (p.fType = 8))) (fun h24 => ?_) fun h24 => ?_))
 refine Ap h24 ?_
 have hv : A1 p = (p.fWants.all Cf && (Bu p.fId 1 65535 && Bu ((p.fWants.length : Nat) : Int) 1 4)) := by
  try simp only [Cs] at h6 h15 h16 h21 h22 h23 h24
  unfold A1 Ed
  simp only [h3, h5, D9]; simp [h6, h15, h16, h21, h22, h23, h24]
 rw [hv]
 exact Ss n hn p hp h3 h5 h6 h15 h16 h21 h22 h23 h24  p.fWants [] _ 0 i1 _ rfl rfl (by omega) s4
 refine Au h24 (Ba (Aa ((decide (p.fType = 9))) (fun h25 => ?_) fun h25 => ?_))
 refine Ap h25 ?_
 have hv : A1 p = (p.fCodes.all Cc && (Bu p.fId 1 65535 && Bu ((p.fCodes.length : Nat) : Int) 1 4)) := by
  try simp only [Cs] at h6 h15 h16 h21 h22 h23 h24 h25
  unfold A1 Ed
  simp only [h3, h5, D9]; simp [h6, h15, h16, h21, h22, h23, h24, h25]
 rw [hv]
 exact Su n hn p hp h3 h5 h6 h15 h16 h21 h22 h23 h24 h25  p.fCodes [] _ 0 i1 _ rfl rfl (by omega) s4
 refine Au h25 (Ba (Aa ((decide (p.fType = 10))) (fun h26 => ?_) fun h26 => ?_))
 refine Ap h26 ?_
 have hv : A1 p = (p.fNames.all Bx && (Bu p.fId 1 65535 && Bu ((p.fNames.length : Nat) : Int) 1 4)) := by
  try simp only [Cs] at h6 h15 h16 h21 h22 h23 h24 h25 h26
  unfold A1 Ed
  simp only [h3, h5, D9]; simp [h6, h15, h16, h21, h22, h23, h24, h25, h26]
 rw [hv]
 exact Sv n hn p hp h3 h5 h6 h15 h16 h21 h22 h23 h24 h25 h26  p.fNames [] _ 0 i1 _ rfl rfl (by omega) s4
 refine Au h26 (Al rfl ?_)
 have e : A1 p = (Bu p.fId 1 65535) := by
  try simp only [Cs] at h6 h15 h16 h21 h22 h23 h24 h25 h26
  unfold A1 Ed
  simp only [h3, h5, D9]; simp [h6, h15, h16, h21, h22, h23, h24, h25, h26]
 rw [e]
 refine Ap (nT h5) (Al rfl ?_)
 have e : A1 p = false := by
  unfold A1 Ed
  simp only [h3, h5, D9]
 rw [e]
 refine Af (nF h3) (Jw rfl rfl (Xl (n + 8) (by omega) p s2 fun Rs27 H hRs27 s27 => Af (nF h3) (Aq s27 (.here) rfl (Af (nF h3) (Ar (v := (.bool (Ce p (Aw true p)))) s27 rfl (.aggF (Ct _) (.agg (hRs27 _) .nil)) (Ou (n + 7) (by omega) _ p (Aw true p) hp.l1 hp.l2 hp.l3) (Af (nF h3) (Cr (E1 (nF h3) (Aa ((Ce p (Aw true p))) (fun h28 => ?_) fun h28 => ?_)))))))))
 refine Au (nF h28) (Ig (Ao (c := si p.fId) s27 (.here) rfl (Ar (v := (.bool (Bu p.fId 1 65535))) s27 rfl (P0 .nil) (Hh (n + 8) _ p.fId 1 65535) (Nl (Ao (c := si p.fType) s27 (.here) rfl (Ba (Aa ((decide (p.fType = 1))) (fun h29 => ?_) fun h29 => ?_)))))))
 refine Ap h29 (Qp (Ao (c := sb p.fHasWill) s27 (.here) rfl ?_))
 apply Br (p.fHasWill && (((!(C3 p.fWTopic)) || (decide (40 < ((p.fWBody.size : Nat) : Int)))) || (!(Bu p.fWQos 0 2))))
 intro b30 q30
 refine Aa (p.fHasWill) (fun h30 => ?_) fun h30 => ?_
 refine Af h30 (Wf (Af h30 (Ao (c := ss p.fWTopic) s27 (.here) rfl (Af h30 (Ar (v := (.bool (C3 p.fWTopic))) s27 rfl (.cons .sc .nil) (Of (n + 4) (by omega) _ p.fWTopic hp.t3) (Af h30 (Cr (Af h30 ?_))))))))
 apply Br ((!(C3 p.fWTopic)) || (decide (40 < ((p.fWBody.size : Nat) : Int))))
 intro b31 q31
 refine Aa ((C3 p.fWTopic)) (fun h31 => ?_) fun h31 => ?_
 exact Af (nF h31) (Wg (Af (nF h31) (Ao (c := Ad p.fWBody) s27 (.here) rfl (Af (nF h31) (Cu (Af (nF h31) (Eb (Af h30 (Db (nF h31) (mOF q31 (nF h31)) A0)))))))))
 exact Ae (nT h31) (Ae (nT h31) (Ae (nT h31) (Ae (nT h31) (Af h30 (Dc (nT h31) (mOT q31 (nT h31)) A0)))))
 intro b31 q31
 refine Af h30 ?_
 apply Br (b31 || (!(Bu p.fWQos 0 2)))
 intro b32 q32
 refine Aa (b31) (fun h32 => ?_) fun h32 => ?_
 exact Ae h32 (Ae h32 (Ae h32 (Ae h32 (Af h30 (Dc h32 (mOT q32 h32) A0)))))
 exact Af h32 (Wh (Af h32 (Ao (c := si p.fWQos) s27 (.here) rfl (Af h32 (Ar (v := (.bool (Bu p.fWQos 0 2))) s27 rfl (P0 .nil) (Hh (n + 8) _ p.fWQos 0 2) (Af h32 (Cr (Af h30 (Db h32 (mOF q32 h32) A0)))))))))
 intro b32 q32
 exact Dc h30 (by subst q32 q31; exact Fp q30 h30) A0
 exact Ae h30 (Ae h30 (Ae h30 (Ae h30 (Ae h30 (Ef (Ef (Ef (Ef (Ae h30 (Ae h30 (Ef (Ef (Ef (Ef (Ae h30 (Db h30 (Fo q30 h30) A0))))))))))))))))
 intro b30 q30
 refine Aa (b30) (fun h33 => ?_) fun h33 => ?_
 refine Ap h33 (Al rfl ?_)
 have e : A1 p = false := by
  try simp only [Cs] at h29
  unfold A1 Ed
  (simp only [h3, h28, h33, D9]; grind)
 rw [e]
 refine Au h33 (gf8 (Ao (c := si p.fLevel) s27 (.here) rfl (Ar (v := (.bool (Bu p.fLevel 0 255))) s27 rfl (P0 .nil) (Hh (n + 8) _ p.fLevel 0 255) ?_)))
 apply Br ((Bu p.fLevel 0 255) && (Bo p.fClient))
 intro b34 q34
 refine Aa ((Bu p.fLevel 0 255)) (fun h34 => ?_) fun h34 => ?_
 exact Af h34 (gf7 (Af h34 (Ao (c := ss p.fClient) s27 (.here) rfl (Af h34 (Ar (v := (.bool (Bo p.fClient))) s27 rfl (.cons .sc .nil) (I3 (n + 5) (by omega) _ p.fClient) (Dc h34 (Fp q34 h34) A0))))))
 exact Ae h34 (Ae h34 (Ae h34 (Db h34 (Fo q34 h34) A0)))
 intro b34 q34
 apply Br (b34 && (Bu p.fKeep 0 65535))
 intro b35 q35
 refine Aa (b34) (fun h35 => ?_) fun h35 => ?_
 exact Af h35 (We (Af h35 (Ao (c := si p.fKeep) s27 (.here) rfl (Af h35 (Ar (v := (.bool (Bu p.fKeep 0 65535))) s27 rfl (P0 .nil) (Hh (n + 8) _ p.fKeep 0 65535) (Dc h35 (Fp q35 h35) A0))))))
 exact Ae h35 (Ae h35 (Ae h35 (Db h35 (Fo q35 h35) A0)))
 intro b35 q35
 apply Br (b35 && (Bo p.fUser))
 intro b36 q36
 refine Aa (b35) (fun h36 => ?_) fun h36 => ?_
 exact Af h36 (Pg (Af h36 (Ao (c := ss p.fUser) s27 (.here) rfl (Af h36 (Ar (v := (.bool (Bo p.fUser))) s27 rfl (.cons .sc .nil) (I3 (n + 5) (by omega) _ p.fUser) (Dc h36 (Fp q36 h36) A0))))))
 exact Ae h36 (Ae h36 (Ae h36 (Db h36 (Fo q36 h36) A0)))
 intro b36 q36
 apply Br (b36 && (decide (((p.fPass.size : Nat) : Int) ≤ 60)))
 intro b37 q37
 refine Aa (b36) (fun h37 => ?_) fun h37 => ?_
 exact Af h37 (Ms (Af h37 (Ao (c := Ad p.fPass) s27 (.here) rfl (Af h37 (Cu (Af h37 (Pd (Dc h37 (Fp q37 h37) A0))))))))
 exact Ae h37 (Ae h37 (Ae h37 (Ae h37 (Db h37 (Fo q37 h37) A0))))
 intro b37 q37
 refine Al rfl ?_
 have e : A1 p = b37 := by
  try simp only [Cs] at h29
  unfold A1 Ed
  (simp only [h3, h28, h33, D9]; grind)
 rw [e]
 refine Au h29 (Ba (Aa ((decide (p.fType = 2))) (fun h38 => ?_) fun h38 => ?_))
 refine Ap h38 (Q9 (Ao (c := si p.fCode) s27 (.here) rfl (Ar (v := (.bool (Bu p.fCode 0 5))) s27 rfl (P0 .nil) (Hh (n + 8) _ p.fCode 0 5) (Al rfl ?_))))
 have e : A1 p = (Bu p.fCode 0 5) := by
  try simp only [Cs] at h29 h38
  unfold A1 Ed
  simp only [h3, h28, D9]; simp [h29, h38]
 rw [e]
 refine Au h38 (Ba (Aa ((decide (p.fType = 3))) (fun h39 => ?_) fun h39 => ?_))
 refine Ap h39 (Ox (Ao (c := si p.fQos) s27 (.here) rfl (Ar (v := (.bool (Bu p.fQos 0 2))) s27 rfl (P0 .nil) (Hh (n + 8) _ p.fQos 0 2) ?_)))
 apply Br ((Bu p.fQos 0 2) && ((decide (p.fQos = 0)) || (Bu p.fId 1 65535)))
 intro b40 q40
 refine Aa ((Bu p.fQos 0 2)) (fun h40 => ?_) fun h40 => ?_
 refine Af h40 (Ox (Af h40 (Ao (c := si p.fQos) s27 (.here) rfl (Af h40 (Ba (Af h40 ?_))))))
 apply Br ((decide (p.fQos = 0)) || (Bu p.fId 1 65535))
 intro b41 q41
 refine Aa ((decide (p.fQos = 0))) (fun h41 => ?_) fun h41 => ?_
 exact Ae h41 (Af h40 (Dc h41 (mOT q41 h41) A0))
 exact Af h41 (Af h40 (Db h41 (mOF q41 h41) A0))
 intro b41 q41
 exact Dc h40 (by subst q41; exact Fp q40 h40) A0
 exact Ae h40 (Ae h40 (Ae h40 (Ae h40 (Ef (Ae h40 (Db h40 (Fo q40 h40) A0))))))
 intro b40 q40
 apply Br (b40 && (C3 p.fTopic))
 intro b42 q42
 refine Aa (b40) (fun h42 => ?_) fun h42 => ?_
 exact Af h42 (gf5 (Af h42 (Ao (c := ss p.fTopic) s27 (.here) rfl (Af h42 (Ar (v := (.bool (C3 p.fTopic))) s27 rfl (.cons .sc .nil) (Of (n + 4) (by omega) _ p.fTopic hp.t1) (Dc h42 (Fp q42 h42) A0))))))
 exact Ae h42 (Ae h42 (Ae h42 (Db h42 (Fo q42 h42) A0)))
 intro b42 q42
 apply Br (b42 && (decide (((p.fBody.size : Nat) : Int) ≤ 40)))
 intro b43 q43
 refine Aa (b42) (fun h43 => ?_) fun h43 => ?_
 exact Af h43 (gf6 (Af h43 (Ao (c := Ad p.fBody) s27 (.here) rfl (Af h43 (Cu (Af h43 (Pd (Dc h43 (Fp q43 h43) A0))))))))
 exact Ae h43 (Ae h43 (Ae h43 (Ae h43 (Db h43 (Fo q43 h43) A0))))
 intro b43 q43
 refine Al rfl ?_
 have e : A1 p = b43 := by
  try simp only [Cs] at h29 h38 h39
  unfold A1 Ed
  (simp only [h3, h28, D9]; grind)
 rw [e]
 refine Au h39 (Ba (C8 (Aa ((decide (p.fType = 12))) (fun h44 => ?_) fun h44 => ?_)))
 refine Ap h44 (Ap h44 (Al rfl ?_))
 have e : A1 p = true := by
  try simp only [Cs] at h29 h38 h39 h44
  unfold A1 Ed
  simp only [h3, h28, D9]; simp [h29, h38, h39, h44]
 rw [e]
 refine Au h44 (Ba (Aa ((decide (p.fType = 13))) (fun h45 => ?_) fun h45 => ?_))
 refine Ap h45 (Ap h45 (Al rfl ?_))
 have e : A1 p = true := by
  try simp only [Cs] at h29 h38 h39 h44 h45
  unfold A1 Ed
  simp only [h3, h28, D9]; simp [h29, h38, h39, h44, h45]
 rw [e]
 refine Au h45 (Ba (Aa ((decide (p.fType = 14))) (fun h46 => ?_) fun h46 => ?_))
 refine Ap h46 (Al rfl ?_)
 have e : A1 p = true := by
  try simp only [Cs] at h29 h38 h39 h44 h45 h46
  unfold A1 Ed
  simp only [h3, h28, D9]; simp [h29, h38, h39, h44, h45, h46]
 rw [e]
 refine Au h46 (Ba (Aa ((decide (p.fType = 8))) (fun h47 => ?_) fun h47 => ?_))
 refine Ap h47 ?_
 have hv : A1 p = (p.fWants.all Cf && (Bu p.fId 1 65535 && Bu ((p.fWants.length : Nat) : Int) 1 4)) := by
  try simp only [Cs] at h29 h38 h39 h44 h45 h46 h47
  unfold A1 Ed
  simp only [h3, h28, D9]; simp [h29, h38, h39, h44, h45, h46, h47]
 rw [hv]
 exact Qw n hn p hp h3 h28 h29 h38 h39 h44 h45 h46 h47  p.fWants [] _ 0 i1 _ rfl rfl (by omega) s27
 refine Au h47 (Ba (Aa ((decide (p.fType = 9))) (fun h48 => ?_) fun h48 => ?_))
 refine Ap h48 ?_
 have hv : A1 p = (p.fCodes.all Cc && (Bu p.fId 1 65535 && Bu ((p.fCodes.length : Nat) : Int) 1 4)) := by
  try simp only [Cs] at h29 h38 h39 h44 h45 h46 h47 h48
  unfold A1 Ed
  simp only [h3, h28, D9]; simp [h29, h38, h39, h44, h45, h46, h47, h48]
 rw [hv]
 exact Qx n hn p hp h3 h28 h29 h38 h39 h44 h45 h46 h47 h48  p.fCodes [] _ 0 i1 _ rfl rfl (by omega) s27
 refine Au h48 (Ba (Aa ((decide (p.fType = 10))) (fun h49 => ?_) fun h49 => ?_))
 refine Ap h49 ?_
 have hv : A1 p = (p.fNames.all Bx && (Bu p.fId 1 65535 && Bu ((p.fNames.length : Nat) : Int) 1 4)) := by
  try simp only [Cs] at h29 h38 h39 h44 h45 h46 h47 h48 h49
  unfold A1 Ed
  simp only [h3, h28, D9]; simp [h29, h38, h39, h44, h45, h46, h47, h48, h49]
 rw [hv]
 exact Qy n hn p hp h3 h28 h29 h38 h39 h44 h45 h46 h47 h48 h49  p.fNames [] _ 0 i1 _ rfl rfl (by omega) s27
 refine Au h49 (Al rfl ?_)
 have e : A1 p = (Bu p.fId 1 65535) := by
  try simp only [Cs] at h29 h38 h39 h44 h45 h46 h47 h48 h49
  unfold A1 Ed
  simp only [h3, h28, D9]; simp [h29, h38, h39, h44, h45, h46, h47, h48, h49]
 rw [e]
 refine Ap (nT h28) (Al rfl ?_)
 have e : A1 p = false := by
  unfold A1 Ed
  simp only [h3, h28, D9]
 rw [e]
 refine Ae (nT h3) (Gd.bothE ?_ ?_)
 refine Ae (nT h3) (Ae (nT h3) (Ae (nT h3) (Ae (nT h3) (E2 (nT h3) (Ap rfl (Al rfl ?_))))))
 have e : A1 p = false := by
  unfold A1 Ed
  simp only [h3, D9]
 rw [e]
 refine Ae (nT h3) (Ae (nT h3) (Ae (nT h3) (Ae (nT h3) (E2 (nT h3) (Ap rfl (Al rfl ?_))))))
 have e : A1 p = false := by
  unfold A1 Ed
  simp only [h3, D9]
 rw [e]
theorem Ju {α : Type} {e : α → α → Bool} {a : List α} (h : G2 e a [] = true) : a = [] := by
 cases a with
 | nil => rfl
 | cons x l => simp [G2] at h
theorem AlX (p : PacketV) : A1 p = Am p := by
 unfold A1 Am
 cases hi : Bu p.fType 1 14
 rfl
 simp only [zaK]
 have hi2 : 1 ≤ p.fType ∧ p.fType ≤ 14 := by simpa [Bu] using hi
 by_cases h2 : p.fType = 2
 have e1 : Aw true p = { B3 p.fType with fCode := p.fCode, fPresent := p.fPresent && decide (p.fCode = 0) } := by unfold Aw; simp [h2]
 have e2 : Aw false p = { B3 p.fType with fCode := p.fCode, fPresent := p.fPresent } := by unfold Aw; simp [h2]
 have k1 : Ed p = Bu p.fCode 0 5 := by unfold Ed; simp [h2]
 have k2 : Cj p = (Bu p.fCode 0 5 && (!p.fPresent || decide (p.fCode = 0))) := by unfold Cj; simp [h2]
 rw [e1, e2, k1, k2]
 cases hp : p.fPresent
 simp
 by_cases hc : p.fCode = 0
 simp [hc]
 have : Ce p { B3 p.fType with fCode := p.fCode, fPresent := true && decide (p.fCode = 0) } = false := by
  unfold Ce Gy
  simp [hp, hc]
 rw [this]
 simp [hc]
 have hn : Aw true p = Aw false p := by unfold Aw; simp [h2]
 rw [hn]
 cases hs : Ce p (Aw false p)
 rfl
 simp only [zaK]
 have hl : L4 p (Aw false p) = true := by
  unfold Ce at hs
  rw [zag] at hs
  exact hs.1
 unfold L4 at hl
 simp only [zag] at hl
 obtain ⟨⟨l1, l2⟩, l3⟩ := hl
 by_cases h1 : p.fType = 1
 unfold Ed Cj Hj
 simp only [h1, if_true]
 generalize decide (((p.fWBody.size : Nat) : Int) ≤ 40) = b1
 generalize decide (((p.fPass.size : Nat) : Int) ≤ 60) = b2
 cases p.fHasWill <;> cases C3 p.fWTopic <;> cases Bu p.fLevel 0 255 <;> cases Bo p.fClient <;> cases Bu p.fKeep 0 65535 <;> cases Bo p.fUser <;> cases Bu p.fWQos 0 2 <;> cases b1 <;> cases b2 <;> rfl
 by_cases h3 : p.fType = 3
 unfold Ed Cj
 simp only [h3, if_true, show ¬ (3 : Int) = 1 by decide, show ¬ (3 : Int) = 2 by decide, if_false]
 generalize decide (p.fQos = 0) = b1
 generalize decide (((p.fBody.size : Nat) : Int) ≤ 40) = b2
 cases Bu p.fQos 0 2 <;> cases C3 p.fTopic <;> cases Bu p.fId 1 65535 <;> cases b1 <;> cases b2 <;> rfl
 by_cases h8 : p.fType = 8
 have f2 : (Aw false p).fNames = [] := by unfold Aw; simp [h8, B3]
 have f3 : (Aw false p).fCodes = [] := by unfold Aw; simp [h8, B3]
 rw [f2] at l2
 rw [f3] at l3
 unfold Ed Cj Ey Iv Jj F8
 rw [Ju l2, Ju l3]
 simp only [h8, if_true, if_false]
 cases p.fWants.all Cf <;> cases Bu p.fId 1 65535 <;> simp
 by_cases h9 : p.fType = 9
 have f1 : (Aw false p).fWants = [] := by unfold Aw; simp [h9, B3]
 have f2 : (Aw false p).fNames = [] := by unfold Aw; simp [h9, B3]
 rw [f1] at l1
 rw [f2] at l2
 unfold Ed Cj Ey Iv Jj F8
 rw [Ju l1, Ju l2]
 simp only [h9, if_true, if_false]
 cases p.fCodes.all Cc <;> cases Bu p.fId 1 65535 <;> simp
 by_cases h10 : p.fType = 10
 have f1 : (Aw false p).fWants = [] := by unfold Aw; simp [h10, B3]
 have f3 : (Aw false p).fCodes = [] := by unfold Aw; simp [h10, B3]
 rw [f1] at l1
 rw [f3] at l3
 unfold Ed Cj Ey Iv Jj F8
 rw [Ju l1, Ju l3]
 simp only [h10, if_true, if_false]
 cases p.fNames.all Bx <;> cases Bu p.fId 1 65535 <;> simp
 unfold Ed Cj
 by_cases h12 : p.fType = 12 ∨ p.fType = 13 ∨ p.fType = 14
 rw [if_neg h1, if_neg h2, if_neg h3, if_pos h12, if_neg h1, if_neg h2, if_neg h3, if_neg (by omega), if_neg (by omega)]
 rw [if_neg h1, if_neg h2, if_neg h3, if_neg h12, if_neg h8, if_neg h9, if_neg h10, if_neg h1, if_neg h2, if_neg h3, if_pos (by omega)]
theorem Tn (n : Nat) (hn : 1048576 < n) (p : PacketV) (hp : G0 p) : C0 E0 (n + 10) 4 64 [.agg (An p)] = some (.sc (.bool (Am p))) := by
 rw [← AlX]
 exact AeL n hn p hp
end
section
open Go
section
variable {β : Type} {n : Nat} {H : Ab} {L L' L1 L2 : List Ck} {G : Option β → Prop} {K : AV → Option β} {KH : KO β}
theorem Md (n : Int) : bits .and .i64 n 255 = n % 256 := by
 have h255 : (BitVec.ofInt 64 255).toNat = 2 ^ 8 - 1 := by decide
 have key : (BitVec.ofInt 64 n &&& BitVec.ofInt 64 255).toNat = (n % ((2 ^ 64 : Nat) : Int)).toNat % 2 ^ 8 := by
  rw [BitVec.toNat_and, BitVec.toNat_ofInt, h255, Nat.and_two_pow_sub_one_eq_mod]
 show IntKind.i64.wrap ((BitVec.ofInt 64 n &&& BitVec.ofInt 64 255).toNat : Nat) = n % 256
 rw [key, IntKind.wrap_i64]
 omega
theorem Nk (n : Int) (h0 : 0 ≤ n) (h1 : n < 2 ^ 63) : IntKind.i64.wrap n = n := by rw [IntKind.wrap_i64]; omega
theorem Ur (i : Nat) (x y : Int) (hx0 : 0 ≤ x) (hx : x % 2 ^ i = 0) (hx1 : x < 9223372036854775808) (hy0 : 0 ≤ y) (hy : y < 2 ^ i) (hy1 : y < 9223372036854775808) : bits .or .i64 x y = x + y := bits_join .i64 63 (by decide) Nk i x y hx0 hx (by omega) hy0 hy (by omega)
theorem AlV (i : Nat) (x y : Int) (hx0 : 0 ≤ x) (hx : x % 2 ^ i = 0) (hx1 : x < 9223372036854775808) (hy0 : 0 ≤ y) (hy : y < 2 ^ i) (hy1 : y < 9223372036854775808) : bits .or .i64 y x = y + x := by
 have h := Ur i x y hx0 hx hx1 hy0 hy hy1
 obtain ⟨a, rfl⟩ := zbi hx0
 obtain ⟨b, rfl⟩ := zbi hy0
 rw [(bits_nat .i64 63 (by decide) Nk a b (by omega) (by omega)).2] at h
 rw [(bits_nat .i64 63 (by decide) Nk b a (by omega) (by omega)).2, Nat.or_comm, h, zbK]
theorem AeH {x y : Int} (hx0 : 0 ≤ x) (hx1 : x < 9223372036854775808) (hy0 : 0 ≤ y) (hy1 : y < 9223372036854775808) : 0 ≤ bits .or .i64 x y ∧ bits .or .i64 x y < 9223372036854775808 := by
 obtain ⟨a, rfl⟩ := zbi hx0
 obtain ⟨b, rfl⟩ := zbi hy0
 rw [(bits_nat .i64 63 (by decide) Nk a b (by omega) (by omega)).2]
 have := Nat.or_lt_two_pow (x := a) (y := b) (n := 63) (by omega) (by omega)
 omega
theorem O2 {x : Int} (h0 : 0 ≤ x) (h1 : x < 256) : bits .and .i64 x 127 = x % 128 := bits_mask .i64 63 (by decide) Nk 7 (by decide) x h0 (by omega)
theorem T2 {kb : IntKind} {a b : Int} (c : Int) (hc : (2 : Int) ^ b.toNat = c) (h0 : 0 ≤ b ∧ b ≤ 64) (h : Gd G (K (.sc (.int .i64 (a / c))))) : Gd G (Ci .shr (.sc (.int .i64 a)) (.sc (.int kb b)) fun t => K t) := by
 refine D4 ?_ h
 subst hc
 show (shI .shr .i64 a b).bind _ = _
 unfold shI
 rw [if_pos (show 0 ≤ b ∧ b ≤ ((IntKind.i64.bits : Nat) : Int) from h0)]
 rfl
theorem AgO {kb : IntKind} {a b : Int} (c : Int) (hc : (2 : Int) ^ b.toNat = c) (h0 : 0 ≤ b ∧ b ≤ 64) (h1 : -9223372036854775808 ≤ a * c) (h2 : a * c ≤ 9223372036854775807) (h : Gd G (K (.sc (.int .i64 (a * c))))) : Gd G (Ci .shl (.sc (.int .i64 a)) (.sc (.int kb b)) fun t => K t) := by
 refine D4 ?_ h
 subst hc
 show (shI .shl .i64 a b).bind _ = _
 unfold shI
 rw [if_pos (show 0 ≤ b ∧ b ≤ ((IntKind.i64.bits : Nat) : Int) from h0)]
 show K (.sc (.int .i64 (IntKind.i64.wrap (a * 2 ^ b.toNat)))) = _
 rw [H3 _ h1 h2]
theorem Gm {a b c : Int} (hc : bits .and .i64 a b = c) (h : Gd G (K (.sc (.int .i64 c)))) : Gd G (Ci .and (.sc (.int .i64 a)) (.sc (.int .i64 b)) fun t => K t) := by
 subst hc
 exact h
theorem AlJ {a b c : Int} (hc : bits .or .i64 a b = c) (h : Gd G (K (.sc (.int .i64 c)))) : Gd G (Ci .or (.sc (.int .i64 a)) (.sc (.int .i64 b)) fun t => K t) := by
 subst hc
 exact h
theorem Pe {a b : Int} (h0 : 0 ≤ a) (h1 : a ≤ 9223372036854775807) (hb : 0 < b) (h : Gd G (K (.sc (.int .i64 (a / b))))) : Gd G (Ci .quo (.sc (.int .i64 a)) (.sc (.int .i64 b)) fun t => K t) := by
 refine D4 ?_ h
 have e : AeY .quo .i64 a b = some (.int .i64 (a / b)) := by
  show (if b = 0 then none else some (Value.int .i64 (IntKind.i64.wrap (a.tdiv b)))) = _
  rw [if_neg (by omega), Int.tdiv_eq_ediv_of_nonneg h0]
  have h2 := Int.ediv_nonneg h0 (Int.le_of_lt hb)
  have h3 := Int.ediv_le_self b h0
  rw [H3 _ (by omega) (by omega)]
 show (AeY .quo .i64 a b).bind _ = _
 rw [e]
 rfl
theorem Kr {a : Int} (h0 : 0 ≤ a) (h1 : a < 256) (h : Gd G (K (.sc (.int .i64 a)))) : Gd G (W5 .i64 (.sc (.int .u8 a)) fun t => K t) := Fq (H3 _ (by omega) (by omega)) h
theorem Zu {m : Nat} {cells r : List AV} {i : Int} (h0 : 0 ≤ i ∧ i < (m : Nat)) (h1 : i.toNat * 1 < cells.length) (hr : cells.drop (i.toNat * 1) = r) (h : Gd G (K (.rp r))) : Gd G (Dn 1 (.ro m cells) (.sc (.int .i64 i)) fun t => K t) := by
 refine D4 ?_ h
 subst hr
 show (if 0 ≤ i ∧ i < (m : Nat) then (if i.toNat * 1 < cells.length then K (.rp (cells.drop (i.toNat * 1))) else none) else none) = _
 rw [if_pos h0, if_pos h1]
theorem N6 {α : Sort _} {γ : Type} {G : Option γ → Prop} {x : α} {f : α → Option γ} (P : α → Prop) (hx : P x) (h : ∀ j, P j → Gd G (f j)) : Gd G (Et x f) := h x hx
theorem Pc {ty : Nat} {f : FuncId} {args : List AV} (hh : E0.hm f = true) (he : E0.ext f = none) (h : Gd G (Eh E0 n β f args H fun x H => KH x H)) : Gd G ((PR n β).call ty (.fn f [] []) args H fun x H => KH x H) := Jw hh he (by rw [zap]; exact h)
theorem Adr (s : ByteArray) {a b : Nat} (hab : a ≤ b) (hb : b ≤ s.size) : Ad (s.extract a b) = .ro (b - a) (((Bg s).drop a).take (b - a)) := by
 have e1 : (s.extract a b).size = b - a := by rw [zao]; omega
 show AV.ro (s.extract a b).size (Bg (s.extract a b)) = _
 rw [e1]
 congr 1
 unfold Bg
 rw [ByteArray.data_extract, Array.toList_extract, List.extract_eq_take_drop, List.map_take, List.map_drop]
theorem Fs {s : ByteArray} {lo hi : Option AV} (a b : Int) (hlo : Ol lo 0 = some a) (hhi : Ol hi (s.size : Nat) = some b) (h0 : 0 ≤ a) (hab : a ≤ b) (hb : b ≤ (s.size : Nat)) (h : Gd G (K (Ad (s.extract a.toNat b.toNat)))) : Gd G (Rf 1 (Ad s) lo hi fun t => K t) := by
 refine D4 ?_ h
 rw [Adr s (by omega) (by omega)]
 have e : (b - a).toNat = b.toNat - a.toNat := by omega
 have hl : Jo (Ad s) = some s.size := rfl
 unfold Rf
 rw [hl, zac, hlo, zac, hhi, zac, if_pos ⟨h0, hab, hb⟩]
 show K (.ro (b - a).toNat (((Bg s).drop (a.toNat * 1)).take ((b - a).toNat * 1))) = _
 rw [zbw, zbw, e]
theorem Tx : ∀ (l : List UInt8), (l.map fun b => AV.sc (.int .u8 b.toNat)).mapM Kl = some l
 | [] => rfl
 | b :: l => by
  have e : Kl (su b.toNat) = some b := by
   show some (UInt8.ofNat ((b.toNat : Nat) : Int).toNat) = _
   rw [zbl, UInt8.ofNat_toNat]
  rw [zaq, zaF, e, Tx l]
  rfl
theorem X7 (s : ByteArray) : Dt H 1 (Ad s) = some (Bg s) := by
 show (if (Bg s).length = s.size * 1 then some (Bg s) else none) = _
 rw [if_pos (by rw [Ew]; omega)]
theorem AaU {x : AV} {ty : Nat} {s : ByteArray} (hs : Sep H L) (hty : ∃ i j, As ty = some i ∧ As i.elem = some j ∧ j.size = 1 ∧ j.cty = [5]) (hp : Pk L (.own x ty (Ad s)) L1) : Dt H 1 x = some (Bg s) ∧ Jo x = some s.size := by
 obtain ⟨I, hI, hn⟩ := hs
 obtain ⟨raw, J, R, X, q1, q2, q3, q4, q5, q6, q7⟩ := Abh (cb := Bg s) hty hp (Ki s) I hI
 have := (W2 q5 (Ki s)).1
 subst this
 exact ⟨q2, q1⟩
theorem AhU (s : ByteArray) : (⟨s.data.toList.toArray⟩ : ByteArray) = s := by
 cases s
 rfl
theorem Mq {x : AV} {ty : Nat} {s : ByteArray} (hs : Sep H L) (hty : ∃ i j, As ty = some i ∧ As i.elem = some j ∧ j.size = 1 ∧ j.cty = [5]) (hp : Pk L (.own x ty (Ad s)) L1) (h : Gd G (K (.sc (.string s)))) : Gd G (Ot x H fun t => K t) := by
 refine D4 ?_ h
 have e : (Bg s).mapM Kl = some s.data.toList := Tx _
 unfold Ot
 rw [(AaU hs hty hp).1, zac, e, zac, AhU]
theorem AlI {s : ByteArray} (hs : Sep H L) (hb : s.size ≤ 140737488355328) (h : ∀ i H', Sep H' (.blk i (Bg s) false :: L) → Gd G (KH (.sl i 0 s.size 1) H')) : Gd G (W6 (.sc (.string s)) H fun x H => KH x H) := by
 refine D4 (b := Gx s.size 1 (Bg s) false H fun x H => KH x H) ?_ (B9 hs h)
 show (if s.size ≤ 140737488355328 then _ else _) = _
 rw [if_pos hb]
theorem AhC {d : Nat} : ∀ {l : List AV}, l.all Oy = true → VwL L (d + 1) l l
 | [], _ => .nil
 | x :: l, h => by
  rw [zax, zag] at h
  cases x with
  | sc v => exact .cons .sc (AhC h.2)
  | _ => simp [Oy] at h
theorem vwB {d : Nat} {s : ByteArray} : VwL L (d + 1) (Bg s) (Bg s) := AhC (Ki s)
theorem AmM {s : ByteArray} : (Bg s).length = s.size * 1 := by rw [Ew, zbw]
theorem Adq (s t : ByteArray) : Ad (s ++ t) = .ro (s.size + t.size) (Bg s ++ Bg t) := by
 show AV.ro (s ++ t).size (Bg (s ++ t)) = _
 rw [zah]
 congr 1
 unfold Bg
 rw [zbu, Array.toList_append, za3]
theorem Rw {ty : Nat} {x y : AV} {s t : ByteArray} (hs : Sep H L) (hty : ∃ i j, As ty = some i ∧ As i.elem = some j ∧ j.size = 1 ∧ j.cty = [5]) (hx : Pk L (.own x ty (Ad s)) L1) (hy : Src H L1 1 [5] y t.size (Bg t) L2) (hb : s.size + t.size ≤ 140737488355328)
  (h : ∀ x' H', Bk x' = true → Sep H' (.own x' ty (Ad (s ++ t)) :: L2) → Gd G (KH x' H')) : Gd G (K7 1 1 x y H fun x H => KH x H) := by
 rw [Adq] at h
 exact AaA hs hty hx hy (Se (by rw [AcS (w := 1) rfl, Ew, zbw]) (Ki t)) (by omega) h
theorem Uv {s : ByteArray} : Src H L 1 [5] (Ad s) s.size (Bg s) L := Ah2 rfl AmM (Ki s)
theorem Ajb {ty : Nat} {x : AV} {s t : ByteArray} (hs : Sep H L) (hty : ∃ i j, As ty = some i ∧ As i.elem = some j ∧ j.size = 1 ∧ j.cty = [5]) (hx : Pk L (.own x ty (Ad s)) L1) (hb : s.size + t.size ≤ 140737488355328)
  (h : ∀ x' H', Bk x' = true → Sep H' (.own x' ty (Ad (s ++ t)) :: L1) → Gd G (KH x' H')) : Gd G (W3 1 x (ss t) H fun x H => KH x H) := by
 refine D4 (b := K7 1 1 x (Ad t) H fun x H => KH x H) ?_ (Rw hs hty hx Uv hb h)
 have e1 : Jo (Ad t) = some t.size := rfl
 have e2 : asS (ss t) = some t := rfl
 unfold W3 K7
 rw [e1, e2, X7]
 simp only [zac, Zg, if_true]
theorem Um {ty : Nat} {x : AV} {s : ByteArray} {i : Nat} {z w : Int} {a : Bool} (hs : Sep H L) (hx : Pk L (.own x ty (Ad s)) L1) (hp : Pk L1 (.blk i [.sc (.int .u8 z), .sc (.int .u8 w)] a) L2) (hty : ∃ i j, As ty = some i ∧ As i.elem = some j ∧ j.size = 1 ∧ j.cty = [5]) (hb : (0 ≤ z ∧ z < 256) ∧ (0 ≤ w ∧ w < 256) ∧ s.size + 2 ≤ 140737488355328)
  (h : ∀ x' H', Bk x' = true → Sep H' (.own x' ty (Ad (A4 (A4 s z) w)) :: L2) → Gd G (KH x' H')) : Gd G (K7 1 1 x (.sl i 0 2 1) H fun x H => KH x H) := by
 have e1 : (zai 2 [5]).flatten = [5, 5] := rfl
 have e3 : Bg (A4 s z) = Bg s ++ [su z] := by
  have := Ht s z hb.1.1 hb.1.2
  exact (AV.ro.inj this).2
 rw [Ht _ w hb.2.1.1 hb.2.1.2, Av, e3, zaf] at h
 exact AaA (m := 2) (cb := [.sc (.int .u8 z), .sc (.int .u8 w)]) hs hty hx (Uu hp rfl rfl (by rw [e1]; exact .sc (.sc .nil)) (by rw [e1]; exact ⟨trivial, trivial, trivial⟩)) (by rw [e1]; exact ⟨trivial, trivial, trivial⟩) (by omega) fun x' H' lx hs' => h x' H' lx hs'
theorem Sep.closeB2 {i : Nat} {z w : Int} (hs : Sep H L) (hp : Pk L (.blk i [.sc (.int .u8 z), .sc (.int .u8 w)] true) L1) (hz : (0 ≤ z ∧ z < 256) ∧ 0 ≤ w ∧ w < 256) : Sep H (.own (.sl i 0 2 1) 22 (Ad (A4 (A4 ⟨#[]⟩ z) w)) :: L1) := by
 have e3 : Bg (A4 ⟨#[]⟩ z) = Bg ⟨#[]⟩ ++ [su z] := (AV.ro.inj (Ht ⟨#[]⟩ z hz.1.1 hz.1.2)).2
 rw [Ht _ w hz.2.1 hz.2.2, Av, e3]
 exact Sep.closeR (pre := []) (post := []) (cells := [su z, su w]) (sz := 1) (m := 2) ⟨_, _, rfl, rfl, rfl, rfl⟩ (hs.pick hp) rfl rfl
end
theorem Ajv {β : Type} {r : Option β} {m : Nat} {cells : List AV} {A K : Option β} (hA : A = r) (h : m ≤ 1048576 → K = r) : (I5 (.ro m cells) fun t => Ci .gtr t (.sc (.int .i64 1048576)) fun t' => Ec t' A K) = r := by
 change Gd (· = r) _
 refine Cu (Eb ?_)
 by_cases hm : (1048576 : Int) < m
 refine Ap (decide_eq_true hm) hA
 refine Au (decide_eq_false hm) (h (by omega))
end
section
open Go
abbrev bs0 : ByteArray := ⟨#[]⟩
def Ak (b : ByteArray) (n : Int) : ByteArray := A4 (A4 b (n / 256 % 256 % 256)) (n % 256 % 256)
def Cw (b x : ByteArray) : ByteArray := if decide (60 < ((x.size : Nat) : Int)) then b else Ak b ((x.size : Nat) : Int) ++ x
def Aj (b s : ByteArray) : ByteArray := if Bo s then Ak b ((s.size : Nat) : Int) ++ s else b
def Kt : Nat → ByteArray → Int → ByteArray
  | 0, b, n => b
  | f + 1, b, n => if 127 < n then Kt f (A4 b ((n % 128 + 128) % 256)) (n / 128) else A4 b (n % 256)
def C6 (b : ByteArray) (n : Int) : ByteArray := if Bu n 0 268435455 then Kt 4 b n else b
def A6 (b : Bool) (n : Int) : Int := if b then n else 0
def Dy (p : PacketV) : Int := A6 p.fClean 2 + A6 p.fHasWill 4 + 8 * p.fWQos + A6 p.fWRetain 32 + A6 p.fHasPass 64 + A6 p.fHasUser 128
def Cp (p : PacketV) : Int :=
  if p.fType = 3 then 16 * p.fType + A6 p.fDup 8 + 2 * p.fQos + A6 p.fRetain 1
  else if p.fType = 6 ∨ p.fType = 8 ∨ p.fType = 10 then 16 * p.fType + 2
  else 16 * p.fType
def mqtt : ByteArray := ⟨#[77, 81, 84, 84]⟩
def Gq (p : PacketV) : ByteArray := Aj (Ak (A4 (A4 (Aj bs0 mqtt) (p.fLevel % 256)) (Dy p % 256)) p.fKeep) p.fClient
def Eu (p : PacketV) (b : ByteArray) : ByteArray := if p.fHasWill then Cw (Aj b p.fWTopic) p.fWBody else b
def Dr (p : PacketV) (b : ByteArray) : ByteArray := if p.fHasUser then Aj b p.fUser else b
def C1 (p : PacketV) (b : ByteArray) : ByteArray := if p.fHasPass then Cw b p.fPass else b
def Ev (p : PacketV) : ByteArray := C1 p (Dr p (Eu p (Gq p)))
def Bi (b : ByteArray) (l : List WantV) : ByteArray := l.foldl (fun b w => A4 (Aj b w.fFilter) (w.fQos % 256)) b
def Dj (b : ByteArray) (l : List Int) : ByteArray := l.foldl (fun b c => A4 b (c % 256)) b
def E6 (b : ByteArray) (l : List ByteArray) : ByteArray := l.foldl Aj b
def Hl (p : PacketV) (b : ByteArray) : ByteArray := E6 (Dj (Bi b p.fWants) p.fCodes) p.fNames
def F9 (p : PacketV) : ByteArray := (if 0 < p.fQos then Ak (Aj bs0 p.fTopic) p.fId else Aj bs0 p.fTopic) ++ p.fBody
def Cg (p : PacketV) : ByteArray :=
  if p.fType = 1 then Ev p
  else if p.fType = 2 then A4 (A4 bs0 (A6 p.fPresent 1 % 256)) (p.fCode % 256)
  else if p.fType = 3 then F9 p
  else if p.fType = 12 ∨ p.fType = 13 ∨ p.fType = 14 then bs0
  else Hl p (Ak bs0 p.fId)
def Ij (p : PacketV) : ByteArray := C6 (A4 bs0 (Cp p % 256)) (((Cg p).size : Nat) : Int) ++ Cg p
def Fv (p : PacketV) : ByteArray := if Am p then Ij p else bs0
theorem At (b : ByteArray) (n : Int) : (Ak b n).size = b.size + 2 := by simp only [Ak, Av]
theorem Ic (b x : ByteArray) : (Cw b x).size ≤ b.size + 62 := by
  unfold Cw
  split
  · omega
  · rename_i h
    rw [zah, At]
    simp only [decide_eq_true_eq] at h
    omega
theorem Fg {s : ByteArray} (h : Bo s = true) : s.size ≤ 60 := by
  unfold Bo at h
  rw [zag] at h
  exact of_decide_eq_true h.1
theorem Cl (b s : ByteArray) : (Aj b s).size ≤ b.size + 62 := by
  unfold Aj
  split
  · rename_i h
    have := Fg h
    rw [zah, At]
    omega
  · omega
theorem Em : ∀ (l : List WantV) (b : ByteArray), (Bi b l).size ≤ b.size + 63 * l.length
  | [], b => zan _
  | w :: l, b => by
    have h1 := Em l (A4 (Aj b w.fFilter) (w.fQos % 256))
    have h2 := Cl b w.fFilter
    rw [Av] at h1
    simp only [zam]
    exact za5 h1 (by omega)
theorem El : ∀ (l : List Int) (b : ByteArray), (Dj b l).size ≤ b.size + l.length
  | [], b => zan _
  | c :: l, b => by
    have h1 := El l (A4 b (c % 256))
    rw [Av] at h1
    simp only [zam]
    exact za5 h1 (by omega)
theorem Ll : ∀ (l : List ByteArray) (b : ByteArray), (E6 b l).size ≤ b.size + 62 * l.length
  | [], b => zan _
  | s :: l, b => by
    have h1 := Ll l (Aj b s)
    have h2 := Cl b s
    simp only [zam]
    exact za5 h1 (by omega)
theorem AaI : ∀ (f : Nat) (b : ByteArray) (n : Int), (Kt f b n).size ≤ b.size + f
  | 0, b, n => zan _
  | f + 1, b, n => by
    unfold Kt
    split
    · have := AaI f (A4 b ((n % 128 + 128) % 256)) (n / 128)
      rw [Av] at this
      omega
    · rw [Av]
      omega
theorem Xv (b : ByteArray) (n : Int) : (C6 b n).size ≤ b.size + 4 := by
  unfold C6
  split
  · exact AaI 4 b n
  · omega
def Bn (B : ByteArray) (a : Int) : Int × Int × Bool := if a < 0 ∨ ((B.size : Nat) : Int) - 2 < a then (0, 0, false) else (A2 B a * 256 + A2 B (a + 1), a + 2, true)
def Bf (B : ByteArray) (a : Int) : ByteArray × Int × Bool :=
  if (Bn B a).2.2 = false ∨ 60 < (Bn B a).1 ∨ ((B.size : Nat) : Int) - (Bn B a).2.1 < (Bn B a).1 then (bs0, 0, false)
  else (B.extract (Bn B a).2.1.toNat ((Bn B a).2.1 + (Bn B a).1).toNat, (Bn B a).2.1 + (Bn B a).1, true)
def Bz (B : ByteArray) (a : Int) : ByteArray × Int × Bool := if (Bf B a).2.2 && Bo (Bf B a).1 then Bf B a else (bs0, 0, false)
theorem Fy {B : ByteArray} {a w x : Int} {o : Bool} (h : Bn B a = (w, x, o)) : 0 ≤ w ∧ w < 65536 ∧ 0 ≤ x ∧ x ≤ ((B.size : Nat) : Int) ∧ (o = true → x = a + 2 ∧ 0 ≤ a) := by
  unfold Bn at h
  have h1 := D0 B a
  have h2 := D0 B (a + 1)
  split at h <;> cases h <;> refine ⟨by omega, by omega, by omega, by omega, fun _ => ?_⟩
  · rename_i h; cases h
  · omega
theorem Fd {B v : ByteArray} {a x : Int} {o : Bool} (h : Bf B a = (v, x, o)) : v.size ≤ 60 ∧ 0 ≤ x ∧ x ≤ ((B.size : Nat) : Int) ∧ (o = true → a + 2 ≤ x ∧ 0 ≤ a) := by
  unfold Bf at h
  obtain ⟨w, y, q, e⟩ : ∃ w y q, Bn B a = (w, y, q) := ⟨_, _, _, rfl⟩
  have hb := Fy e
  rw [e] at h
  split at h
  · cases h
    exact ⟨by decide, by omega, by omega, fun h => by cases h⟩
  · rename_i hn
    simp only [not_or, Int.not_lt] at hn
    cases h
    have h5 := hb.2.2.2.2 (by simpa using hn.1)
    refine ⟨?_, by show 0 ≤ y + w; omega, by show y + w ≤ _; omega, fun _ => ⟨by show a + 2 ≤ y + w; omega, h5.2⟩⟩
    rw [zao]
    show min (y + w).toNat B.size - y.toNat ≤ 60
    omega
theorem Gp {B v : ByteArray} {a x : Int} {o : Bool} (h : Bz B a = (v, x, o)) : v.size ≤ 60 ∧ 0 ≤ x ∧ x ≤ ((B.size : Nat) : Int) ∧ (o = true → a + 2 ≤ x ∧ 0 ≤ a) := by
  unfold Bz at h
  split at h
  · exact Fd h
  · cases h
    exact ⟨by decide, by omega, by omega, fun h => by cases h⟩
abbrev Sc := Int × Bool
def Lb (B : ByteArray) (s : Sc) : Int × Sc := if s.2 || decide (((B.size : Nat) : Int) ≤ s.1) then (0, s.1, true) else (A2 B s.1, s.1 + 1, s.2)
def Hd (B : ByteArray) (s : Sc) : Int × Sc := if s.2 || !(Bn B s.1).2.2 then (0, s.1, true) else ((Bn B s.1).1, (Bn B s.1).2.1, s.2)
def Ej (B : ByteArray) (s : Sc) : ByteArray × Sc := if s.2 || !(Bf B s.1).2.2 then (bs0, s.1, true) else ((Bf B s.1).1, (Bf B s.1).2.1, s.2)
theorem Qn {B : ByteArray} {a b v : Int} {p q : Bool} (h : Lb B (a, p) = (v, b, q)) (h0 : 0 ≤ a) (h1 : a ≤ ((B.size : Nat) : Int)) : (0 ≤ v ∧ v < 256) ∧ 0 ≤ b ∧ b ≤ ((B.size : Nat) : Int) := by
  unfold Lb at h
  have := D0 B a
  split at h
  · cases h
    exact ⟨by omega, h0, h1⟩
  · rename_i hn
    simp only [zaI, not_or, decide_eq_true_eq, Int.not_le] at hn
    cases h
    exact ⟨this, by omega, by omega⟩
theorem Tr {B : ByteArray} {a b v : Int} {p q : Bool} (h : Hd B (a, p) = (v, b, q)) (h0 : 0 ≤ a) (h1 : a ≤ ((B.size : Nat) : Int)) : (0 ≤ v ∧ v < 65536) ∧ 0 ≤ b ∧ b ≤ ((B.size : Nat) : Int) := by
  unfold Hd at h
  obtain ⟨w, y, o, e⟩ : ∃ w y o, Bn B a = (w, y, o) := ⟨_, _, _, rfl⟩
  have hb := Fy e
  rw [show (a, p).1 = a from rfl, e] at h
  split at h <;> cases h
  · omega
  · show (0 ≤ w ∧ w < 65536) ∧ 0 ≤ y ∧ y ≤ _
    omega
theorem Fb {B v : ByteArray} {a b : Int} {p q : Bool} (h : Ej B (a, p) = (v, b, q)) (h0 : 0 ≤ a) (h1 : a ≤ ((B.size : Nat) : Int)) : v.size ≤ 60 ∧ 0 ≤ b ∧ b ≤ ((B.size : Nat) : Int) := by
  unfold Ej at h
  obtain ⟨w, y, o, e⟩ : ∃ w y o, Bf B a = (w, y, o) := ⟨_, _, _, rfl⟩
  have hb := Fd e
  rw [show (a, p).1 = a from rfl, e] at h
  split at h <;> cases h
  · exact ⟨by decide, h0, h1⟩
  · exact ⟨hb.1, hb.2.1, hb.2.2.1⟩
def D1 (B : ByteArray) (a : Int) : Nat → Int → Int → Int × Int × Int
  | 0, _, _ => (0, 0, 2)
  | f + 1, i, n =>
    if ((B.size : Nat) : Int) ≤ a + i then (0, 0, 1)
    else if A2 B (a + i) < 128 then (if 0 < i ∧ A2 B (a + i) = 0 then (0, 0, 2) else (bits .or .i64 n (bits .and .i64 (A2 B (a + i)) 127 * 2 ^ (7 * i).toNat), a + i + 1, 0))
    else D1 B a f (i + 1) (bits .or .i64 n (bits .and .i64 (A2 B (a + i)) 127 * 2 ^ (7 * i).toNat))
def Cv (B : ByteArray) (a : Int) : Int × Int × Int := if a < 0 ∨ ((B.size : Nat) : Int) < a then (0, 0, 2) else D1 B a 4 0 0
def Gj (f m : Int) : Bool := !decide (bits .and .i64 f m = 0)
def Fc (B : ByteArray) : PacketV :=
  let r0 := Ej B (0, false)
  let r1 := Lb B r0.2
  let r2 := Lb B r1.2
  let r3 := Hd B r2.2
  let r4 := Ej B r3.2
  let q5 := if Gj r2.1 4 then Ej B r4.2 else (bs0, r4.2)
  let q6 := if Gj r2.1 4 then Ej B q5.2 else (bs0, q5.2)
  let q7 := if Gj r2.1 128 then Ej B q6.2 else (bs0, q6.2)
  let q8 := if Gj r2.1 64 then Ej B q7.2 else (bs0, q7.2)
  { B3 1 with fLevel := r1.1, fKeep := r3.1, fClient := r4.1, fClean := Gj r2.1 2, fHasWill := Gj r2.1 4, fHasPass := Gj r2.1 64, fHasUser := Gj r2.1 128, fWQos := if Gj r2.1 4 then bits .and .i64 (r2.1 / 8) 3 else 0, fWRetain := if Gj r2.1 4 then Gj r2.1 32 else false, fWTopic := q5.1, fWBody := q6.1, fUser := q7.1, fPass := q8.1 }
def Cb (t : Int) (B : ByteArray) : Nat → Sc → List WantV → List Int → List ByteArray → List WantV × List Int × List ByteArray
  | 0, _, ws, cs, ns => (ws, cs, ns)
  | f + 1, s, ws, cs, ns =>
    if (!s.2 && decide (s.1 < ((B.size : Nat) : Int))) && decide (((ws.length : Nat) : Int) + ((cs.length : Nat) : Int) + ((ns.length : Nat) : Int) ≤ 4) then
      (if t = 8 then Cb t B f (Lb B (Ej B s).2).2 (ws ++ [⟨(Ej B s).1, (Lb B (Ej B s).2).1⟩]) cs ns
      else if t = 9 then Cb t B f (Lb B s).2 ws (cs ++ [(Lb B s).1]) ns
      else if t = 10 then Cb t B f (Ej B s).2 ws cs (ns ++ [(Ej B s).1])
      else Cb t B f (s.1, true) ws cs ns)
    else (ws, cs, ns)
def Dk (first : Int) (B : ByteArray) : PacketV :=
  let t := first / 16
  if t = 1 then Fc B
  else if t = 2 then { B3 t with fPresent := decide ((Lb B (0, false)).1 = 1), fCode := (Lb B (Lb B (0, false)).2).1 }
  else if t = 3 then
    (let r := Ej B (0, false)
     let w := if 0 < bits .and .i64 (first / 2) 3 then Hd B r.2 else (0, r.2)
     { B3 t with fDup := Gj first 8, fQos := bits .and .i64 (first / 2) 3, fRetain := Gj first 1, fTopic := r.1, fId := w.1, fBody := if w.2.2 then bs0 else B.extract w.2.1.toNat B.size })
  else if t = 12 ∨ t = 13 ∨ t = 14 then B3 t
  else { B3 t with fId := (Hd B (0, false)).1, fWants := (Cb t B 8 (Hd B (0, false)).2 [] [] []).1, fCodes := (Cb t B 8 (Hd B (0, false)).2 [] [] []).2.1, fNames := (Cb t B 8 (Hd B (0, false)).2 [] [] []).2.2 }
def Dx (first : Int) : Bool :=
  if first / 16 = 3 then (!decide (bits .and .i64 (first % 16 / 2) 3 = 3) && (decide (0 < bits .and .i64 (first % 16 / 2) 3) || decide (bits .and .i64 (first % 16) 8 = 0)))
  else if first / 16 = 6 ∨ first / 16 = 8 ∨ first / 16 = 10 then decide (first % 16 = 2)
  else Bu (first / 16) 1 14 && decide (first % 16 = 0)
def E7 (first : Int) : Bool :=
  if first / 16 = 0 ∨ first / 16 = 15 then false
  else if first / 16 = 3 then (decide (first % 16 / 2 % 4 < 3) && (decide (0 < first % 16 / 2 % 4) || decide (first % 16 < 8)))
  else if first / 16 = 6 ∨ first / 16 = 8 ∨ first / 16 = 10 then decide (first % 16 = 2)
  else decide (first % 16 = 0)
theorem Ae5 : ∀ X : Fin 256, E7 ((X.val : Nat) : Int) = Dx ((X.val : Nat) : Int) := by decide +kernel
theorem AgJ {f : Int} (h0 : 0 ≤ f) (h1 : f < 256) : E7 f = Dx f := by
  obtain ⟨k, rfl⟩ := zbi h0
  exact Ae5 ⟨k, by omega⟩
theorem Xk {x i : Int} (hx : 0 ≤ x ∧ x ≤ 127) (hi : 0 ≤ i ∧ i ≤ 3) : 0 ≤ x * 2 ^ (7 * i).toNat ∧ x * 2 ^ (7 * i).toNat ≤ 268435456 := by
  have : i = 0 ∨ i = 1 ∨ i = 2 ∨ i = 3 := by omega
  rcases this with rfl | rfl | rfl | rfl <;> simp <;> omega
theorem AaK (B : ByteArray) (a : Int) (ha : 0 ≤ a) : ∀ (f : Nat) (i z : Int), 0 ≤ i → i + f = 4 → (0 ≤ z ∧ z < 9223372036854775808) → (D1 B a f i z).2.2 = 0 → (0 ≤ (D1 B a f i z).1 ∧ (D1 B a f i z).1 < 9223372036854775808) ∧ a ≤ (D1 B a f i z).2.1 ∧ (D1 B a f i z).2.1 ≤ ((B.size : Nat) : Int)
  | 0, i, z, _, _, _, h => by simp [D1] at h
  | f + 1, i, z, h0, h1, hz, h => by
    rw [D1] at h ⊢
    have hb := D0 B (a + i)
    have hs := Xk (x := bits .and .i64 (A2 B (a + i)) 127) (i := i) (by rw [O2 hb.1 hb.2]; omega) (by omega)
    have ho := AeH (x := z) (y := bits .and .i64 (A2 B (a + i)) 127 * 2 ^ (7 * i).toNat) hz.1 hz.2 hs.1 (by omega)
    split at h
    · simp at h
    rename_i h2
    rw [if_neg h2]
    split at h
    · rename_i h3
      rw [if_pos h3]
      split at h
      · simp at h
      rename_i h4
      rw [if_neg h4]
      exact ⟨ho, by show a ≤ a + i + 1; omega, by show a + i + 1 ≤ _; omega⟩
    · rename_i h3
      rw [if_neg h3]
      exact AaK B a ha f (i + 1) _ (by omega) (by omega) ho h
theorem Oi {B : ByteArray} {a : Int} (h : (Cv B a).2.2 = 0) : (0 ≤ (Cv B a).1 ∧ (Cv B a).1 < 9223372036854775808) ∧ a ≤ (Cv B a).2.1 ∧ (Cv B a).2.1 ≤ ((B.size : Nat) : Int) := by
  unfold Cv at h ⊢
  split at h
  · simp at h
  rename_i h2
  rw [if_neg h2]
  exact AaK B a (by omega) 4 0 0 (by omega) (by omega) (by omega) h
def He (p : PacketV) (q5 q6 q7 q8 : ByteArray × Int × Bool) : PacketV :=
  if !q5.2.2 || !q6.2.2 then B3 0 else if !q7.2.2 then B3 0 else if !q8.2.2 then B3 0 else { p with fWTopic := q5.1, fWBody := q6.1, fUser := q7.1, fPass := q8.1 }
def Ea (c : Bool) (x : Int → ByteArray × Int × Bool) (a : Int) : ByteArray × Int × Bool := if c then x a else (bs0, a, true)
def Hf (B : ByteArray) (f : Int) (p : PacketV) (a : Int) : PacketV :=
  He p (Ea (decide (0 < bits .and .i64 f 4)) (Bz B) a)
    (Ea (decide (0 < bits .and .i64 f 4)) (Bf B) (Ea (decide (0 < bits .and .i64 f 4)) (Bz B) a).2.1)
    (Ea (decide (0 < bits .and .i64 f 128)) (Bz B) (Ea (decide (0 < bits .and .i64 f 4)) (Bf B) (Ea (decide (0 < bits .and .i64 f 4)) (Bz B) a).2.1).2.1)
    (Ea (decide (0 < bits .and .i64 f 64)) (Bf B) (Ea (decide (0 < bits .and .i64 f 128)) (Bz B) (Ea (decide (0 < bits .and .i64 f 4)) (Bf B) (Ea (decide (0 < bits .and .i64 f 4)) (Bz B) a).2.1).2.1).2.1)
def F2 (B : ByteArray) (f l k : Int) (c : ByteArray) : PacketV := { B3 1 with fLevel := l, fClean := decide (0 < bits .and .i64 f 2), fHasWill := decide (0 < bits .and .i64 f 4), fWQos := bits .and .i64 (f / 8) 3, fWRetain := decide (0 < bits .and .i64 f 32), fHasPass := decide (0 < bits .and .i64 f 64), fHasUser := decide (0 < bits .and .i64 f 128), fKeep := k, fClient := c }
def Hg (B : ByteArray) (a : Int) (r3 : Int × Int × Bool) (r4 : ByteArray × Int × Bool) : PacketV :=
  if !r3.2.2 || !r4.2.2 then B3 0 else Hf B (A2 B (a + 1)) (F2 B (A2 B (a + 1)) (A2 B a) r3.1 r4.1) r4.2.1
def Hr (B : ByteArray) (r0 : ByteArray × Int × Bool) : PacketV :=
  if !r0.2.2 || (!(r0.1.toList == mqtt.toList) || decide (((B.size : Nat) : Int) - 2 < r0.2.1)) then B3 0 else Hg B r0.2.1 (Bn B (r0.2.1 + 2)) (Bz B (Bn B (r0.2.1 + 2)).2.1)
def Ax (B : ByteArray) : PacketV := Hr B (Bz B 0)
def Lc (first : Int) : Int := bits .and .i64 (first / 2) 3
def F7 (B : ByteArray) : Nat → Int → List Int → List Int
  | 0, _, cs => cs
  | f + 1, a, cs => if a < ((B.size : Nat) : Int) then F7 B f (a + 1) (cs ++ [A2 B a]) else cs
def Cy (t : Int) (B : ByteArray) : Nat → Int → List WantV → List ByteArray → Option (List WantV × List ByteArray)
  | 0, _, ws, ns => some (ws, ns)
  | f + 1, a, ws, ns =>
    if decide (a < ((B.size : Nat) : Int)) && (decide (t = 8) || decide (t = 10)) then
      (if (Bz B a).2.2 then
        (if t = 10 then Cy t B f (Bz B a).2.1 ws (ns ++ [(Bz B a).1])
        else if (Bz B a).2.1 = ((B.size : Nat) : Int) then none
        else Cy t B f ((Bz B a).2.1 + 1) (ws ++ [⟨(Bz B a).1, A2 B (Bz B a).2.1⟩]) ns)
      else none)
    else some (ws, ns)
def L5 (t id : Int) (cs : List Int) : Option (List WantV × List ByteArray) → PacketV
  | none => B3 0
  | some r => { B3 t with fId := id, fCodes := cs, fWants := r.1, fNames := r.2 }
def Hs (first : Int) (B : ByteArray) (c : ByteArray) (w : Int × Int × Bool) : PacketV :=
  if !w.2.2 then B3 0 else { B3 (first / 16) with fDup := decide (0 < bits .and .i64 first 8), fQos := Lc first, fRetain := decide (0 < bits .and .i64 first 1), fTopic := c, fId := w.1, fBody := B.extract w.2.1.toNat B.size }
def Fl (t : Int) (B : ByteArray) (w : Int × Int × Bool) : PacketV :=
  if !w.2.2 then B3 0 else L5 t w.1 (if t = 9 then F7 B (B.size + 1) w.2.1 [] else []) (Cy t B (B.size + 1) w.2.1 [] [])
def Dh (first : Int) (B : ByteArray) : PacketV :=
  if first / 16 = 1 then Ax B
  else if first / 16 = 2 ∧ ((B.size : Nat) : Int) = 2 then { B3 (first / 16) with fPresent := A2 B 0 == 1, fCode := A2 B 1 }
  else if first / 16 = 3 then (if !(Bz B 0).2.2 then B3 0 else Hs first B (Bz B 0).1 (if 0 < Lc first then Bn B (Bz B 0).2.1 else (0, (Bz B 0).2.1, true)))
  else Fl (first / 16) B (if first / 16 < 12 then Bn B 0 else (0, 0, true))
end
section
open Go
theorem O3 {a b : ByteArray} (h : (a.toList == b.toList) = true) : a = b := eqB.1 h
theorem Acx {α : Type} {e : α → α → Bool} (he : ∀ x y, e x y = true → x = y) : ∀ (a b : List α), a.length = b.length → Jn e a b = true → a = b
 | [], [], _, _ => rfl
 | x :: a, y :: b, h, h2 => by
  rw [Jn] at h2
  split at h2
  case isFalse => cases h2
  rw [he x y (by assumption), Acx he a b (by simpa using h) h2]
 | [], _ :: _, h, _ => by simp at h
 | _ :: _, [], h, _ => by simp at h
theorem S1 {α : Type} {e : α → α → Bool} (he : ∀ x y, e x y = true → x = y) {a b : List α} (h : G2 e a b = true) : a = b := by
 unfold G2 at h
 split at h
 exact Acx he a b (by assumption) h
 cases h
theorem AjF {a b : PacketV} (h : Ce a b = true) : a = b := by
 unfold Ce L4 Gy at h
 simp only [zag] at h
 obtain ⟨⟨⟨k1, k2⟩, k3⟩, h⟩ := h
 obtain ⟨⟨⟨⟨⟨⟨⟨⟨⟨⟨⟨⟨⟨⟨⟨⟨⟨⟨⟨⟨⟨h1, h2⟩, h3⟩, h4⟩, h5⟩, h6⟩, h7⟩, h8⟩, h9⟩, h10⟩, h11⟩, h12⟩, h13⟩, h14⟩, h15⟩, h16⟩, h17⟩, h18⟩, h19⟩, h20⟩, h21⟩, h22⟩ := h
 have w1 := S1 (fun x y e => by
  unfold Jv at e
  rw [zag] at e
  cases x
  cases y
  simp only [WantV.mk.injEq]
  exact ⟨O3 e.1, by simpa using e.2⟩) k1
 have w2 := S1 (fun x y e => O3 e) k2
 have w3 := S1 (fun x y e => by simpa [eqI] using e) k3
 cases a
 cases b
 simp only [PacketV.mk.injEq]
 exact ⟨by simpa using h1, by simpa using h2, by simpa using h3, by simpa using h4, by simpa using h5, O3 h6, O3 h7, O3 h8, by simpa using h9, by simpa using h10, by simpa using h11, by simpa using h12, O3 h13, O3 h14, by simpa using h15, by simpa using h16, by simpa using h17, O3 h18, by simpa using h19, O3 h20, by simpa using h21, by simpa using h22, w1, w2, w3⟩
theorem Fi {p : PacketV} (h : Am p = true) : (1 ≤ p.fType ∧ p.fType ≤ 14) ∧ p = Aw false p ∧ Cj p = true := by
 unfold Am at h
 simp only [zag] at h
 refine ⟨by simpa [Bu] using h.1, AjF h.2.1, h.2.2⟩
structure PkF (p : PacketV) : Prop where
 ty : 1 ≤ p.fType ∧ p.fType ≤ 14
 q : 0 ≤ p.fQos ∧ p.fQos ≤ 2
 wq : 0 ≤ p.fWQos ∧ p.fWQos ≤ 2
 i : 0 ≤ p.fId ∧ p.fId ≤ 65535
theorem Gu {x a b : Int} : Bu x a b = true ↔ a ≤ x ∧ x ≤ b := by simp [Bu]
theorem Kh {p : PacketV} (h : Am p = true) : (p.fType ≠ 3 → p.fQos = 0) ∧ (p.fType ≠ 1 → p.fWQos = 0) ∧ (p.fHasWill = false → p.fWQos = 0) ∧ (p.fQos = 0 → p.fType = 3 → p.fId = 0) ∧ (p.fType = 1 ∨ p.fType = 2 ∨ 12 ≤ p.fType → p.fId = 0) ∧ (p.fType ≠ 8 → p.fWants = []) ∧ (p.fType ≠ 9 → p.fCodes = []) ∧ (p.fType ≠ 10 → p.fNames = []) := by
 obtain ⟨ht, hn, hk⟩ := Fi h
 have q1 := congrArg PacketV.fQos hn
 have q2 := congrArg PacketV.fWQos hn
 have q3 := congrArg PacketV.fId hn
 have q4 := congrArg PacketV.fWants hn
 have q5 := congrArg PacketV.fCodes hn
 have q6 := congrArg PacketV.fNames hn
 clear hn hk h
 unfold Aw Dp Dq at q1 q2 q3 q4 q5 q6
 refine ⟨fun e => ?_, fun e => ?_, fun e => ?_, fun e e2 => ?_, fun e => ?_, fun e => ?_, fun e => ?_, fun e => ?_⟩
 ·rw [q1]; (repeat' split) <;> (rfl)
 ·rw [q2]; (repeat' split) <;> first | rfl | (exfalso; omega)
 ·rw [q2, e]; (repeat' split) <;> first | rfl | contradiction
 ·rw [q3]; (repeat' split) <;> first | rfl | (exfalso; omega)
 ·rw [q3]; (repeat' split) <;> first | rfl | (exfalso; omega)
 ·rw [q4]; (repeat' split) <;> (rfl)
 ·rw [q5]; (repeat' split) <;> (rfl)
 ·rw [q6]; (repeat' split) <;> (rfl)
theorem Ia {p : PacketV} (h : Am p = true) : PkF p := by
 obtain ⟨ht, hn, hk⟩ := Fi h
 obtain ⟨k1, k2, k3, k4, k5, _⟩ := Kh h
 unfold Cj at hk
 refine ⟨ht, ?_, ?_, ?_⟩
 by_cases h3 : p.fType = 3
 rw [if_neg (by omega), if_neg (by omega), if_pos h3] at hk
 simp only [zag, Gu] at hk
 exact hk.1
 rw [k1 h3]
 decide
 by_cases h1 : p.fType = 1
 rw [if_pos h1] at hk
 unfold Hj at hk
 cases hw : p.fHasWill
 rw [k3 hw]
 decide
 simp only [hw, zag, Gu, za0, zaN] at hk
 exact hk.2.2.2.1.2.2
 rw [k2 h1]
 decide
 by_cases h5 : p.fType = 1 ∨ p.fType = 2 ∨ 12 ≤ p.fType
 rw [k5 h5]
 decide
 by_cases h3 : p.fType = 3
 by_cases hq : p.fQos = 0
 rw [k4 hq h3]
 decide
 rw [if_neg (by omega), if_neg (by omega), if_pos h3] at hk
 simp only [zag, Gu, zaI, decide_eq_true_eq] at hk
 omega
 rw [if_neg (by omega), if_neg (by omega), if_neg h3] at hk
 by_cases h4 : p.fType = 4 ∨ p.fType = 5 ∨ p.fType = 6 ∨ p.fType = 7 ∨ p.fType = 11
 rw [if_pos h4, Gu] at hk
 omega
 rw [if_neg h4, if_pos (by omega)] at hk
 simp only [zag, Gu] at hk
 omega
end
section
open Go
theorem Oh (B : ByteArray) (a : Int) : (Bf B a).1.size ≤ 60 := by
 obtain ⟨v, x, o, e⟩ : ∃ v x o, Bf B a = (v, x, o) := ⟨_, _, _, rfl⟩
 rw [e]
 exact (Fd e).1
theorem Ug (B : ByteArray) (a : Int) : (Bz B a).1.size ≤ 60 := by
 unfold Bz
 split
 exact Oh B a
 decide
theorem Xt (B : ByteArray) (s : Sc) : (Ej B s).1.size ≤ 60 := by
 unfold Ej
 split
 exact zav _
 exact Oh B s.1
structure PkB (k : Nat) (p : PacketV) : Prop where
 t1 : p.fTopic.size ≤ 60
 t2 : p.fClient.size ≤ 60
 t3 : p.fWTopic.size ≤ 60
 t4 : p.fUser.size ≤ 60
 b1 : p.fWBody.size ≤ 60
 b2 : p.fPass.size ≤ 60
 b3 : p.fBody.size ≤ k
 l1 : p.fWants.length ≤ k
 l2 : p.fNames.length ≤ k
 l3 : p.fCodes.length ≤ k
 w1 : ∀ y ∈ p.fWants, y.fFilter.size ≤ 60
 w2 : ∀ y ∈ p.fNames, y.size ≤ 60
theorem PkB.hyp {k : Nat} {p : PacketV} (h : PkB k p) (hk : k ≤ 1048576) : G0 p := by
 obtain ⟨t1, t2, t3, t4, b1, b2, b3, l1, l2, l3, w1, w2⟩ := h
 exact ⟨by omega, by omega, by omega, by omega, by omega, by omega, by omega, fun y hy => za5 (w1 y hy) (by decide), fun y hy => za5 (w2 y hy) (by decide)⟩
theorem Mu (k : Nat) (t : Int) : PkB k (B3 t) := ⟨zav _, zav _, zav _, zav _, zav _, zav _, zav _, zav _, zav _, zav _, fun y hy => (nomatch hy), fun y hy => (nomatch hy)⟩
theorem Zz {c : Prop} [Decidable c] {x y : ByteArray × Sc} (hx : x.1.size ≤ 60) (hy : y.1.size ≤ 60) : (if c then x else y).1.size ≤ 60 := by
 split
 exact hx
 exact hy
theorem Nc (t : Int) (B : ByteArray) : ∀ (f : Nat) (s : Sc) (ws : List WantV) (cs : List Int) (ns : List ByteArray), ws.length + cs.length + ns.length ≤ 5 → (∀ y ∈ ws, y.fFilter.size ≤ 60) → (∀ y ∈ ns, y.size ≤ 60) → ((Cb t B f s ws cs ns).1.length ≤ 5 ∧ (Cb t B f s ws cs ns).2.1.length ≤ 5 ∧ (Cb t B f s ws cs ns).2.2.length ≤ 5) ∧ (∀ y ∈ (Cb t B f s ws cs ns).1, y.fFilter.size ≤ 60) ∧ ∀ y ∈ (Cb t B f s ws cs ns).2.2, y.size ≤ 60
 | 0, s, ws, cs, ns, hl, h1, h2 => ⟨⟨by show ws.length ≤ 5; omega, by show cs.length ≤ 5; omega, by show ns.length ≤ 5; omega⟩, h1, h2⟩
 | f + 1, s, ws, cs, ns, hl, h1, h2 => by
  rw [Cb]
  split
  rename_i hc
  simp only [zag, decide_eq_true_eq] at hc
  have hb := Xt B s
  split
  refine Nc t B f _ _ _ _ (by simp only [zad, zas]; omega) (fun y hy => ?_) h2
  rcases zaQ.1 hy with hy | hy
  exact h1 y hy
  rw [zbg.1 hy]
  exact hb
  split
  exact Nc t B f _ _ _ _ (by simp only [zad, zas]; omega) h1 h2
  split
  refine Nc t B f _ _ _ _ (by simp only [zad, zas]; omega) h1 (fun y hy => ?_)
  rcases zaQ.1 hy with hy | hy
  exact h2 y hy
  rw [zbg.1 hy]
  exact hb
  exact Nc t B f _ _ _ _ hl h1 h2
  exact ⟨⟨by show ws.length ≤ 5; omega, by show cs.length ≤ 5; omega, by show ns.length ≤ 5; omega⟩, h1, h2⟩
theorem Ak5 (first : Int) (B : ByteArray) {k : Nat} (hk : B.size ≤ k) : PkB (k + 5) (Dk first B) := by
 have h0 : (0 : Nat) ≤ 60 := zav _
 have hb := Xt B
 unfold Dk
 dsimp only
 split
 unfold Fc
 dsimp only
 exact ⟨h0, hb _, Zz (hb _) h0, Zz (hb _) h0, Zz (hb _) h0, Zz (hb _) h0, zav _, zav _, zav _, zav _, fun y hy => (nomatch hy), fun y hy => (nomatch hy)⟩
 split
 exact ⟨h0, h0, h0, h0, h0, h0, zav _, zav _, zav _, zav _, fun y hy => (nomatch hy), fun y hy => (nomatch hy)⟩
 split
 have hB : ∀ (x : Bool) (i : Nat), (if x = true then bs0 else B.extract i B.size).size ≤ k + 5 := fun x i => by
  split
  exact zav _
  rw [zao]
  omega
 exact ⟨hb _, h0, h0, h0, h0, h0, hB _ _, zav _, zav _, zav _, fun y hy => (nomatch hy), fun y hy => (nomatch hy)⟩
 split
 exact Mu _ _
 have h := Nc (first / 16) B 8 (Hd B (0, false)).2 [] [] [] (by decide) (fun y hy => nomatch hy) (fun y hy => nomatch hy)
 exact ⟨h0, h0, h0, h0, h0, h0, zav _, by show (Cb _ _ _ _ _ _ _).1.length ≤ _; omega, by show (Cb _ _ _ _ _ _ _).2.2.length ≤ _; omega, by show (Cb _ _ _ _ _ _ _).2.1.length ≤ _; omega, h.2.1, h.2.2⟩
theorem Y8 (B : ByteArray) : ∀ (f : Nat) (a : Int) (cs : List Int), (F7 B f a cs).length ≤ cs.length + f
 | 0, a, cs => zan _
 | f + 1, a, cs => by
  rw [F7]
  split
  have := Y8 B f (a + 1) (cs ++ [A2 B a])
  simp only [zad, zas] at this
  omega
  omega
theorem Ti (t : Int) (B : ByteArray) : ∀ (f : Nat) (a : Int) (ws : List WantV) (ns : List ByteArray) (r : List WantV × List ByteArray), (∀ y ∈ ws, y.fFilter.size ≤ 60) → (∀ y ∈ ns, y.size ≤ 60) → Cy t B f a ws ns = some r → (r.1.length + r.2.length ≤ ws.length + ns.length + f) ∧ (∀ y ∈ r.1, y.fFilter.size ≤ 60) ∧ ∀ y ∈ r.2, y.size ≤ 60
 | 0, a, ws, ns, r, h1, h2, h => by
  cases h
  exact ⟨zan _, h1, h2⟩
 | f + 1, a, ws, ns, r, h1, h2, h => by
  have hb := Ug B a
  rw [Cy] at h
  split at h
  split at h
  split at h
  have := Ti t B f _ _ _ r h1 (fun y hy => by
   rcases zaQ.1 hy with hy | hy
   exact h2 y hy
   rw [zbg.1 hy]
   exact hb) h
  simp only [zad, zas] at this
  exact ⟨by omega, this.2⟩
  split at h
  cases h
  have := Ti t B f _ _ _ r (fun y hy => by
   rcases zaQ.1 hy with hy | hy
   exact h1 y hy
   rw [zbg.1 hy]
   exact hb) h2 h
  simp only [zad, zas] at this
  exact ⟨by omega, this.2⟩
  cases h
  cases h
  exact ⟨by show ws.length + ns.length ≤ _; omega, h1, h2⟩
theorem AlG (t id : Int) (cs : List Int) (k : Nat) (hc : cs.length ≤ k) (o : Option (List WantV × List ByteArray)) (ho : ∀ r, o = some r → (r.1.length + r.2.length ≤ k) ∧ (∀ y ∈ r.1, y.fFilter.size ≤ 60) ∧ ∀ y ∈ r.2, y.size ≤ 60) : PkB k (L5 t id cs o) := by
 have h0 : (0 : Nat) ≤ 60 := zav _
 cases o with
 | none => exact Mu _ _
 | some r =>
  obtain ⟨h1, h2, h3⟩ := ho r rfl
  exact ⟨h0, h0, h0, h0, h0, h0, zav _, by show r.1.length ≤ k; omega, by show r.2.length ≤ k; omega, hc, h2, h3⟩
theorem P6 {c : Bool} {x : Int → ByteArray × Int × Bool} (hx : ∀ a, (x a).1.size ≤ 60) (a : Int) : (Ea c x a).1.size ≤ 60 := by
 unfold Ea
 split
 exact hx a
 exact zav _
theorem AhS {k : Nat} {p : PacketV} {q5 q6 q7 q8 : ByteArray × Int × Bool} (h : PkB k p) (h5 : q5.1.size ≤ 60) (h6 : q6.1.size ≤ 60) (h7 : q7.1.size ≤ 60) (h8 : q8.1.size ≤ 60) : PkB k (He p q5 q6 q7 q8) := by
 unfold He
 split
 exact Mu _ _
 split
 exact Mu _ _
 split
 exact Mu _ _
 exact ⟨h.t1, h.t2, h5, h7, h6, h8, h.b3, h.l1, h.l2, h.l3, h.w1, h.w2⟩
theorem AhT (first : Int) (B c : ByteArray) (w : Int × Int × Bool) {k : Nat} (hc : c.size ≤ 60) (hk : B.size ≤ k) : PkB (k + 5) (Hs first B c w) := by
 have h0 : (0 : Nat) ≤ 60 := zav _
 unfold Hs
 split
 exact Mu _ _
 refine ⟨hc, h0, h0, h0, h0, h0, ?_, zav _, zav _, zav _, fun y hy => (nomatch hy), fun y hy => (nomatch hy)⟩
 show (B.extract _ _).size ≤ _
 rw [zao]
 omega
theorem Afg (t : Int) (B : ByteArray) (w : Int × Int × Bool) {k : Nat} (hk : B.size ≤ k) : PkB (k + 5) (Fl t B w) := by
 unfold Fl
 split
 exact Mu _ _
 refine AlG _ _ _ _ ?_ _ fun r hr => ?_
 split
 have := Y8 B (B.size + 1) w.2.1 []
 simp only [zaw] at this
 omega
 exact zav _
 have := Ti _ B (B.size + 1) _ [] [] r (fun y hy => nomatch hy) (fun y hy => nomatch hy) hr
 simp only [zaw] at this
 exact ⟨by omega, this.2⟩
theorem Ak8 (first : Int) (B : ByteArray) {k : Nat} (hk : B.size ≤ k) : PkB (k + 5) (Dh first B) := by
 have h0 : (0 : Nat) ≤ 60 := zav _
 have hb := Ug B
 have hb2 := Oh B
 unfold Dh
 split
 unfold Ax Hr Hg Hf
 split
 exact Mu _ _
 split
 exact Mu _ _
 exact AhS ⟨h0, hb _, h0, h0, h0, h0, zav _, zav _, zav _, zav _, fun y hy => (nomatch hy), fun y hy => (nomatch hy)⟩ (P6 hb _) (P6 hb2 _) (P6 hb _) (P6 hb2 _)
 split
 exact ⟨h0, h0, h0, h0, h0, h0, zav _, zav _, zav _, zav _, fun y hy => (nomatch hy), fun y hy => (nomatch hy)⟩
 split
 split
 exact Mu _ _
 exact AhT _ _ _ _ (hb _) hk
 exact Afg _ _ _ hk
theorem Acr {α : Type} {w : α → Nat} {k : Nat} : ∀ (l : List α), (∀ z ∈ l, w z ≤ k) → P2 w l ≤ l.length * (k + 1)
 | [], _ => zav _
 | x :: l, h => by
  have h1 := h x (zay ..)
  have h2 := Acr l fun z hz => h z (zat _ hz)
  show 1 + w x + P2 w l ≤ (l.length + 1) * (k + 1)
  rw [zbB]
  omega
theorem PkB.wt {k : Nat} {p : PacketV} (h : PkB k p) (hk : k ≤ 400) : Co p ≤ 60000 := by
 obtain ⟨t1, t2, t3, t4, b1, b2, b3, l1, l2, l3, w1, w2⟩ := h
 have e1 := Acr (w := Il) (k := 60) p.fWants fun z hz => by
  have := w1 z hz
  unfold Il
  omega
 have e2 := Acr (w := zbk) (k := 60) p.fNames w2
 unfold Co
 omega
end
section
open Go
abbrev bl (B : ByteArray) : List UInt8 := B.data.toList
def u8 (z : Int) : UInt8 := UInt8.ofNat z.toNat
theorem La {z : Int} (h0 : 0 ≤ z) (h1 : z < 256) : (((u8 z).toNat : Nat) : Int) = z := by
 unfold u8
 rw [UInt8.toNat_ofNat']
 omega
theorem Iu (b : ByteArray) (z : Int) : bl (A4 b z) = bl b ++ [u8 z] := by
 unfold bl A4 u8
 rw [zbC, Array.toList_push]
theorem Ze (a b : ByteArray) : bl (a ++ b) = bl a ++ bl b := by
 unfold bl
 rw [zbu, Array.toList_append]
theorem Gv (B : ByteArray) : (bl B).length = B.size := by
 simp [bl]
theorem Abw {a b : ByteArray} (h : bl a = bl b) : a = b := ByteArray.ext (zaZ h)
theorem Zf (B : ByteArray) (i j : Nat) : bl (B.extract i j) = ((bl B).drop i).take (j - i) := by
 unfold bl
 rw [ByteArray.data_extract, Array.toList_extract, List.extract_eq_take_drop]
def Mn (n : Int) : List UInt8 := [u8 (n / 256 % 256 % 256), u8 (n % 256 % 256)]
theorem Rm (b : ByteArray) (n : Int) : bl (Ak b n) = bl b ++ Mn n := by
 unfold Ak Mn
 rw [Iu, Iu, zaf]
 rfl
def Gk (s : ByteArray) : List UInt8 := Mn ((s.size : Nat) : Int) ++ bl s
theorem Me {s : ByteArray} (h : Bo s = true) (b : ByteArray) : bl (Aj b s) = bl b ++ Gk s := by
 unfold Aj Gk
 rw [if_pos h, Ze, Rm, zaf]
theorem Aan {s : ByteArray} (h : s.size ≤ 60) (b : ByteArray) : bl (Cw b s) = bl b ++ Gk s := by
 unfold Cw Gk
 rw [if_neg (by simp; omega), Ze, Rm, zaf]
def Sf (B : ByteArray) (a : Int) (l : List UInt8) : Prop := 0 ≤ a ∧ a ≤ ((B.size : Nat) : Int) ∧ (bl B).drop a.toNat = l
theorem Sf.len {B : ByteArray} {a : Int} {l : List UInt8} (h : Sf B a l) : a + l.length = ((B.size : Nat) : Int) := by
 obtain ⟨h0, h1, rfl⟩ := h
 rw [List.length_drop, Gv]
 omega
theorem Sf.head {B : ByteArray} {a : Int} {x : UInt8} {l : List UInt8} (h : Sf B a (x :: l)) : A2 B a = ((x.toNat : Nat) : Int) ∧ a < ((B.size : Nat) : Int) ∧ Sf B (a + 1) l := by
 have hl := h.len
 obtain ⟨h0, h1, h2⟩ := h
 simp only [zam] at hl
 refine ⟨?_, by omega, by omega, by omega, ?_⟩
 have e : (bl B)[a.toNat]? = some x := by
  have := congrArg (fun l => l[0]?) h2
  simpa using this
 unfold A2
 rw [zbp, e]
 rfl
 rw [show (a + 1).toNat = a.toNat + 1 by omega, ← zbj, h2]
 rfl
theorem Sf.skip {B : ByteArray} {a : Int} {x l : List UInt8} (h : Sf B a (x ++ l)) : Sf B (a + x.length) l := by
 have hl := h.len
 obtain ⟨h0, h1, h2⟩ := h
 simp only [zad] at hl
 refine ⟨by omega, by omega, ?_⟩
 rw [show (a + (x.length : Int)).toNat = a.toNat + x.length by omega, ← zbj, h2, List.drop_left]
theorem Xi (B : ByteArray) {l : List UInt8} (h : bl B = l) : Sf B 0 l := ⟨by omega, by omega, by simpa using h⟩
theorem Sf.nil {B : ByteArray} {a : Int} (h : Sf B a []) : a = ((B.size : Nat) : Int) := by
 have := h.len
 simpa using this
theorem Rg {B : ByteArray} {a z : Int} {l : List UInt8} (h : Sf B a (u8 z :: l)) (h0 : 0 ≤ z) (h1 : z < 256) : Lb B (a, false) = (z, a + 1, false) ∧ Sf B (a + 1) l := by
 obtain ⟨e1, e2, e3⟩ := h.head
 refine ⟨?_, e3⟩
 unfold Lb
 rw [La h0 h1] at e1
 rw [if_neg (by simp; omega), e1]
theorem Qj {B : ByteArray} {a n : Int} {l : List UInt8} (h : Sf B a (Mn n ++ l)) (h0 : 0 ≤ n) (h1 : n < 65536) : Bn B a = (n, a + 2, true) ∧ Sf B (a + 2) l := by
 have h' : Sf B a (u8 (n / 256 % 256 % 256) :: u8 (n % 256 % 256) :: l) := h
 obtain ⟨e1, e2, e3⟩ := h'.head
 obtain ⟨f1, f2, f3⟩ := e3.head
 rw [La (by omega) (by omega)] at e1 f1
 refine ⟨?_, by rw [show a + 2 = a + 1 + 1 by omega]; exact f3⟩
 unfold Bn
 rw [if_neg (by have := h.1; omega), e1, f1]
 congr 1
 omega
theorem Kj {B s : ByteArray} {a : Int} {l : List UInt8} (h : Sf B a (Gk s ++ l)) (hs : s.size ≤ 60) : Bf B a = (s, a + 2 + s.size, true) ∧ Sf B (a + 2 + s.size) l := by
 have h' : Sf B a (Mn ((s.size : Nat) : Int) ++ (bl s ++ l)) := by
  unfold Gk at h
  rwa [zaf] at h
 obtain ⟨e1, e2⟩ := Qj h' (by omega) (by omega)
 have e3 := e2.skip
 rw [Gv] at e3
 refine ⟨?_, e3⟩
 have hl := e3.len
 have h0 := h.1
 unfold Bf
 rw [e1]
 show (if true = false ∨ 60 < ((s.size : Nat) : Int) ∨ ((B.size : Nat) : Int) - (a + 2) < ((s.size : Nat) : Int) then _ else _) = _
 rw [if_neg (by simp; omega)]
 congr 1
 apply Abw
 show bl (B.extract (a + 2).toNat (a + 2 + ((s.size : Nat) : Int)).toNat) = _
 rw [Zf, e2.2.2, show (a + 2 + ((s.size : Nat) : Int)).toNat - (a + 2).toNat = (bl s).length by rw [Gv]; omega, List.take_left]
theorem Oe {B s : ByteArray} {a : Int} {l : List UInt8} (h : Sf B a (Gk s ++ l)) (hs : Bo s = true) : Bz B a = (s, a + 2 + s.size, true) ∧ Sf B (a + 2 + s.size) l := by
 obtain ⟨e1, e2⟩ := Kj h (Fg hs)
 refine ⟨?_, e2⟩
 unfold Bz
 rw [e1]
 show (if true && Bo s then _ else _) = _
 rw [hs]
 rfl
theorem Xj {B : ByteArray} {a n : Int} {l : List UInt8} (h : Sf B a (Mn n ++ l)) (h0 : 0 ≤ n) (h1 : n < 65536) : Hd B (a, false) = (n, a + 2, false) := by
 unfold Hd
 rw [show (a, false).1 = a from rfl, (Qj h h0 h1).1]
 rfl
theorem Lj {B s : ByteArray} {a : Int} {l : List UInt8} (h : Sf B a (Gk s ++ l)) (hs : s.size ≤ 60) : Ej B (a, false) = (s, a + 2 + s.size, false) := by
 unfold Ej
 rw [show (a, false).1 = a from rfl, (Kj h hs).1]
 rfl
theorem Adg {B s : ByteArray} {a : Int} (h : Sf B a (bl s)) : B.extract a.toNat B.size = s := by
 apply Abw
 rw [Zf, h.2.2]
 have := h.len
 have := h.1
 rw [Gv] at *
 rw [List.take_of_length_le (by rw [Gv]; omega)]
theorem Rh {s : ByteArray} (h : C3 s = true) : Bo s = true := by
 unfold C3 at h
 simp only [zag] at h
 simp [h]
theorem T0 {s : ByteArray} (h : Bx s = true) : Bo s = true := by
 unfold Bx Fx at h
 simp only [zag] at h
 exact h.2.1
theorem Ru {p : PacketV} (h : Am p = true) : (0 ≤ Cp p ∧ Cp p < 256) ∧ Cp p / 16 = p.fType := by
 obtain ⟨ht, hq, _, _⟩ := Ia h
 have h1 : ∀ b, 0 ≤ A6 b 8 ∧ A6 b 8 ≤ 8 := fun b => by cases b <;> decide
 have h2 : ∀ b, 0 ≤ A6 b 1 ∧ A6 b 1 ≤ 1 := fun b => by cases b <;> decide
 have a := h1 p.fDup
 have b := h2 p.fRetain
 unfold Cp
 (repeat' split) <;> omega
theorem Ae6 : ∀ (c w r s u : Bool) (q : Fin 3), let f : Int := A6 c 2 + A6 w 4 + 8 * ((q.val : Nat) : Int) + A6 r 32 + A6 s 64 + A6 u 128; ((0 ≤ f ∧ f < 256) ∧ Gj f 2 = c ∧ Gj f 4 = w ∧ bits .and .i64 (f / 8) 3 = ((q.val : Nat) : Int) ∧ Gj f 32 = r ∧ Gj f 64 = s ∧ Gj f 128 = u) ∧ decide (0 < bits .and .i64 f 2) = c ∧ decide (0 < bits .and .i64 f 4) = w ∧ decide (0 < bits .and .i64 f 32) = r ∧ decide (0 < bits .and .i64 f 64) = s ∧ decide (0 < bits .and .i64 f 128) = u := by decide +kernel
theorem AmE {p : PacketV} (hq : 0 ≤ p.fWQos ∧ p.fWQos ≤ 2) : ((0 ≤ Dy p ∧ Dy p < 256) ∧ Gj (Dy p) 2 = p.fClean ∧ Gj (Dy p) 4 = p.fHasWill ∧ bits .and .i64 (Dy p / 8) 3 = p.fWQos ∧ Gj (Dy p) 32 = p.fWRetain ∧ Gj (Dy p) 64 = p.fHasPass ∧ Gj (Dy p) 128 = p.fHasUser) ∧ decide (0 < bits .and .i64 (Dy p) 2) = p.fClean ∧ decide (0 < bits .and .i64 (Dy p) 4) = p.fHasWill ∧ decide (0 < bits .and .i64 (Dy p) 32) = p.fWRetain ∧ decide (0 < bits .and .i64 (Dy p) 64) = p.fHasPass ∧ decide (0 < bits .and .i64 (Dy p) 128) = p.fHasUser := by
 have h := Ae6 p.fClean p.fHasWill p.fWRetain p.fHasPass p.fHasUser ⟨p.fWQos.toNat, by omega⟩
 have e : ((p.fWQos.toNat : Nat) : Int) = p.fWQos := by omega
 simp only [e] at h
 exact h
theorem Aj9 : ∀ (d r : Bool) (q : Fin 3), let f : Int := 48 + A6 d 8 + 2 * ((q.val : Nat) : Int) + A6 r 1; (Gj f 8 = d ∧ bits .and .i64 (f / 2) 3 = ((q.val : Nat) : Int) ∧ Gj f 1 = r) ∧ decide (0 < bits .and .i64 f 8) = d ∧ decide (0 < bits .and .i64 f 1) = r := by decide +kernel
def Hy (c : Bool) (l : List UInt8) : List UInt8 := if c then l else []
theorem Acz {p : PacketV} (hc : Bo p.fClient = true) (hw : p.fHasWill = true → Bo p.fWTopic = true ∧ p.fWBody.size ≤ 60) (hu : Bo p.fUser = true) (hp : p.fPass.size ≤ 60) :
  bl (Ev p) = Gk mqtt ++ (u8 (p.fLevel % 256) :: u8 (Dy p % 256) :: (Mn p.fKeep ++ (Gk p.fClient ++ (Hy p.fHasWill (Gk p.fWTopic ++ Gk p.fWBody) ++ (Hy p.fHasUser (Gk p.fUser) ++ Hy p.fHasPass (Gk p.fPass)))))) := by
 have h3 : ∀ b, bl (C1 p b) = bl b ++ Hy p.fHasPass (Gk p.fPass) := fun b => by
  unfold C1 Hy
  split
  exact Aan hp b
  simp
 have h2 : ∀ b, bl (Dr p b) = bl b ++ Hy p.fHasUser (Gk p.fUser) := fun b => by
  unfold Dr Hy
  split
  exact Me hu b
  simp
 have h1 : ∀ b, bl (Eu p b) = bl b ++ Hy p.fHasWill (Gk p.fWTopic ++ Gk p.fWBody) := fun b => by
  unfold Eu Hy
  split
  rename_i h
  rw [Aan (hw h).2, Me (hw h).1, zaf]
  simp
 unfold Ev Gq
 rw [h3, h2, h1, Me hc, Rm, Iu, Iu, Me (by decide +kernel)]
 simp only [zaf, zal, zau]
 rfl
theorem Ib {B : ByteArray} {a : Int} {c : Bool} {x l : List UInt8} (h : Sf B a (Hy c x ++ l)) : (c = true → Sf B a (x ++ l)) ∧ (c = false → Sf B a l) := by
 unfold Hy at h
 constructor <;> intro hc <;> simpa [hc] using h
end
section
open Go
theorem Q0 {p : PacketV} (h : Am p = true) (h1 : p.fType = 1) : (Bo p.fClient = true ∧ (p.fHasWill = true → Bo p.fWTopic = true ∧ p.fWBody.size ≤ 60) ∧ Bo p.fUser = true ∧ p.fPass.size ≤ 60) ∧ (0 ≤ p.fLevel ∧ p.fLevel ≤ 255) ∧ (0 ≤ p.fKeep ∧ p.fKeep ≤ 65535) := by
 obtain ⟨_, _, hk⟩ := Fi h
 unfold Cj at hk
 rw [if_pos h1] at hk
 unfold Hj at hk
 simp only [zag, Gu, decide_eq_true_eq, zaI] at hk
 obtain ⟨k1, k2, k3, k4, k5, k6⟩ := hk
 refine ⟨⟨k2, fun hw => ?_, k5, by omega⟩, k1, k3⟩
 rcases k4 with k4 | k4
 rw [hw] at k4
 cases k4
 exact ⟨Rh k4.1, by omega⟩
theorem Zi {p : PacketV} (h : Am p = true) (h1 : p.fType = 1) : p = { B3 1 with fLevel := p.fLevel, fKeep := p.fKeep, fClient := p.fClient, fClean := p.fClean, fHasWill := p.fHasWill, fHasPass := p.fHasPass, fHasUser := p.fHasUser, fWQos := p.fWQos, fWRetain := p.fWRetain, fWTopic := p.fWTopic, fWBody := p.fWBody, fUser := p.fUser, fPass := p.fPass } ∧ (p.fHasWill = false → p.fWTopic = bs0 ∧ p.fWBody = bs0 ∧ p.fWRetain = false ∧ p.fWQos = 0) ∧ (p.fHasUser = false → p.fUser = bs0 ∧ p.fHasPass = false) ∧ (p.fHasPass = false → p.fPass = bs0) := by
 obtain ⟨_, hn, _⟩ := Fi h
 clear h
 unfold Aw at hn
 rw [if_pos h1] at hn
 obtain ⟨a1, a2, a3, a4, a5, a6, a7, a8, a9, a10, a11, a12, a13, a14, a15, a16, a17, a18, a19, a20, a21, a22, a23, a24, a25⟩ := p
 dsimp only at hn h1 ⊢
 subst h1
 cases a12 <;> cases a17 <;> cases a19 <;> simp only [Dp, Dq, B3, if_true, if_false, zaa, PacketV.mk.injEq, true_and, and_true, false_and, and_false, reduceCtorEq] at hn <;> simp [B3, hn]
theorem Aho (c : Bool) (x y : List UInt8) : Hy c (x ++ y) = Hy c x ++ Hy c y := by cases c <;> rfl
theorem Qf {B s : ByteArray} {a : Int} {c : Bool} {l : List UInt8} (h : Sf B a (Hy c (Gk s) ++ l)) (hs : s.size ≤ 60) (hz : c = false → s = bs0) : ∃ a', (if c then Ej B (a, false) else (bs0, (a, false))) = (s, a', false) ∧ Sf B a' l := by
 cases c with
 | true => exact ⟨_, Lj ((Ib h).1 rfl) hs, (Kj ((Ib h).1 rfl) hs).2⟩
 | false => exact ⟨a, by rw [hz rfl]; rfl, (Ib h).2 rfl⟩
theorem W0 {B s : ByteArray} {a : Int} {c : Bool} {l : List UInt8} (h : Sf B a (Hy c (Gk s) ++ l)) (hs : s.size ≤ 60) (hz : c = false → s = bs0) : ∃ a', Ea c (Bf B) a = (s, a', true) ∧ Sf B a' l := by
 cases c with
 | true => exact ⟨_, (Kj ((Ib h).1 rfl) hs).1, (Kj ((Ib h).1 rfl) hs).2⟩
 | false => exact ⟨a, by rw [hz rfl]; rfl, (Ib h).2 rfl⟩
theorem Y3 {B s : ByteArray} {a : Int} {c : Bool} {l : List UInt8} (h : Sf B a (Hy c (Gk s) ++ l)) (hs : c = true → Bo s = true) (hz : c = false → s = bs0) : ∃ a', Ea c (Bz B) a = (s, a', true) ∧ Sf B a' l := by
 cases c with
 | true => exact ⟨_, (Oe ((Ib h).1 rfl) (hs rfl)).1, (Oe ((Ib h).1 rfl) (hs rfl)).2⟩
 | false => exact ⟨a, by rw [hz rfl]; rfl, (Ib h).2 rfl⟩
theorem Ahp (c : Bool) (x : List UInt8) : Hy c x = Hy c x ++ [] := (zap _).symm
theorem Ab0 {p : PacketV} (h : Am p = true) (h1 : p.fType = 1) : p.fWTopic.size ≤ 60 ∧ p.fWBody.size ≤ 60 ∧ p.fUser.size ≤ 60 ∧ p.fPass.size ≤ 60 := by
 obtain ⟨⟨c1, c2, c3, c4⟩, _⟩ := Q0 h h1
 obtain ⟨_, hz, _⟩ := Zi h h1
 cases hw : p.fHasWill
 rw [(hz hw).1, (hz hw).2.1]
 exact ⟨by decide, by decide, Fg c3, c4⟩
 exact ⟨Fg (c2 hw).1, (c2 hw).2, Fg c3, c4⟩
theorem AjA {p : PacketV} (h : Am p = true) (h1 : p.fType = 1) : Fc (Ev p) = p ∧ Ax (Ev p) = p := by
 obtain ⟨⟨c1, c2, c3, c4⟩, c5, c6⟩ := Q0 h h1
 obtain ⟨z0, z1, z2, z3⟩ := Zi h h1
 obtain ⟨y1, y2, y3, y4⟩ := Ab0 h h1
 obtain ⟨⟨f0, f1, f2, f3, f4, f5, f6⟩, g1, g2, g4, g5, g6⟩ := AmE (Ia h).wq
 have s0 := Xi (Ev p) (Acz c1 c2 c3 c4)
 have e0 := Lj s0 (by decide)
 have k0 := (Oe s0 (by decide +kernel)).1
 have s1 := (Kj s0 (by decide)).2
 generalize ha : (0 + 2 + ((mqtt.size : Nat) : Int)) = a at e0 k0 s1
 obtain ⟨e1, s2⟩ := Rg s1 (by omega) (by omega)
 obtain ⟨e2, s3⟩ := Rg s2 (by omega) (by omega)
 have hb1 := s1.head.1
 have hb2 := s2.head.1
 have hlt := s2.head.2.1
 rw [La (by omega) (by omega)] at hb1 hb2
 have e3 := Xj s3 c6.1 (by omega)
 obtain ⟨k3, s4⟩ := Qj s3 c6.1 (by omega)
 have e4 := Lj s4 (Fg c1)
 obtain ⟨k4, s5⟩ := Oe s4 c1
 rw [Aho, zaf] at s5
 rw [Ahp p.fHasPass] at s5
 have fl : Dy p % 256 = Dy p := by omega
 have ll : p.fLevel % 256 = p.fLevel := by omega
 rw [fl] at e2 hb2
 rw [ll] at e1 hb1
 have hz1 : p.fHasUser = false → p.fUser = bs0 := fun e => (z2 e).1
 constructor
 obtain ⟨a5, e5, s6⟩ := Qf s5 y1 (fun e => (z1 e).1)
 obtain ⟨a6, e6, s7⟩ := Qf s6 y2 (fun e => (z1 e).2.1)
 obtain ⟨a7, e7, s8⟩ := Qf s7 y3 hz1
 obtain ⟨a8, e8, s9⟩ := Qf s8 y4 z3
 unfold Fc
 simp only [e0, e1, e2, e3, e4, f1, f2, f3, f4, f5, f6, e5, e6, e7, e8]
 have w1 : (if p.fHasWill = true then p.fWQos else 0) = p.fWQos := by
  split
  rfl
  rename_i hw
  exact ((z1 (by simpa using hw)).2.2.2).symm
 have w2 : (if p.fHasWill = true then p.fWRetain else false) = p.fWRetain := by
  split
  rfl
  rename_i hw
  exact ((z1 (by simpa using hw)).2.2.1).symm
 rw [w1, w2]
 exact z0.symm
 obtain ⟨a5, e5, s6⟩ := Y3 s5 (fun e => (c2 e).1) (fun e => (z1 e).1)
 obtain ⟨a6, e6, s7⟩ := W0 s6 y2 (fun e => (z1 e).2.1)
 obtain ⟨a7, e7, s8⟩ := Y3 s7 (fun _ => c3) hz1
 obtain ⟨a8, e8, s9⟩ := W0 s8 y4 z3
 unfold Ax
 rw [k0]
 unfold Hr
 rw [if_neg (by simp; omega)]
 show Hg _ a (Bn _ (a + 2)) (Bz _ (Bn _ (a + 2)).2.1) = p
 rw [show a + 2 = a + 1 + 1 by omega, k3, k4]
 unfold Hg
 rw [if_neg (by simp), hb2, hb1]
 show Hf _ (Dy p) _ (a + 1 + 1 + 2 + 2 + ((p.fClient.size : Nat) : Int)) = p
 unfold Hf
 rw [g2, e5]
 dsimp only
 rw [e6]
 dsimp only
 rw [g6, e7]
 dsimp only
 rw [g5, e8]
 unfold He F2
 rw [if_neg (by simp), if_neg (by simp), if_neg (by simp)]
 simp only [g1, g2, g4, g5, g6, f3]
 exact z0.symm
end
section
open Go
theorem AlZ {p : PacketV} (h : Am p = true) (h2 : p.fType = 2) {B : ByteArray} (hB : B = A4 (A4 bs0 (A6 p.fPresent 1 % 256)) (p.fCode % 256)) : { B3 2 with fPresent := decide ((Lb B (0, false)).1 = 1), fCode := (Lb B (Lb B (0, false)).2).1 } = p ∧ ((B.size : Nat) : Int) = 2 ∧ { B3 2 with fPresent := A2 B 0 == 1, fCode := A2 B 1 } = p := by
 obtain ⟨_, hn, hk⟩ := Fi h
 unfold Cj at hk
 rw [if_neg (by omega), if_pos h2] at hk
 simp only [zag, Gu] at hk
 have hb : 0 ≤ A6 p.fPresent 1 ∧ A6 p.fPresent 1 ≤ 1 ∧ (A6 p.fPresent 1 = 1 ↔ p.fPresent = true) := by
  unfold A6
  cases p.fPresent <;> simp
 have s0 := Xi B (l := u8 (A6 p.fPresent 1 % 256) :: u8 (p.fCode % 256) :: []) (by rw [hB, Iu, Iu]; rfl)
 have hs := s0.len
 obtain ⟨e1, s1⟩ := Rg s0 (by omega) (by omega)
 obtain ⟨e2, s2⟩ := Rg s1 (by omega) (by omega)
 have b1 := s0.head.1
 have b2 := s1.head.1
 rw [La (by omega) (by omega)] at b1 b2
 have eb : A6 p.fPresent 1 % 256 = A6 p.fPresent 1 := by omega
 have ec : p.fCode % 256 = p.fCode := by omega
 rw [eb] at e1 b1
 rw [ec] at e2 b2
 have hz : { B3 2 with fCode := p.fCode, fPresent := p.fPresent } = p := by
  unfold Aw at hn
  rw [if_neg (by omega), if_pos h2, h2] at hn
  simpa using hn.symm
 have hd : decide (A6 p.fPresent 1 = 1) = p.fPresent := by
  cases hq : p.fPresent <;> simp [A6]
 refine ⟨?_, by simpa using hs.symm, ?_⟩
 rw [e1]
 show { B3 2 with fPresent := decide (A6 p.fPresent 1 = 1), fCode := (Lb B (0 + 1, false)).1 } = p
 rw [e2, hd]
 exact hz
 have b3 : A2 B 1 = p.fCode := b2
 have : (A6 p.fPresent 1 == 1) = p.fPresent := by
  cases hq : p.fPresent <;> simp [A6]
 rw [b1, b3, this]
 exact hz
theorem AeJ {p : PacketV} (h : Am p = true) (h3 : p.fType = 3) : (Gj (Cp p) 8 = p.fDup ∧ bits .and .i64 (Cp p / 2) 3 = p.fQos ∧ Gj (Cp p) 1 = p.fRetain) ∧ decide (0 < bits .and .i64 (Cp p) 8) = p.fDup ∧ decide (0 < bits .and .i64 (Cp p) 1) = p.fRetain := by
 obtain ⟨_, hq, _, _⟩ := Ia h
 have k := Aj9 p.fDup p.fRetain ⟨p.fQos.toNat, by omega⟩
 have e : ((p.fQos.toNat : Nat) : Int) = p.fQos := by omega
 have e2 : Cp p = 48 + A6 p.fDup 8 + 2 * p.fQos + A6 p.fRetain 1 := by
  unfold Cp
  rw [if_pos h3, h3]
  omega
 simp only [e, ← e2] at k
 exact k
theorem Ama {p : PacketV} (h : Am p = true) (h3 : p.fType = 3) : Dk (Cp p) (F9 p) = p ∧ Dh (Cp p) (F9 p) = p := by
 obtain ⟨_, hn, hk⟩ := Fi h
 obtain ⟨hf, hi⟩ := (Ia h).q, (Ia h).i
 unfold Cj at hk
 rw [if_neg (by omega), if_neg (by omega), if_pos h3] at hk
 simp only [zag, Gu, decide_eq_true_eq, zaI] at hk
 obtain ⟨k1, k2, k3, k4⟩ := hk
 obtain ⟨⟨q1, q2, q3⟩, q4, q5⟩ := AeJ h h3
 have ht := (Ru h).2
 have hT := Rh k2
 have s0 := Xi (F9 p) (l := Gk p.fTopic ++ (Hy (decide (0 < p.fQos)) (Mn p.fId) ++ bl p.fBody)) (by
  unfold F9
  rw [Ze]
  split
  rename_i hq
  rw [Rm, Me hT]
  simp [Hy, hq]
  rename_i hq
  rw [Me hT]
  simp [Hy, hq])
 have e0 := Lj s0 (Fg hT)
 obtain ⟨k0, s1⟩ := Oe s0 hT
 generalize ha : (0 + 2 + ((p.fTopic.size : Nat) : Int)) = a at e0 k0 s1
 have hz : p = { B3 3 with fQos := p.fQos, fRetain := p.fRetain, fTopic := p.fTopic, fBody := p.fBody, fDup := p.fDup, fId := p.fId } ∧ (¬ 0 < p.fQos → p.fDup = false ∧ p.fId = 0) := by
  unfold Aw at hn
  rw [if_neg (by omega), if_neg (by omega), if_pos h3, h3] at hn
  split at hn
  rename_i hq
  exact ⟨hn, fun e => absurd hq e⟩
  rename_i hq
  have d1 : p.fDup = false := congrArg PacketV.fDup hn
  have d2 : p.fId = 0 := congrArg PacketV.fId hn
  exact ⟨by rw [d1, d2]; exact hn, fun _ => ⟨d1, d2⟩⟩
 have e3 : Cp p / 16 = 3 := by omega
 have fin : ∀ (w : Int × Int × Bool), w = (if 0 < p.fQos then (p.fId, a + 2, true) else (0, a, true)) → p = { B3 3 with fDup := p.fDup, fQos := p.fQos, fRetain := p.fRetain, fTopic := p.fTopic, fId := w.1, fBody := (F9 p).extract w.2.1.toNat (F9 p).size } := by
  rintro w rfl
  by_cases hq : 0 < p.fQos
  have s2 := (Ib s1).1 (by simp [hq])
  obtain ⟨_, s3⟩ := Qj s2 hi.1 (by omega)
  rw [if_pos hq]
  dsimp only
  rw [Adg s3]
  exact hz.1
  have s2 := (Ib s1).2 (by simp [hq])
  rw [if_neg hq]
  dsimp only
  rw [Adg s2, ← (hz.2 hq).2]
  exact hz.1
 constructor
 have e1 : (if 0 < p.fQos then Hd (F9 p) (a, false) else (0, a, false)) = ((if 0 < p.fQos then (p.fId, a + 2, true) else (0, a, true)).1, (if 0 < p.fQos then (p.fId, a + 2, true) else (0, a, true)).2.1, false) := by
  by_cases hq : 0 < p.fQos
  rw [if_pos hq, if_pos hq, Xj ((Ib s1).1 (by simp [hq])) hi.1 (by omega)]
  rw [if_neg hq, if_neg hq]
 unfold Dk
 dsimp only
 rw [e3, if_neg (by decide), if_neg (by decide), if_pos rfl, e0, q1, q2, q3]
 dsimp only
 rw [e1]
 dsimp only
 simp only [zaa, if_false]
 exact (fin _ rfl).symm
 have e1 : (if 0 < p.fQos then Bn (F9 p) a else (0, a, true)) = (if 0 < p.fQos then (p.fId, a + 2, true) else (0, a, true)) := by
  by_cases hq : 0 < p.fQos
  rw [if_pos hq, if_pos hq, (Qj ((Ib s1).1 (by simp [hq])) hi.1 (by omega)).1]
  rw [if_neg hq, if_neg hq]
 unfold Dh Lc
 rw [e3, if_neg (by decide), if_neg (by omega), if_pos rfl, k0, q2]
 dsimp only
 rw [if_neg (by simp), e1]
 unfold Hs Lc
 rw [q2, q4, q5, e3, if_neg (by split <;> simp)]
 exact (fin _ rfl).symm
def Kk (w : WantV) : List UInt8 := Gk w.fFilter ++ [u8 (w.fQos % 256)]
theorem U6 : ∀ (l : List WantV) (b : ByteArray), (∀ w ∈ l, Bo w.fFilter = true) → bl (Bi b l) = bl b ++ (l.map Kk).flatten
 | [], b, _ => by simp [Bi]
 | w :: l, b, h => by
  have e := U6 l (A4 (Aj b w.fFilter) (w.fQos % 256)) fun x hx => h x (zat _ hx)
  rw [Iu, Me (h w (zay ..))] at e
  show bl (Bi (A4 (Aj b w.fFilter) (w.fQos % 256)) l) = _
  rw [e, zaq, zaz]
  simp only [Kk, zaf]
theorem U4 : ∀ (l : List Int) (b : ByteArray), bl (Dj b l) = bl b ++ l.map fun c => u8 (c % 256)
 | [], b => by simp [Dj]
 | c :: l, b => by
  have e := U4 l (A4 b (c % 256))
  rw [Iu] at e
  show bl (Dj (A4 b (c % 256)) l) = _
  rw [e, zaq, zaf]
  rfl
theorem U5 : ∀ (l : List ByteArray) (b : ByteArray), (∀ w ∈ l, Bo w = true) → bl (E6 b l) = bl b ++ (l.map Gk).flatten
 | [], b, _ => by simp [E6]
 | w :: l, b, h => by
  have e := U5 l (Aj b w) fun x hx => h x (zat _ hx)
  rw [Me (h w (zay ..))] at e
  show bl (E6 (Aj b w) l) = _
  rw [e, zaq, zaz, zaf]
theorem Ut {t : Int} {B : ByteArray} {f : Nat} {a : Int} {ws : List WantV} {cs : List Int} {ns : List ByteArray} (s : Sf B a []) : Cb t B (f + 1) (a, false) ws cs ns = (ws, cs, ns) := by
 rw [Cb, if_neg (by have := s.nil; simp; omega)]
theorem AmV {B : ByteArray} : ∀ (l ws : List WantV) (f : Nat) (a : Int), Sf B a (l.map Kk).flatten → (∀ w ∈ l, Bo w.fFilter = true ∧ 0 ≤ w.fQos ∧ w.fQos < 256) → ws.length + l.length ≤ 4 → l.length < f → Cb 8 B f (a, false) ws [] [] = (ws ++ l, [], [])
 | [], ws, f + 1, a, s, h, hl, hf => by
  rw [Ut s, zap]
 | w :: l, ws, f + 1, a, s, h, hl, hf => by
  simp only [zam] at hl hf
  rw [zaq, zaz] at s
  obtain ⟨h1, h2⟩ := h w (zay ..)
  have s' : Sf B a (Gk w.fFilter ++ (u8 (w.fQos % 256) :: (l.map Kk).flatten)) := by
   unfold Kk at s
   rw [zaf] at s
   exact s
  have e1 := Lj s' (Fg h1)
  obtain ⟨_, s2⟩ := Kj s' (Fg h1)
  obtain ⟨e2, s3⟩ := Rg s2 (by omega) (by omega)
  have hlt := s'.head.2.1
  rw [Cb, if_pos (by simp; omega), if_pos rfl, e1]
  dsimp only
  rw [e2, show w.fQos % 256 = w.fQos by omega]
  dsimp only
  rw [AmV l (ws ++ [(⟨w.fFilter, w.fQos⟩ : WantV)]) f _ s3 (fun x hx => h x (zat _ hx)) (by simp only [zad, zas]; omega) (by omega), zaf]
  rfl
theorem AmW {B : ByteArray} : ∀ (l cs : List Int) (f : Nat) (a : Int), Sf B a (l.map fun c => u8 (c % 256)) → (∀ c ∈ l, 0 ≤ c ∧ c < 256) → cs.length + l.length ≤ 4 → l.length < f → Cb 9 B f (a, false) [] cs [] = ([], cs ++ l, [])
 | [], cs, f + 1, a, s, h, hl, hf => by
  rw [Ut s, zap]
 | c :: l, cs, f + 1, a, s, h, hl, hf => by
  simp only [zam] at hl hf
  rw [zaq] at s
  have h2 := h c (zay ..)
  obtain ⟨e2, s3⟩ := Rg s (by omega) (by omega)
  have hlt := s.head.2.1
  rw [Cb, if_pos (by simp; omega), if_neg (by decide), if_pos rfl, e2, show c % 256 = c by omega]
  dsimp only
  rw [AmW l (cs ++ [c]) f _ s3 (fun x hx => h x (zat _ hx)) (by simp only [zad, zas]; omega) (by omega), zaf]
  rfl
theorem Ak6 {B : ByteArray} : ∀ (l ns : List ByteArray) (f : Nat) (a : Int), Sf B a (l.map Gk).flatten → (∀ w ∈ l, Bo w = true) → ns.length + l.length ≤ 4 → l.length < f → Cb 10 B f (a, false) [] [] ns = ([], [], ns ++ l)
 | [], ns, f + 1, a, s, h, hl, hf => by
  rw [Ut s, zap]
 | w :: l, ns, f + 1, a, s, h, hl, hf => by
  simp only [zam] at hl hf
  rw [zaq, zaz] at s
  have h1 := h w (zay ..)
  have e1 := Lj s (Fg h1)
  obtain ⟨_, s2⟩ := Kj s (Fg h1)
  have hlt := s.head.2.1
  rw [Cb, if_pos (by simp; omega), if_neg (by decide), if_neg (by decide), if_pos rfl, e1]
  dsimp only
  rw [Ak6 l (ns ++ [w]) f _ s2 (fun x hx => h x (zat _ hx)) (by simp only [zad, zas]; omega) (by omega), zaf]
  rfl
theorem Sn {t : Int} {B : ByteArray} {f : Nat} {a : Int} {ws : List WantV} {ns : List ByteArray} (h : ((B.size : Nat) : Int) ≤ a ∨ (t ≠ 8 ∧ t ≠ 10)) : Cy t B (f + 1) a ws ns = some (ws, ns) := by
 rw [Cy, if_neg (by simp; omega)]
theorem AmX {B : ByteArray} : ∀ (l ws : List WantV) (f : Nat) (a : Int), Sf B a (l.map Kk).flatten → (∀ w ∈ l, Bo w.fFilter = true ∧ 0 ≤ w.fQos ∧ w.fQos < 256) → l.length < f → Cy 8 B f a ws [] = some (ws ++ l, [])
 | [], ws, f + 1, a, s, h, hf => by
  rw [Sn (.inl (by have := s.nil; omega)), zap]
 | w :: l, ws, f + 1, a, s, h, hf => by
  simp only [zam] at hf
  rw [zaq, zaz] at s
  obtain ⟨h1, h2⟩ := h w (zay ..)
  have s' : Sf B a (Gk w.fFilter ++ (u8 (w.fQos % 256) :: (l.map Kk).flatten)) := by
   unfold Kk at s
   rw [zaf] at s
   exact s
  obtain ⟨e1, s2⟩ := Oe s' h1
  obtain ⟨e2, s3⟩ := Rg s2 (by omega) (by omega)
  obtain ⟨hb, hl2, _⟩ := s2.head
  rw [La (by omega) (by omega), show w.fQos % 256 = w.fQos by omega] at hb
  have hlt := s'.head.2.1
  rw [Cy, if_pos (by simp; omega), e1]
  dsimp only
  rw [if_pos rfl, if_neg (by decide), if_neg (by omega), hb, AmX l (ws ++ [(⟨w.fFilter, w.fQos⟩ : WantV)]) f _ s3 (fun x hx => h x (zat _ hx)) (by omega), zaf]
  rfl
theorem Ak7 {B : ByteArray} : ∀ (l ns : List ByteArray) (f : Nat) (a : Int), Sf B a (l.map Gk).flatten → (∀ w ∈ l, Bo w = true) → l.length < f → Cy 10 B f a [] ns = some ([], ns ++ l)
 | [], ns, f + 1, a, s, h, hf => by
  rw [Sn (.inl (by have := s.nil; omega)), zap]
 | w :: l, ns, f + 1, a, s, h, hf => by
  simp only [zam] at hf
  rw [zaq, zaz] at s
  have h1 := h w (zay ..)
  obtain ⟨e1, s2⟩ := Oe s h1
  have hlt := s.head.2.1
  rw [Cy, if_pos (by simp; omega), e1]
  dsimp only
  rw [if_pos rfl, if_pos rfl, Ak7 l (ns ++ [w]) f _ s2 (fun x hx => h x (zat _ hx)) (by omega), zaf]
  rfl
theorem rdC {B : ByteArray} : ∀ (l cs : List Int) (f : Nat) (a : Int), Sf B a (l.map fun c => u8 (c % 256)) → (∀ c ∈ l, 0 ≤ c ∧ c < 256) → l.length < f → F7 B f a cs = cs ++ l
 | [], cs, f + 1, a, s, h, hf => by
  rw [F7, if_neg (by have := s.nil; omega), zap]
 | c :: l, cs, f + 1, a, s, h, hf => by
  simp only [zam] at hf
  rw [zaq] at s
  have h2 := h c (zay ..)
  obtain ⟨hb, hlt, s3⟩ := s.head
  rw [La (by omega) (by omega), show c % 256 = c by omega] at hb
  rw [F7, if_pos hlt, hb, rdC l (cs ++ [c]) f _ s3 (fun x hx => h x (zat _ hx)) (by omega), zaf]
  rfl
end
section
open Go
theorem Bc : bs0.size = 0 := rfl
theorem Afb (z : Int) (hz : 0 ≤ z ∧ z < 256) : AV.ro 1 [.sc (.int .u8 z)] = Ad (A4 bs0 z) := by
 rw [Ht _ z hz.1 hz.2]
 rfl
theorem AkD (z w : Int) (hz : (0 ≤ z ∧ z < 256) ∧ 0 ≤ w ∧ w < 256) : AV.ro 2 [.sc (.int .u8 z), .sc (.int .u8 w)] = Ad (A4 (A4 bs0 z) w) := by
 rw [Ht _ w hz.2.1 hz.2.2, Av, (AV.ro.inj (Ht bs0 z hz.1.1 hz.1.2)).2]
 rfl
theorem Aal (b c : ByteArray) (z : Int) : b ++ A4 c z = A4 (b ++ c) z := by
 apply ByteArray.ext
 unfold A4
 rw [zbu, zbC, zbC, zbu, Array.append_push]
theorem AhN (a : ByteArray) : a ++ bs0 = a := by
 apply ByteArray.ext
 rw [zbu]
 exact Array.append_empty ..
theorem M6 (n : Nat) (hn : 1048576 < n) (a : ByteArray) (hs : a.size ≤ 140737488355327) : C0 E0 (n + 4) 22 77 [.ro 1 [Ad a]] = some (Ad (a)) := by
 rw [A7, Agx, f77]
 refine Cm (G := (· = some (Ad (a)))) ?_
 try simp only [Fa, E9]
 have s0 : Sep [] [] := Ch
 refine Cu ?_
 rw [N2]
 try simp only [Fa, E9]
 refine Di (Ap (by decide) (Zu (r := [Ad a]) (by decide) (Ca rfl) rfl (E5 (c := Ad a) rfl (Jc s0 (by omega) fun x1 H lx1 s2 => Bw (by omega) (by omega) ?_))))
 rw [N2]
 try simp only [Fa, E9]
 refine Di (Au (by decide) (Al (Da s2 (.here)) ?_))
 rfl
theorem M7 (n : Nat) (hn : 1048576 < n) (a : ByteArray) (b : ByteArray) (hs : a.size + b.size ≤ 140737488355327) : C0 E0 (n + 4) 22 77 [.ro 2 [Ad a, Ad b]] = some (Ad (a ++ b)) := by
 rw [A7, Agx, f77]
 refine Cm (G := (· = some (Ad (a ++ b)))) ?_
 try simp only [Fa, E9]
 have s0 : Sep [] [] := Ch
 refine Cu ?_
 rw [N2]
 try simp only [Fa, E9]
 refine Di (Ap (by decide) (Zu (r := [Ad a, Ad b]) (by decide) (Ca rfl) rfl (E5 (c := Ad a) rfl (Jc s0 (by omega) fun x1 H lx1 s2 => Bw (by omega) (by omega) ?_))))
 rw [N2]
 try simp only [Fa, E9]
 refine Di (Ap (by decide) (Zu (r := [Ad b]) (by decide) (Ca rfl) rfl (E5 (c := Ad b) rfl (Rw (s := a) s2 ⟨_, _, rfl, rfl, rfl, rfl⟩ (.here) Uv (by omega) fun x3 H lx3 s4 => Bw (by omega) (by omega) ?_))))
 rw [N2]
 try simp only [Fa, E9]
 refine Di (Au (by decide) (Al (Da s4 (.here)) ?_))
 rfl
theorem R2 (n : Nat) (hn : 1048576 < n) (b : ByteArray) (n_ : Int) (hs : b.size ≤ 70368744177664) : C0 E0 (n + 5) 22 142 [Ad b, .sc (.int .i64 n_)] = some (Ad (Ak b n_)) := by
 rw [A7, Ai0, f142]
 refine Cm (G := (· = some (Ad (Ak b n_)))) ?_
 try simp only [Fa, E9]
 have s0 : Sep [] [] := Ch
 refine T2 256 rfl (by decide) (Gm (Md _) (Fq (IntKind.wrap_u8 _) (Gm (Md _) (Fq (IntKind.wrap_u8 _) (Bb (cs := [.sc (.int .u8 (((n_ / 256) % 256) % 256)), .sc (.int .u8 ((n_ % 256) % 256))]) rfl (B9 s0 fun i1 H s2 => Bb (cs := [Ad b, .sl i1 0 2 1]) rfl (B9 s2 fun i3 H s4 => B7 s4 rfl (.sl (.here) rfl (.cons .ro (.sl Cn rfl (Im .nil) .nil)) .nil) (by rw [AkD (((n_ / 256) % 256) % 256) ((n_ % 256) % 256) (by omega)]; exact M7 n (by omega) b (A4 (A4 bs0 (((n_ / 256) % 256) % 256)) ((n_ % 256) % 256)) (by (simp only [Av, At, Bc]; omega))) (Cx (b ++ (A4 (A4 bs0 (((n_ / 256) % 256) % 256)) ((n_ % 256) % 256)))) fun x5 H lx5 s6 => Al (Da s6 (.here)) ?_)))))))
 (rw [Aal, Aal, AhN]; rfl)
theorem Sr (n : Nat) (hn : 1048576 < n) (b : ByteArray) (n_ : Int) (hs : b.size ≤ 70368744177664) : C0 E0 (n + 1) 22 95 [Ad b, .sc (.int .i64 n_)] = some (Ad (Ak b n_)) := by
 rw [A7, AlB, f95]
 refine Cm (G := (· = some (Ad (Ak b n_)))) ?_
 try simp only [Fa, E9]
 have s0 : Sep [] [] := Ch
 refine Jc s0 (by omega) fun x1 H lx1 s2 => T2 256 rfl (by decide) (Gm (Md _) (Fq (IntKind.wrap_u8 _) (Gm (Md _) (Fq (IntKind.wrap_u8 _) (Bb (cs := [su (((n_ / 256) % 256) % 256), su ((n_ % 256) % 256)]) rfl (B9 s2 fun i3 H s4 => Um (s := b) (z := (((n_ / 256) % 256) % 256)) (w := ((n_ % 256) % 256)) s4 Cn (.here) ⟨_, _, rfl, rfl, rfl, rfl⟩ (by omega) fun x5 H lx5 s6 => Al (Da s6 (.here)) ?_))))))
 rfl
theorem K4 (n : Nat) (hn : 1048576 < n) (b : ByteArray) (s : ByteArray) (hb : b.size ≤ 70368744177664) (hs : s.size ≤ 1048576) : C0 E0 (n + 6) 22 141 [Ad b, .sc (.string s)] = some (Ad (Aj b s)) := by
 rw [A7, Aiz, f141]
 refine Cm (G := (· = some (Ad (Aj b s)))) ?_
 try simp only [Fa, E9]
 have s0 : Sep [] [] := Ch
 refine Wc rfl rfl (M3 _ s (za5 hs (by decide))) (Cr (Aa ((Bo s)) (fun h1 => ?_) fun h1 => ?_))
 refine Au (nF h1) (AgN (B7 s0 rfl (.cons .ro (.cons .sc .nil)) (R2 n (by omega) b (s.size : Int) (by omega)) (Cx (Ak b (s.size : Int))) fun x2 H lx2 s3 => AlI s3 (by omega) fun i4 H s5 => Bb (cs := [x2, .sl i4 0 s.size 1]) (Jb (z' := [x2, .nl]) (D2 lx2) rfl (Ca rfl) rfl (Jb (z' := [x2, .sl i4 0 s.size 1]) (D2 rfl) rfl (Ca rfl) rfl (rfl))) (B9 s5 fun i6 H s7 => B7 s7 rfl (.sl (.here) rfl (.cons (.own (by decide) C7) (.sl Cn AmM vwB .nil)) .nil) (M7 (n + 1) (by omega) (Ak b (s.size : Int)) s (by (simp only [Av, At, Bc]; omega))) (Cx ((Ak b (s.size : Int)) ++ s)) fun x8 H lx8 s9 => Al (Da s9 (.here)) ?_)))
 have e : Aj b s = ((Ak b (s.size : Int)) ++ s) := by
  unfold Aj
  simp only [h1, if_true, if_false, zaa]
 rw [e]
 refine Ap (nT h1) (Bb (cs := [Ad b]) rfl (B9 s0 fun i10 H s11 => B7 s11 rfl (.sl (.here) rfl (.cons .ro .nil) .nil) (M6 (n + 1) (by omega) b (by omega)) (Cx b) fun x12 H lx12 s13 => Al (Da s13 (.here)) ?_))
 have e : Aj b s = b := by
  unfold Aj
  simp only [h1, if_true, if_false, zaa]
 rw [e]
theorem K9 (n : Nat) (hn : 1048576 < n) (b : ByteArray) (s : ByteArray) (hb : b.size ≤ 70368744177664) (hs : s.size ≤ 1048576) : C0 E0 (n + 5) 22 93 [Ad b, .sc (.string s)] = some (Ad (Aj b s)) := by
 rw [A7, Al9, f93]
 refine Cm (G := (· = some (Ad (Aj b s)))) ?_
 try simp only [Fa, E9]
 have s0 : Sep [] [] := Ch
 refine Ar (v := (.bool (Bo s))) s0 rfl (.cons .sc .nil) (I3 n (by omega) _ s) (Cr (Aa ((Bo s)) (fun h1 => ?_) fun h1 => ?_))
 refine Au (nF h1) (AgN (B7 s0 rfl (.cons .ro (.cons .sc .nil)) (Sr (n + 3) (by omega) b (s.size : Int) (by omega)) (Cx (Ak b (s.size : Int))) fun x2 H lx2 s3 => Ajb (s := (Ak b (s.size : Int))) s3 ⟨_, _, rfl, rfl, rfl, rfl⟩ (.here) (by (simp only [Av, At, Bc]; omega)) fun x4 H lx4 s5 => Al (Da s5 (.here)) ?_))
 have e : Aj b s = ((Ak b (s.size : Int)) ++ s) := by
  unfold Aj
  simp only [h1, if_true, if_false, zaa]
 rw [e]
 refine Ap (nT h1) (Jc s0 (by omega) fun x6 H lx6 s7 => Al (Da s7 (.here)) ?_)
 have e : Aj b s = b := by
  unfold Aj
  simp only [h1, if_true, if_false, zaa]
 rw [e]
theorem AcO (n : Nat) (hn : 1048576 < n) (b : ByteArray) (s : ByteArray) (hb : b.size ≤ 70368744177664) (hs : s.size ≤ 1048576) : C0 E0 (n + 6) 22 151 [Ad b, Ad s] = some (Ad (Cw b s)) := by
 rw [A7, Ai4, f151]
 refine Cm (G := (· = some (Ad (Cw b s)))) ?_
 try simp only [Fa, E9]
 have s0 : Sep [] [] := Ch
 refine Cu (Eb (Aa ((decide (60 < ((s.size : Nat) : Int)))) (fun h1 => ?_) fun h1 => ?_))
 refine Ap h1 (Bb (cs := [Ad b]) rfl (B9 s0 fun i2 H s3 => B7 s3 rfl (.sl (.here) rfl (.cons .ro .nil) .nil) (M6 (n + 1) (by omega) b (by omega)) (Cx b) fun x4 H lx4 s5 => Al (Da s5 (.here)) ?_))
 have e : Cw b s = b := by
  unfold Cw
  simp only [h1, if_true, if_false, zaa]
 rw [e]
 refine Au h1 (Cu (B7 s0 rfl (.cons .ro (.cons .sc .nil)) (R2 n (by omega) b ((s.size : Nat) : Int) (by omega)) (Cx (Ak b ((s.size : Nat) : Int))) fun x6 H lx6 s7 => Bb (cs := [x6, Ad s]) (Jb (z' := [x6, .nl]) (D2 lx6) rfl (Ca rfl) rfl (Jb (z' := [x6, Ad s]) (D2 rfl) rfl (Ca rfl) rfl (rfl))) (B9 s7 fun i8 H s9 => B7 s9 rfl (.sl (.here) rfl (.cons (.own (by decide) Cn) (.cons .ro .nil)) .nil) (M7 (n + 1) (by omega) (Ak b ((s.size : Nat) : Int)) s (by (simp only [Av, At, Bc]; omega))) (Cx ((Ak b ((s.size : Nat) : Int)) ++ s)) fun x10 H lx10 s11 => Al (Da s11 (.here)) ?_)))
 have e : Cw b s = ((Ak b ((s.size : Nat) : Int)) ++ s) := by
  unfold Cw
  simp only [h1, if_true, if_false, zaa]
 rw [e]
theorem Adh (n : Nat) (hn : 1048576 < n) (b : ByteArray) (s : ByteArray) (hb : b.size ≤ 70368744177664) (hs : s.size ≤ 1048576) : C0 E0 (n + 2) 22 96 [Ad b, Ad s] = some (Ad (Cw b s)) := by
 rw [A7, AlC, f96]
 refine Cm (G := (· = some (Ad (Cw b s)))) ?_
 try simp only [Fa, E9]
 have s0 : Sep [] [] := Ch
 refine Cu (Eb (Aa ((decide (60 < ((s.size : Nat) : Int)))) (fun h1 => ?_) fun h1 => ?_))
 refine Ap h1 (Jc s0 (by omega) fun x2 H lx2 s3 => Al (Da s3 (.here)) ?_)
 have e : Cw b s = b := by
  unfold Cw
  simp only [h1, if_true, if_false, zaa]
 rw [e]
 refine Au h1 (Cu (B7 s0 rfl (.cons .ro (.cons .sc .nil)) (Sr n (by omega) b ((s.size : Nat) : Int) (by omega)) (Cx (Ak b ((s.size : Nat) : Int))) fun x4 H lx4 s5 => Rw (s := (Ak b ((s.size : Nat) : Int))) s5 ⟨_, _, rfl, rfl, rfl, rfl⟩ (.here) Uv (by (simp only [Av, At, Bc]; omega)) fun x6 H lx6 s7 => Al (Da s7 (.here)) ?_))
 have e : Cw b s = ((Ak b ((s.size : Nat) : Int)) ++ s) := by
  unfold Cw
  simp only [h1, if_true, if_false, zaa]
 rw [e]
theorem Yu {m : Int} (h : Bu m 0 268435455 = true) : 0 ≤ m ∧ m ≤ 268435455 ∧ ¬ 127 < m / 128 / 128 / 128 := by
 simp only [Bu, zag, decide_eq_true_eq] at h
 omega
theorem Ajk (n : Nat) (hn : 1048576 < n) (b : ByteArray) (m_ : Int) (hb : b.size ≤ 70368744177664) : C0 E0 (n + 6) 22 112 [Ad b, .sc (.int .i64 m_)] = some (Ad (C6 b m_)) := by
 rw [A7, Aih, f112]
 refine Cm (G := (· = some (Ad (C6 b m_)))) ?_
 try simp only [Fa, E9]
 have s0 : Sep [] [] := Ch
 refine Bb (cs := [Ad b]) rfl (B9 s0 fun i1 H s2 => B7 s2 rfl (.sl (.here) rfl (.cons .ro .nil) .nil) (M6 (n + 1) (by omega) b (by omega)) (Cx b) fun x3 H lx3 s4 => Ar (v := (.bool (Bu m_ 0 268435455))) s4 rfl (P0 .nil) (Jk (n + 4) _ m_ 0 268435455) (Cr (Aa ((Bu m_ 0 268435455)) (fun h5 => ?_) fun h5 => ?_)))
 obtain ⟨hm0, hm1, hq⟩ := Yu h5
 refine Au (nF h5) ?_
 rw [Ml]
 try simp only [Fa, E9]
 refine Eb (Aa ((decide (127 < m_))) (fun h6 => ?_) fun h6 => ?_)
 refine Ap h6 (Qs (v := .sc (.int .i64 (m_ % 128))) (fun k => by show k (.sc (.int .i64 (Int.tmod (m_) 128))) = _; rw [za7 (by omega)]) (Bw (by omega) (by omega) (Fq (IntKind.wrap_u8 _) (Bb (cs := [.sc (.int .u8 (((m_ % 128) + 128) % 256))]) rfl (B9 s4 fun i7 H s8 => E4 (s := b) (z := (((m_ % 128) + 128) % 256)) s8 Cn (.here) ⟨_, _, rfl, rfl, rfl, rfl⟩ rfl (by omega) fun x9 H lx9 s10 => Pe (by omega) (by omega) (by decide) ?_)))))
 rw [Ml]
 try simp only [Fa, E9]
 refine Eb (Aa ((decide (127 < (m_ / 128)))) (fun h11 => ?_) fun h11 => ?_)
 refine Ap h11 (Qs (v := .sc (.int .i64 ((m_ / 128) % 128))) (fun k => by show k (.sc (.int .i64 (Int.tmod ((m_ / 128)) 128))) = _; rw [za7 (by omega)]) (Bw (by omega) (by omega) (Fq (IntKind.wrap_u8 _) (Bb (cs := [.sc (.int .u8 ((((m_ / 128) % 128) + 128) % 256))]) rfl (B9 s10 fun i12 H s13 => E4 (s := (A4 b (((m_ % 128) + 128) % 256))) (z := ((((m_ / 128) % 128) + 128) % 256)) s13 Cn (.here) ⟨_, _, rfl, rfl, rfl, rfl⟩ rfl (by (simp only [Av, Bc]; omega)) fun x14 H lx14 s15 => Pe (by omega) (by omega) (by decide) ?_)))))
 rw [Ml]
 try simp only [Fa, E9]
 refine Eb (Aa ((decide (127 < ((m_ / 128) / 128)))) (fun h16 => ?_) fun h16 => ?_)
 refine Ap h16 (Qs (v := .sc (.int .i64 (((m_ / 128) / 128) % 128))) (fun k => by show k (.sc (.int .i64 (Int.tmod (((m_ / 128) / 128)) 128))) = _; rw [za7 (by omega)]) (Bw (by omega) (by omega) (Fq (IntKind.wrap_u8 _) (Bb (cs := [.sc (.int .u8 (((((m_ / 128) / 128) % 128) + 128) % 256))]) rfl (B9 s15 fun i17 H s18 => E4 (s := (A4 (A4 b (((m_ % 128) + 128) % 256)) ((((m_ / 128) % 128) + 128) % 256))) (z := (((((m_ / 128) / 128) % 128) + 128) % 256)) s18 Cn (.here) ⟨_, _, rfl, rfl, rfl, rfl⟩ rfl (by (simp only [Av, Bc]; omega)) fun x19 H lx19 s20 => Pe (by omega) (by omega) (by decide) ?_)))))
 rw [Ml]
 try simp only [Fa, E9]
 refine Eb (Au (decide_eq_false (by omega)) (Fq (IntKind.wrap_u8 _) (Bb (cs := [.sc (.int .u8 ((((m_ / 128) / 128) / 128) % 256))]) rfl (B9 s20 fun i21 H s22 => E4 (s := (A4 (A4 (A4 b (((m_ % 128) + 128) % 256)) ((((m_ / 128) % 128) + 128) % 256)) (((((m_ / 128) / 128) % 128) + 128) % 256))) (z := ((((m_ / 128) / 128) / 128) % 256)) s22 Cn (.here) ⟨_, _, rfl, rfl, rfl, rfl⟩ rfl (by (simp only [Av, Bc]; omega)) fun x23 H lx23 s24 => Al (Da s24 (.here)) ?_))))
 have e : C6 b m_ = (A4 (A4 (A4 (A4 b (((m_ % 128) + 128) % 256)) ((((m_ / 128) % 128) + 128) % 256)) (((((m_ / 128) / 128) % 128) + 128) % 256)) ((((m_ / 128) / 128) / 128) % 256)) := by
  simp only [Cs] at h5 h6 h11 h16
  unfold C6
  simp only [h5, h6, h11, h16, if_true, if_false, zaa, Kt, hq]
 rw [e]
 refine Au h16 (Fq (IntKind.wrap_u8 _) (Bb (cs := [.sc (.int .u8 (((m_ / 128) / 128) % 256))]) rfl (B9 s15 fun i25 H s26 => E4 (s := (A4 (A4 b (((m_ % 128) + 128) % 256)) ((((m_ / 128) % 128) + 128) % 256))) (z := (((m_ / 128) / 128) % 256)) s26 Cn (.here) ⟨_, _, rfl, rfl, rfl, rfl⟩ rfl (by (simp only [Av, Bc]; omega)) fun x27 H lx27 s28 => Al (Da s28 (.here)) ?_)))
 have e : C6 b m_ = (A4 (A4 (A4 b (((m_ % 128) + 128) % 256)) ((((m_ / 128) % 128) + 128) % 256)) (((m_ / 128) / 128) % 256)) := by
  simp only [Cs] at h5 h6 h11 h16
  unfold C6
  simp only [h5, h6, h11, h16, if_true, if_false, zaa, Kt, hq]
 rw [e]
 refine Au h11 (Fq (IntKind.wrap_u8 _) (Bb (cs := [.sc (.int .u8 ((m_ / 128) % 256))]) rfl (B9 s10 fun i29 H s30 => E4 (s := (A4 b (((m_ % 128) + 128) % 256))) (z := ((m_ / 128) % 256)) s30 Cn (.here) ⟨_, _, rfl, rfl, rfl, rfl⟩ rfl (by (simp only [Av, Bc]; omega)) fun x31 H lx31 s32 => Al (Da s32 (.here)) ?_)))
 have e : C6 b m_ = (A4 (A4 b (((m_ % 128) + 128) % 256)) ((m_ / 128) % 256)) := by
  simp only [Cs] at h5 h6 h11
  unfold C6
  simp only [h5, h6, h11, if_true, if_false, zaa, Kt, hq]
 rw [e]
 refine Au h6 (Fq (IntKind.wrap_u8 _) (Bb (cs := [su (m_ % 256)]) rfl (B9 s4 fun i33 H s34 => E4 (s := b) (z := (m_ % 256)) s34 Cn (.here) ⟨_, _, rfl, rfl, rfl, rfl⟩ rfl (by omega) fun x35 H lx35 s36 => Al (Da s36 (.here)) ?_)))
 have e : C6 b m_ = (A4 b (m_ % 256)) := by
  simp only [Cs] at h5 h6
  unfold C6
  simp only [h5, h6, if_true, if_false, zaa, Kt, hq]
 rw [e]
 refine Ap (nT h5) (Al (Da s4 (.here)) ?_)
 have e : C6 b m_ = b := by
  unfold C6
  simp only [h5, if_true, if_false, zaa, Kt]
 rw [e]
theorem AjJ (n : Nat) (hn : 1048576 < n) (b : ByteArray) (m_ : Int) (hb : b.size ≤ 70368744177664) : C0 E0 (n + 6) 22 97 [Ad b, .sc (.int .i64 m_)] = some (Ad (C6 b m_)) := by
 rw [A7, AlD, f97]
 refine Cm (G := (· = some (Ad (C6 b m_)))) ?_
 try simp only [Fa, E9]
 have s0 : Sep [] [] := Ch
 refine Jc s0 (by omega) fun x1 H lx1 s2 => Ar (v := (.bool (Bu m_ 0 268435455))) s2 rfl (P0 .nil) (Hh (n + 4) _ m_ 0 268435455) (Cr (Aa ((Bu m_ 0 268435455)) (fun h3 => ?_) fun h3 => ?_))
 obtain ⟨hm0, hm1, hq⟩ := Yu h3
 refine Au (nF h3) ?_
 rw [Pb]
 try simp only [Fa, E9]
 refine Eb (Aa ((decide (127 < m_))) (fun h4 => ?_) fun h4 => ?_)
 refine Ap h4 (Qs (v := .sc (.int .i64 (m_ % 128))) (fun k => by show k (.sc (.int .i64 (Int.tmod (m_) 128))) = _; rw [za7 (by omega)]) (Bw (by omega) (by omega) (Fq (IntKind.wrap_u8 _) (Bb (cs := [.sc (.int .u8 ((128 + (m_ % 128)) % 256))]) rfl (B9 s2 fun i5 H s6 => E4 (s := b) (z := ((128 + (m_ % 128)) % 256)) s6 Cn (.here) ⟨_, _, rfl, rfl, rfl, rfl⟩ rfl (by omega) fun x7 H lx7 s8 => Pe (by omega) (by omega) (by decide) ?_)))))
 rw [Pb]
 try simp only [Fa, E9]
 refine Eb (Aa ((decide (127 < (m_ / 128)))) (fun h9 => ?_) fun h9 => ?_)
 refine Ap h9 (Qs (v := .sc (.int .i64 ((m_ / 128) % 128))) (fun k => by show k (.sc (.int .i64 (Int.tmod ((m_ / 128)) 128))) = _; rw [za7 (by omega)]) (Bw (by omega) (by omega) (Fq (IntKind.wrap_u8 _) (Bb (cs := [.sc (.int .u8 ((128 + ((m_ / 128) % 128)) % 256))]) rfl (B9 s8 fun i10 H s11 => E4 (s := (A4 b ((128 + (m_ % 128)) % 256))) (z := ((128 + ((m_ / 128) % 128)) % 256)) s11 Cn (.here) ⟨_, _, rfl, rfl, rfl, rfl⟩ rfl (by (simp only [Av, Bc]; omega)) fun x12 H lx12 s13 => Pe (by omega) (by omega) (by decide) ?_)))))
 rw [Pb]
 try simp only [Fa, E9]
 refine Eb (Aa ((decide (127 < ((m_ / 128) / 128)))) (fun h14 => ?_) fun h14 => ?_)
 refine Ap h14 (Qs (v := .sc (.int .i64 (((m_ / 128) / 128) % 128))) (fun k => by show k (.sc (.int .i64 (Int.tmod (((m_ / 128) / 128)) 128))) = _; rw [za7 (by omega)]) (Bw (by omega) (by omega) (Fq (IntKind.wrap_u8 _) (Bb (cs := [.sc (.int .u8 ((128 + (((m_ / 128) / 128) % 128)) % 256))]) rfl (B9 s13 fun i15 H s16 => E4 (s := (A4 (A4 b ((128 + (m_ % 128)) % 256)) ((128 + ((m_ / 128) % 128)) % 256))) (z := ((128 + (((m_ / 128) / 128) % 128)) % 256)) s16 Cn (.here) ⟨_, _, rfl, rfl, rfl, rfl⟩ rfl (by (simp only [Av, Bc]; omega)) fun x17 H lx17 s18 => Pe (by omega) (by omega) (by decide) ?_)))))
 rw [Pb]
 try simp only [Fa, E9]
 refine Eb (Au (decide_eq_false (by omega)) (Fq (IntKind.wrap_u8 _) (Bb (cs := [.sc (.int .u8 ((((m_ / 128) / 128) / 128) % 256))]) rfl (B9 s18 fun i19 H s20 => E4 (s := (A4 (A4 (A4 b ((128 + (m_ % 128)) % 256)) ((128 + ((m_ / 128) % 128)) % 256)) ((128 + (((m_ / 128) / 128) % 128)) % 256))) (z := ((((m_ / 128) / 128) / 128) % 256)) s20 Cn (.here) ⟨_, _, rfl, rfl, rfl, rfl⟩ rfl (by (simp only [Av, Bc]; omega)) fun x21 H lx21 s22 => Al (Da s22 (.here)) ?_))))
 have e : C6 b m_ = (A4 (A4 (A4 (A4 b ((128 + (m_ % 128)) % 256)) ((128 + ((m_ / 128) % 128)) % 256)) ((128 + (((m_ / 128) / 128) % 128)) % 256)) ((((m_ / 128) / 128) / 128) % 256)) := by
  simp only [Cs] at h3 h4 h9 h14
  unfold C6
  simp only [h3, h4, h9, h14, if_true, if_false, zaa, Kt, hq]
  try simp only [zbK]
 rw [e]
 refine Au h14 (Fq (IntKind.wrap_u8 _) (Bb (cs := [.sc (.int .u8 (((m_ / 128) / 128) % 256))]) rfl (B9 s13 fun i23 H s24 => E4 (s := (A4 (A4 b ((128 + (m_ % 128)) % 256)) ((128 + ((m_ / 128) % 128)) % 256))) (z := (((m_ / 128) / 128) % 256)) s24 Cn (.here) ⟨_, _, rfl, rfl, rfl, rfl⟩ rfl (by (simp only [Av, Bc]; omega)) fun x25 H lx25 s26 => Al (Da s26 (.here)) ?_)))
 have e : C6 b m_ = (A4 (A4 (A4 b ((128 + (m_ % 128)) % 256)) ((128 + ((m_ / 128) % 128)) % 256)) (((m_ / 128) / 128) % 256)) := by
  simp only [Cs] at h3 h4 h9 h14
  unfold C6
  simp only [h3, h4, h9, h14, if_true, if_false, zaa, Kt, hq]
  try simp only [zbK]
 rw [e]
 refine Au h9 (Fq (IntKind.wrap_u8 _) (Bb (cs := [.sc (.int .u8 ((m_ / 128) % 256))]) rfl (B9 s8 fun i27 H s28 => E4 (s := (A4 b ((128 + (m_ % 128)) % 256))) (z := ((m_ / 128) % 256)) s28 Cn (.here) ⟨_, _, rfl, rfl, rfl, rfl⟩ rfl (by (simp only [Av, Bc]; omega)) fun x29 H lx29 s30 => Al (Da s30 (.here)) ?_)))
 have e : C6 b m_ = (A4 (A4 b ((128 + (m_ % 128)) % 256)) ((m_ / 128) % 256)) := by
  simp only [Cs] at h3 h4 h9
  unfold C6
  simp only [h3, h4, h9, if_true, if_false, zaa, Kt, hq]
  try simp only [zbK]
 rw [e]
 refine Au h4 (Fq (IntKind.wrap_u8 _) (Bb (cs := [su (m_ % 256)]) rfl (B9 s2 fun i31 H s32 => E4 (s := b) (z := (m_ % 256)) s32 Cn (.here) ⟨_, _, rfl, rfl, rfl, rfl⟩ rfl (by omega) fun x33 H lx33 s34 => Al (Da s34 (.here)) ?_)))
 have e : C6 b m_ = (A4 b (m_ % 256)) := by
  simp only [Cs] at h3 h4
  unfold C6
  simp only [h3, h4, if_true, if_false, zaa, Kt, hq]
  try simp only [zbK]
 rw [e]
 refine Ap (nT h3) (Al (Da s2 (.here)) ?_)
 have e : C6 b m_ = b := by
  unfold C6
  simp only [h3, if_true, if_false, zaa, Kt]
  try simp only [zbK]
 rw [e]
end
section
open Go
theorem Gt (b : Bool) (n : Int) (h : 0 ≤ n) : 0 ≤ A6 b n ∧ A6 b n ≤ n := by
 unfold A6
 split <;> omega
theorem Aam (n : Nat) (b : Bool) (i : Int) : C0 E0 (n + 1) 3 140 [.sc (.bool b), .sc (.int .i64 i)] = some (.sc (.int .i64 (A6 b i))) := by
 rw [A7, Aiy, f140]
 refine Cm (G := (· = some (si (A6 b i)))) ?_
 try simp only [Fa, E9]
 have s0 : Sep [] [] := Ch
 refine Aa (b) (fun h1 => ?_) fun h1 => ?_
 refine Ap h1 (Al rfl ?_)
 have e : A6 b i = i := by
  simp only [A6, h1, if_true, if_false, zaa]
 rw [e]
 refine Au h1 (Al rfl ?_)
 have e : A6 b i = 0 := by
  simp only [A6, h1, if_true, if_false, zaa]
 rw [e]
theorem T1 (n : Nat) (b : Bool) (i : Int) : C0 E0 (n + 1) 3 94 [.sc (.bool b), .sc (.int .i64 i)] = some (.sc (.int .i64 (A6 b i))) := by
 rw [A7, AlA, f94]
 refine Cm (G := (· = some (si (A6 b i)))) ?_
 try simp only [Fa, E9]
 have s0 : Sep [] [] := Ch
 refine Aa (b) (fun h1 => ?_) fun h1 => ?_
 refine Ap h1 (Al rfl ?_)
 have e : A6 b i = i := by
  simp only [A6, h1, if_true, if_false, zaa]
 rw [e]
 refine Au h1 (Al rfl ?_)
 have e : A6 b i = 0 := by
  simp only [A6, h1, if_true, if_false, zaa]
 rw [e]
theorem Abz (n : Nat) (hn : 1048576 < n) (p : PacketV) (hp : G0 p) (hb1 : p.fWBody.size ≤ 1048576) (hb2 : p.fPass.size ≤ 1048576) (hq : 0 ≤ p.fWQos ∧ p.fWQos ≤ 2) : C0 E0 (n + 7) 22 139 [.agg (An p)] = some (Ad (Ev p)) := by
 rw [A7, Aix, f139]
 refine Cm (G := (· = some (Ad (Ev p)))) ?_
 try simp only [Fa, E9]
 have s0 : Sep [] [] := Ch
 refine Om s0 (Gw (Ct _)) fun i1 H s2 => gf9 (Ao (c := sb p.fClean) s2 (.here) rfl (Qp (Ao (c := sb p.fHasWill) s2 (.here) rfl (Wh (Ao (c := si p.fWQos) s2 (.here) rfl (Rz (by omega) (by omega) (AaB (Ao (c := sb p.fWRetain) s2 (.here) rfl (Ke (Ao (c := sb p.fHasPass) s2 (.here) rfl (Ow (Ao (c := sb p.fHasUser) s2 (.here) rfl ?_))))))))))))
 have q3 := Gt p.fClean 2 (by decide)
 refine Ar (v := (.int .i64 (A6 p.fClean 2))) s2 rfl (Im .nil) (Aam (n + 5) p.fClean 2) ?_
 have q4 := Gt p.fHasWill 4 (by decide)
 refine Ar (v := (.int .i64 (A6 p.fHasWill 4))) s2 rfl (Im .nil) (Aam (n + 5) p.fHasWill 4) (Bw (by omega) (by omega) (Bw (by omega) (by omega) ?_))
 have q5 := Gt p.fWRetain 32 (by decide)
 refine Ar (v := (.int .i64 (A6 p.fWRetain 32))) s2 rfl (Im .nil) (Aam (n + 5) p.fWRetain 32) (Bw (by omega) (by omega) ?_)
 have q6 := Gt p.fHasPass 64 (by decide)
 refine Ar (v := (.int .i64 (A6 p.fHasPass 64))) s2 rfl (Im .nil) (Aam (n + 5) p.fHasPass 64) (Bw (by omega) (by omega) ?_)
 have q7 := Gt p.fHasUser 128 (by decide)
 refine Ar (v := (.int .i64 (A6 p.fHasUser 128))) s2 rfl (Im .nil) (Aam (n + 5) p.fHasUser 128) (Bw (by omega) (by omega) (gf8 (Ao (c := si p.fLevel) s2 (.here) rfl (Fq (IntKind.wrap_u8 _) (Fq (IntKind.wrap_u8 _) (N6 (P := fun j => ∀ (x8 : AV) (z8t4 : ByteArray) (H : Ab), Bk x8 = true → (z8t4.size ≤ 100) → Sep H [.own x8 22 (Ad z8t4), .blk i1 (An p) true] → Gd (· = some (Ad (C1 p (Dr p (Eu p (Aj (Ak z8t4 p.fKeep) p.fClient)))))) (j (.ptr i1 0) x8 H)) ?_ fun j8 hj8 => ?_))))))
 intro x8 z8t4 H lx8 hz80 s9
 refine We (Ao (c := si p.fKeep) s9 Cn rfl (gf7 (Ao (c := ss p.fClient) s9 Cn rfl (B7 s9 rfl (.cons (.own (by decide) (.here)) (.cons .sc .nil)) (R2 (n + 1) (by omega) z8t4 p.fKeep (by omega)) (Cx (Ak z8t4 p.fKeep)) fun x10 H lx10 s11 => ?_))))
 have z12 := Cl (Ak z8t4 p.fKeep) p.fClient
 simp only [Av, At, Bc, zah] at z12
 refine B7 s11 rfl (.cons (.own (by decide) (.here)) (.cons .sc .nil)) (K4 n (by omega) (Ak z8t4 p.fKeep) p.fClient (by (simp only [Av, At, Bc, zah]; omega)) hp.t2) (Cx (Aj (Ak z8t4 p.fKeep) p.fClient)) fun x13 H lx13 s14 => Qp (Ao (c := .sc (.bool p.fHasWill)) s14 L9 rfl (N6 (P := fun j => ∀ (x15 : AV) (z15t4 : ByteArray) (H : Ab), Bk x15 = true → (z15t4.size ≤ 400) → Sep H [.own x15 22 (Ad z15t4), .blk i1 (An p) true] → Gd (· = some (Ad (C1 p (Dr p z15t4)))) (j (.ptr i1 0) x15 H)) ?_ fun j15 hj15 => ?_))
 intro x15 z15t4 H lx15 hz150 s16
 refine Ow (Ao (c := sb p.fHasUser) s16 Cn rfl (N6 (P := fun j => ∀ (x17 : AV) (z17t4 : ByteArray) (H : Ab), Bk x17 = true → (z17t4.size ≤ 600) → Sep H [.own x17 22 (Ad z17t4), .blk i1 (An p) true] → Gd (· = some (Ad (C1 p z17t4))) (j (.ptr i1 0) x17 H)) ?_ fun j17 hj17 => ?_))
 intro x17 z17t4 H lx17 hz170 s18
 refine Ke (Ao (c := sb p.fHasPass) s18 Cn rfl (C8 (Aa (p.fHasPass) (fun h19 => ?_) fun h19 => ?_)))
 refine Ap h19 (Ms (Ao (c := Ad p.fPass) s18 Cn rfl ?_))
 have z20 := Ic z17t4 p.fPass
 refine B7 s18 rfl (.cons (.own (by decide) (.here)) (.cons .ro .nil)) (AcO n (by omega) z17t4 p.fPass (by omega) hb2) (Cx (Cw z17t4 p.fPass)) fun x21 H lx21 s22 => Al (Da s22 (.here)) ?_
 have e : C1 p z17t4 = (Cw z17t4 p.fPass) := by
  simp only [Ev, Gq, Eu, Dr, C1, Dy, h19, if_true, if_false, zaa]
 rw [e]
 refine Au h19 (Al (Da s18 (.here)) ?_)
 have e : C1 p z17t4 = z17t4 := by
  simp only [Ev, Gq, Eu, Dr, C1, Dy, h19, if_true, if_false, zaa]
 rw [e]
 refine Aa (p.fHasUser) (fun h23 => ?_) fun h23 => ?_
 refine Ap h23 (Pg (Ao (c := ss p.fUser) s16 Cn rfl ?_))
 have z24 := Cl z15t4 p.fUser
 refine B7 s16 rfl (.cons (.own (by decide) (.here)) (.cons .sc .nil)) (K4 n (by omega) z15t4 p.fUser (by omega) hp.t4) (Cx (Aj z15t4 p.fUser)) fun x25 H lx25 s26 => ?_
 have e27 : C1 p (Dr p z15t4) = C1 p (Aj z15t4 p.fUser) := by
  simp only [Ev, Gq, Eu, Dr, C1, Dy, h23, if_true, if_false, zaa]
 rw [e27]
 exact hj17 x25 (Aj z15t4 p.fUser)  _ lx25 (by omega) (s26.sel (.cons (.here) (.cons Cn .nil)))
 refine Au h23 ?_
 have e28 : C1 p (Dr p z15t4) = C1 p z15t4 := by
  simp only [Ev, Gq, Eu, Dr, C1, Dy, h23, if_true, if_false, zaa]
 rw [e28]
 exact hj17 x15 z15t4  _ lx15 (by omega) (s16.sel (.cons (.here) (.cons (.here) .nil)))
 refine Aa (p.fHasWill) (fun h29 => ?_) fun h29 => ?_
 refine Ap h29 (Wf (Ao (c := ss p.fWTopic) s14 L9 rfl (Wg (Ao (c := Ad p.fWBody) s14 L9 rfl ?_))))
 have z30 := Cl (Aj (Ak z8t4 p.fKeep) p.fClient) p.fWTopic
 refine B7 s14 rfl (.cons (.own (by decide) (.here)) (.cons .sc .nil)) (K4 n (by omega) (Aj (Ak z8t4 p.fKeep) p.fClient) p.fWTopic (by omega) hp.t3) (Cx (Aj (Aj (Ak z8t4 p.fKeep) p.fClient) p.fWTopic)) fun x31 H lx31 s32 => ?_
 have z33 := Ic (Aj (Aj (Ak z8t4 p.fKeep) p.fClient) p.fWTopic) p.fWBody
 refine B7 s32 rfl (.cons (.own (by decide) (.here)) (.cons .ro .nil)) (AcO n (by omega) (Aj (Aj (Ak z8t4 p.fKeep) p.fClient) p.fWTopic) p.fWBody (by omega) hb1) (Cx (Cw (Aj (Aj (Ak z8t4 p.fKeep) p.fClient) p.fWTopic) p.fWBody)) fun x34 H lx34 s35 => ?_
 have e36 : C1 p (Dr p (Eu p (Aj (Ak z8t4 p.fKeep) p.fClient))) = C1 p (Dr p (Cw (Aj (Aj (Ak z8t4 p.fKeep) p.fClient) p.fWTopic) p.fWBody)) := by
  simp only [Ev, Gq, Eu, Dr, C1, Dy, h29, if_true, if_false, zaa]
 rw [e36]
 exact hj15 x34 (Cw (Aj (Aj (Ak z8t4 p.fKeep) p.fClient) p.fWTopic) p.fWBody)  _ lx34 (by omega) (s35.sel (.cons (.here) (.cons Ma .nil)))
 refine Au h29 ?_
 have e37 : C1 p (Dr p (Eu p (Aj (Ak z8t4 p.fKeep) p.fClient))) = C1 p (Dr p (Aj (Ak z8t4 p.fKeep) p.fClient)) := by
  simp only [Ev, Gq, Eu, Dr, C1, Dy, h29, if_true, if_false, zaa]
 rw [e37]
 exact hj15 x13 (Aj (Ak z8t4 p.fKeep) p.fClient)  _ lx13 (by omega) (s14.sel (.cons (.here) (.cons C7 .nil)))
 refine Gd.bothE ?_ ?_
 have z38 := Cl bs0 mqtt
 simp only [Av, At, Bc, zah] at z38
 refine B7 s2 rfl (.cons .nl (.cons .sc .nil)) (K4 n (by omega) bs0 mqtt (by (simp only [Av, At, Bc, zah]; omega)) (by decide)) (Cx (Aj bs0 mqtt)) fun x39 H lx39 s40 => Bb (cs := [.sc (.int .u8 (p.fLevel % 256)), .sc (.int .u8 (((((((A6 p.fClean 2) + (A6 p.fHasWill 4)) + (8 * p.fWQos)) + (A6 p.fWRetain 32)) + (A6 p.fHasPass 64)) + (A6 p.fHasUser 128)) % 256))]) rfl (B9 s40 fun i41 H s42 => Um (s := (Aj bs0 mqtt)) (z := (p.fLevel % 256)) (w := (((((((A6 p.fClean 2) + (A6 p.fHasWill 4)) + (8 * p.fWQos)) + (A6 p.fWRetain 32)) + (A6 p.fHasPass 64)) + (A6 p.fHasUser 128)) % 256)) s42 Cn (.here) ⟨_, _, rfl, rfl, rfl, rfl⟩ (by omega) fun x43 H lx43 s44 => ?_)
 have e45 : Ev p = C1 p (Dr p (Eu p (Aj (Ak (A4 (A4 (Aj bs0 mqtt) (p.fLevel % 256)) (((((((A6 p.fClean 2) + (A6 p.fHasWill 4)) + (8 * p.fWQos)) + (A6 p.fWRetain 32)) + (A6 p.fHasPass 64)) + (A6 p.fHasUser 128)) % 256)) p.fKeep) p.fClient))) := by
  rfl
 rw [e45]
 exact hj8 x43 (A4 (A4 (Aj bs0 mqtt) (p.fLevel % 256)) (((((((A6 p.fClean 2) + (A6 p.fHasWill 4)) + (8 * p.fWQos)) + (A6 p.fWRetain 32)) + (A6 p.fHasPass 64)) + (A6 p.fHasUser 128)) % 256))  _ lx43 (by (simp only [Av, At, Bc, zah]; omega)) (s44.sel (.cons (.here) (.cons (.here) .nil)))
 refine Bb (cs := [su (p.fLevel % 256), .sc (.int .u8 (((((((A6 p.fClean 2) + (A6 p.fHasWill 4)) + (8 * p.fWQos)) + (A6 p.fWRetain 32)) + (A6 p.fHasPass 64)) + (A6 p.fHasUser 128)) % 256))]) rfl (B9 s2 fun i46 H s47 => ?_)
 have z48 := Cl bs0 mqtt
 simp only [Av, At, Bc, zah] at z48
 refine B7 s47 rfl (.cons .nl (.cons .sc .nil)) (K4 n (by omega) bs0 mqtt (by (simp only [Av, At, Bc, zah]; omega)) (by decide)) (Cx (Aj bs0 mqtt)) fun x49 H lx49 s50 => Um (s := (Aj bs0 mqtt)) (z := (p.fLevel % 256)) (w := (((((((A6 p.fClean 2) + (A6 p.fHasWill 4)) + (8 * p.fWQos)) + (A6 p.fWRetain 32)) + (A6 p.fHasPass 64)) + (A6 p.fHasUser 128)) % 256)) s50 (.here) (.here) ⟨_, _, rfl, rfl, rfl, rfl⟩ (by omega) fun x51 H lx51 s52 => ?_
 have e53 : Ev p = C1 p (Dr p (Eu p (Aj (Ak (A4 (A4 (Aj bs0 mqtt) (p.fLevel % 256)) (((((((A6 p.fClean 2) + (A6 p.fHasWill 4)) + (8 * p.fWQos)) + (A6 p.fWRetain 32)) + (A6 p.fHasPass 64)) + (A6 p.fHasUser 128)) % 256)) p.fKeep) p.fClient))) := by
  rfl
 rw [e53]
 exact hj8 x51 (A4 (A4 (Aj bs0 mqtt) (p.fLevel % 256)) (((((((A6 p.fClean 2) + (A6 p.fHasWill 4)) + (8 * p.fWQos)) + (A6 p.fWRetain 32)) + (A6 p.fHasPass 64)) + (A6 p.fHasUser 128)) % 256))  _ lx51 (by (simp only [Av, At, Bc, zah]; omega)) (s52.sel (.cons (.here) (.cons (.here) .nil)))
theorem AbR (n : Nat) (hn : 1048576 < n) (p : PacketV) (ht : 1 ≤ p.fType ∧ p.fType ≤ 14) (hq : 0 ≤ p.fQos ∧ p.fQos ≤ 2) : C0 E0 (n + 3) 3 113 [.agg (An p)] = some (.sc (.int .i64 (Cp p))) := by
 rw [A7, Aii, f113]
 refine Cm (G := (· = some (si (Cp p)))) ?_
 try simp only [Fa, E9]
 have s0 : Sep [] [] := Ch
 refine Om s0 (Gw (Ct _)) fun i1 H s2 => Nl (Ao (c := si p.fType) s2 (.here) rfl (Rz (by omega) (by omega) (Nl (Ao (c := si p.fType) s2 (.here) rfl (Ba (Aa ((decide (p.fType = 3))) (fun h3 => ?_) fun h3 => ?_))))))
 refine Ap h3 (Wd (Ao (c := sb p.fDup) s2 (.here) rfl (Ox (Ao (c := si p.fQos) s2 (.here) rfl (Rz (by omega) (by omega) (gf3 (Ao (c := sb p.fRetain) s2 (.here) rfl ?_)))))))
 have q4 := Gt p.fDup 8 (by decide)
 refine Ar (v := (.int .i64 (A6 p.fDup 8))) s2 rfl (Im .nil) (Aam (n + 1) p.fDup 8) (Bw (by omega) (by omega) ?_)
 have q5 := Gt p.fRetain 1 (by decide)
 refine Ar (v := (.int .i64 (A6 p.fRetain 1))) s2 rfl (Im .nil) (Aam (n + 1) p.fRetain 1) (Bw (by omega) (by omega) (Bw (by omega) (by omega) (Al rfl ?_)))
 have e : Cp p = ((16 * p.fType) + (((A6 p.fDup 8) + (2 * p.fQos)) + (A6 p.fRetain 1))) := by
  clear s0 s2
  simp only [Cs] at h3
  unfold Cp; (repeat' split) <;> omega
 rw [e]
 refine Au h3 (Ba (C8 (Aa ((decide (p.fType = 6))) (fun h6 => ?_) fun h6 => ?_)))
 refine Ap h6 (Ap h6 (Bw (by omega) (by omega) (Al rfl ?_)))
 have e : Cp p = ((16 * p.fType) + 2) := by
  clear s0 s2
  simp only [Cs] at h3 h6
  unfold Cp; (repeat' split) <;> omega
 rw [e]
 refine Au h6 (Ba (Aa ((decide (p.fType = 8))) (fun h7 => ?_) fun h7 => ?_))
 refine Ap h7 (Ap h7 (Bw (by omega) (by omega) (Al rfl ?_)))
 have e : Cp p = ((16 * p.fType) + 2) := by
  clear s0 s2
  simp only [Cs] at h3 h6 h7
  unfold Cp; (repeat' split) <;> omega
 rw [e]
 refine Au h7 (Ba (Aa ((decide (p.fType = 10))) (fun h8 => ?_) fun h8 => ?_))
 refine Ap h8 (Bw (by omega) (by omega) (Al rfl ?_))
 have e : Cp p = ((16 * p.fType) + 2) := by
  clear s0 s2
  simp only [Cs] at h3 h6 h7 h8
  unfold Cp; (repeat' split) <;> omega
 rw [e]
 refine Au h8 (Al rfl ?_)
 have e : Cp p = (16 * p.fType) := by
  clear s0 s2
  simp only [Cs] at h3 h6 h7 h8
  unfold Cp; (repeat' split) <;> omega
 rw [e]
theorem Wb (n : Nat) (hn : 1048576 < n) (p : PacketV) (hp : G0 p) (hb1 : p.fWBody.size ≤ 1048576) (hb2 : p.fPass.size ≤ 1048576) (hb3 : p.fBody.size ≤ 1048576) (hq : 0 ≤ p.fWQos ∧ p.fWQos ≤ 2) (h3 : (decide (p.fType = 1)) = false) (h6 : (decide (p.fType = 2)) = false) (h11 : (decide (p.fType = 3)) = false) (h26 : (decide (p.fType = 12)) = false) (h28 : (decide (p.fType = 13)) = false) (h30 : (decide (p.fType = 14)) = false)  : ∀ (t pre : List ByteArray) (m : Nat) (i : Int) (a0 : AV) (H : Ab), p.fNames = pre ++ t → i = ((pre.length : Nat) : Int) → t.length < m → Bk a0 = true → Sep H [.own a0 22 (Ad (E6 (Dj (Bi (Ak bs0 p.fId) p.fWants) p.fCodes) pre))] → Gd (· = some (Ad (Cg p))) (Nx (PR (n + 7) AV) (n + 7) (fun x H => A8 As E0.tp 22 H x) m (a0) (D6 p.fNames) (.sc (.int .i64 ((p.fNames.length : Nat) : Int))) (.sc (.int .i64 i)) H)
 | [], pre, m + 1, i, a0, H, he, hi, hm, la0, s0 => by
  obtain rfl : pre = p.fNames := by simpa using he.symm
  have hl1 := hp.l1
  have hl2 := hp.l2
  have hl3 := hp.l3
  have zl1 := Em p.fWants (Ak bs0 p.fId)
  have zl2 := El p.fCodes (Bi (Ak bs0 p.fId) p.fWants)
  have zl0 := Ll p.fNames (Dj (Bi (Ak bs0 p.fId) p.fWants) p.fCodes)
  simp only [At, Bc] at zl1
  rw [Nx]
  try simp only [Fa, E9]
  refine Di (Au (by simp [hi]) (Al (Da s0 (.here)) ?_))
  have e : Cg p = (E6 (Dj (Bi (Ak bs0 p.fId) p.fWants) p.fCodes) p.fNames) := by
   simp only [Cs] at h3 h6 h11 h26 h28 h30
   (simp only [Cg, Hl, F9, h3, h6, h11, h26, h28, h30, if_true, if_false, zaa]; rfl)
  rw [e]
 | y :: t, pre, m + 1, i, a0, H, he, hi, hm, la0, s0 => by
  have hlt : pre.length < p.fNames.length := by rw [he]; simp
  have hl1 := hp.l1
  have hl2 := hp.l2
  have hl3 := hp.l3
  have zl1 := Em p.fWants (Ak bs0 p.fId)
  have zl2 := El p.fCodes (Bi (Ak bs0 p.fId) p.fWants)
  have zl0 := Ll pre (Dj (Bi (Ak bs0 p.fId) p.fWants) p.fCodes)
  simp only [At, Bc] at zl1
  rw [Nx]
  try simp only [Fa, E9]
  refine Di (Ap (by simp [hi]; omega) (Ng hi he (E5 (c := .sc (.string y)) rfl ?_)))
  have z201 := Cl (E6 (Dj (Bi (Ak bs0 p.fId) p.fWants) p.fCodes) pre) y
  refine B7 s0 rfl (.cons (.own (by decide) (.here)) (.cons .sc .nil)) (K4 (n + 1) (by omega) (E6 (Dj (Bi (Ak bs0 p.fId) p.fWants) p.fCodes) pre) y (by omega) (hp.w2 y (by rw [he]; simp))) (Cx (Aj (E6 (Dj (Bi (Ak bs0 p.fId) p.fWants) p.fCodes) pre) y)) fun x202 H lx202 s203 => Bw (by omega) (by omega) ?_
  have e204 : (E6 (Dj (Bi (Ak bs0 p.fId) p.fWants) p.fCodes) (pre ++ [y])) = (Aj (E6 (Dj (Bi (Ak bs0 p.fId) p.fWants) p.fCodes) pre) y) := by
   try simp only [bne_iff_ne, beq_iff_eq, beq_eq_false_iff_ne, Cs] at h3 h6 h11 h26 h28 h30
   simp only [E6, zbc, zaY, zbx, h3, h6, h11, h26, h28, h30, if_true, if_false, zaa]
  exact Wb n hn p hp hb1 hb2 hb3 hq h3 h6 h11 h26 h28 h30  t (pre ++ [y]) m _ x202 _ (by rw [he]; simp) (by rw [hi]; simp) (by simpa using hm) lx202 (by rw [e204]; exact (s203.sel (.cons (.here) .nil)))
theorem Wa (n : Nat) (hn : 1048576 < n) (p : PacketV) (hp : G0 p) (hb1 : p.fWBody.size ≤ 1048576) (hb2 : p.fPass.size ≤ 1048576) (hb3 : p.fBody.size ≤ 1048576) (hq : 0 ≤ p.fWQos ∧ p.fWQos ≤ 2) (h3 : (decide (p.fType = 1)) = false) (h6 : (decide (p.fType = 2)) = false) (h11 : (decide (p.fType = 3)) = false) (h26 : (decide (p.fType = 12)) = false) (h28 : (decide (p.fType = 13)) = false) (h30 : (decide (p.fType = 14)) = false)  : ∀ (t pre : List Int) (m : Nat) (i : Int) (i1 : Nat) (a1 : AV) (H : Ab), p.fCodes = pre ++ t → i = ((pre.length : Nat) : Int) → t.length < m → Bk a1 = true → Sep H [.own a1 22 (Ad (Dj (Bi (Ak bs0 p.fId) p.fWants) pre)), .blk i1 (An p) true] → Gd (· = some (Ad (Cg p))) (K2 (PR (n + 7) AV) (n + 7) (fun x H => A8 As E0.tp 22 H x) m (.ptr i1 0) (a1) (D5 p.fCodes) (.sc (.int .i64 ((p.fCodes.length : Nat) : Int))) (.sc (.int .i64 i)) H)
 | [], pre, m + 1, i, i1, a1, H, he, hi, hm, la1, s0 => by
  obtain rfl : pre = p.fCodes := by simpa using he.symm
  have hl1 := hp.l1
  have hl2 := hp.l2
  have hl3 := hp.l3
  have zl1 := Em p.fWants (Ak bs0 p.fId)
  have zl2 := El p.fCodes (Bi (Ak bs0 p.fId) p.fWants)
  have zl0 := El p.fCodes (Bi (Ak bs0 p.fId) p.fWants)
  simp only [At, Bc] at zl1
  rw [K2]
  try simp only [Fa, E9]
  refine Di (Au (by simp [hi]) (Km (Ao (c := D6 p.fNames) s0 Cn rfl (Cu ?_))))
  have s201 : Sep _ [.own a1 22 (Ad (E6 (Dj (Bi (Ak bs0 p.fId) p.fWants) p.fCodes) []))] := s0.sel (.cons (.here) .nil)
  exact Wb n hn p hp hb1 hb2 hb3 hq h3 h6 h11 h26 h28 h30  p.fNames [] _ 0 a1 _ rfl rfl (by omega) la1 s201
 | y :: t, pre, m + 1, i, i1, a1, H, he, hi, hm, la1, s0 => by
  have hlt : pre.length < p.fCodes.length := by rw [he]; simp
  have hl1 := hp.l1
  have hl2 := hp.l2
  have hl3 := hp.l3
  have zl1 := Em p.fWants (Ak bs0 p.fId)
  have zl2 := El p.fCodes (Bi (Ak bs0 p.fId) p.fWants)
  have zl0 := El pre (Bi (Ak bs0 p.fId) p.fWants)
  simp only [At, Bc] at zl1
  rw [K2]
  try simp only [Fa, E9]
  refine Di (Ap (by simp [hi]; omega) (J4 hi he (E5 (c := .sc (.int .i64 y)) rfl (Fq (IntKind.wrap_u8 _) (Bb (cs := [.sc (.int .u8 (y % 256))]) rfl (B9 s0 fun i201 H s202 => E4 (s := (Dj (Bi (Ak bs0 p.fId) p.fWants) pre)) (z := (y % 256)) s202 Cn (.here) ⟨_, _, rfl, rfl, rfl, rfl⟩ rfl (by omega) fun x203 H lx203 s204 => Bw (by omega) (by omega) ?_))))))
  have e205 : (Dj (Bi (Ak bs0 p.fId) p.fWants) (pre ++ [y])) = (A4 (Dj (Bi (Ak bs0 p.fId) p.fWants) pre) (y % 256)) := by
   try simp only [bne_iff_ne, beq_iff_eq, beq_eq_false_iff_ne, Cs] at h3 h6 h11 h26 h28 h30
   simp only [Dj, zbc, zaY, zbx, h3, h6, h11, h26, h28, h30, if_true, if_false, zaa]
  exact Wa n hn p hp hb1 hb2 hb3 hq h3 h6 h11 h26 h28 h30  t (pre ++ [y]) m _ i1 x203 _ (by rw [he]; simp) (by rw [hi]; simp) (by simpa using hm) lx203 (by rw [e205]; exact (s204.sel (.cons (.here) (.cons (.here) .nil))))
theorem Q7 (n : Nat) (hn : 1048576 < n) (p : PacketV) (hp : G0 p) (hb1 : p.fWBody.size ≤ 1048576) (hb2 : p.fPass.size ≤ 1048576) (hb3 : p.fBody.size ≤ 1048576) (hq : 0 ≤ p.fWQos ∧ p.fWQos ≤ 2) (h3 : (decide (p.fType = 1)) = false) (h6 : (decide (p.fType = 2)) = false) (h11 : (decide (p.fType = 3)) = false) (h26 : (decide (p.fType = 12)) = false) (h28 : (decide (p.fType = 13)) = false) (h30 : (decide (p.fType = 14)) = false)  : ∀ (t pre : List WantV) (m : Nat) (i : Int) (i1 : Nat) (a1 : AV) (H : Ab), p.fWants = pre ++ t → i = ((pre.length : Nat) : Int) → t.length < m → Bk a1 = true → Sep H [.own a1 22 (Ad (Bi (Ak bs0 p.fId) pre)), .blk i1 (An p) true] → Gd (· = some (Ad (Cg p))) (K1 (PR (n + 7) AV) (n + 7) (fun x H => A8 As E0.tp 22 H x) m (.ptr i1 0) (a1) (Bt Bp p.fWants) (.sc (.int .i64 ((p.fWants.length : Nat) : Int))) (.sc (.int .i64 i)) H)
 | [], pre, m + 1, i, i1, a1, H, he, hi, hm, la1, s0 => by
  obtain rfl : pre = p.fWants := by simpa using he.symm
  have hl1 := hp.l1
  have hl2 := hp.l2
  have hl3 := hp.l3
  have zl1 := Em p.fWants (Ak bs0 p.fId)
  have zl2 := El p.fCodes (Bi (Ak bs0 p.fId) p.fWants)
  have zl0 := Em p.fWants (Ak bs0 p.fId)
  simp only [At, Bc] at zl1
  simp only [At, Bc] at zl0
  rw [K1]
  try simp only [Fa, E9]
  refine Di (Au (by simp [hi]) (Kn (Ao (c := D5 p.fCodes) s0 Cn rfl (Cu ?_))))
  have s201 : Sep _ [.own a1 22 (Ad (Dj (Bi (Ak bs0 p.fId) p.fWants) [])), .blk i1 (An p) true] := s0.sel (.cons (.here) (.cons (.here) .nil))
  exact Wa n hn p hp hb1 hb2 hb3 hq h3 h6 h11 h26 h28 h30  p.fCodes [] _ 0 i1 a1 _ rfl rfl (by omega) la1 s201
 | y :: t, pre, m + 1, i, i1, a1, H, he, hi, hm, la1, s0 => by
  have hlt : pre.length < p.fWants.length := by rw [he]; simp
  have hl1 := hp.l1
  have hl2 := hp.l2
  have hl3 := hp.l3
  have zl1 := Em p.fWants (Ak bs0 p.fId)
  have zl2 := El p.fCodes (Bi (Ak bs0 p.fId) p.fWants)
  have zl0 := Em pre (Ak bs0 p.fId)
  simp only [At, Bc] at zl1
  simp only [At, Bc] at zl0
  rw [K1]
  try simp only [Fa, E9]
  refine Di (Ap (by simp [hi]; omega) (Mr hi F5 (by decide) he (Aky (F5 _) (Ie s0 fun i201 H s202 => B8 (cs' := Bp y) s202 (.here) (Gw (V8 _)) rfl (Ca rfl) rfl fun H s203 => Nl (Ao (c := .sc (.string y.fFilter)) s203 (.here) rfl (Wd (Ao (c := .sc (.int .i64 y.fQos)) s203 (.here) rfl (Fq (IntKind.wrap_u8 _) (C8 (Gd.bothE ?_ ?_))))))))))
  have z204 := Cl (Bi (Ak bs0 p.fId) pre) y.fFilter
  refine B7 s203 rfl (.cons (.own (by decide) Cn) (.cons .sc .nil)) (K4 (n + 1) (by omega) (Bi (Ak bs0 p.fId) pre) y.fFilter (by omega) (hp.w1 y (by rw [he]; simp))) (Cx (Aj (Bi (Ak bs0 p.fId) pre) y.fFilter)) fun x205 H lx205 s206 => Bb (cs := [.sc (.int .u8 (y.fQos % 256))]) rfl (B9 s206 fun i207 H s208 => E4 (s := (Aj (Bi (Ak bs0 p.fId) pre) y.fFilter)) (z := (y.fQos % 256)) s208 Cn (.here) ⟨_, _, rfl, rfl, rfl, rfl⟩ rfl (by omega) fun x209 H lx209 s210 => Bw (by omega) (by omega) ?_)
  have e211 : (Bi (Ak bs0 p.fId) (pre ++ [y])) = (A4 (Aj (Bi (Ak bs0 p.fId) pre) y.fFilter) (y.fQos % 256)) := by
   try simp only [bne_iff_ne, beq_iff_eq, beq_eq_false_iff_ne, Cs] at h3 h6 h11 h26 h28 h30
   simp only [Bi, zbc, zaY, zbx, h3, h6, h11, h26, h28, h30, if_true, if_false, zaa]
  exact Q7 n hn p hp hb1 hb2 hb3 hq h3 h6 h11 h26 h28 h30  t (pre ++ [y]) m _ i1 x209 _ (by rw [he]; simp) (by rw [hi]; simp) (by simpa using hm) lx209 (by rw [e211]; exact (s210.sel (.cons (.here) (.cons C7 .nil))))
  refine Bb (cs := [su (y.fQos % 256)]) rfl (B9 s203 fun i212 H s213 => ?_)
  have z214 := Cl (Bi (Ak bs0 p.fId) pre) y.fFilter
  refine B7 s213 rfl (.cons (.own (by decide) C7) (.cons .sc .nil)) (K4 (n + 1) (by omega) (Bi (Ak bs0 p.fId) pre) y.fFilter (by omega) (hp.w1 y (by rw [he]; simp))) (Cx (Aj (Bi (Ak bs0 p.fId) pre) y.fFilter)) fun x215 H lx215 s216 => E4 (s := (Aj (Bi (Ak bs0 p.fId) pre) y.fFilter)) (z := (y.fQos % 256)) s216 (.here) (.here) ⟨_, _, rfl, rfl, rfl, rfl⟩ rfl (by omega) fun x217 H lx217 s218 => Bw (by omega) (by omega) ?_
  have e219 : (Bi (Ak bs0 p.fId) (pre ++ [y])) = (A4 (Aj (Bi (Ak bs0 p.fId) pre) y.fFilter) (y.fQos % 256)) := by
   try simp only [bne_iff_ne, beq_iff_eq, beq_eq_false_iff_ne, Cs] at h3 h6 h11 h26 h28 h30
   simp only [Bi, zbc, zaY, zbx, h3, h6, h11, h26, h28, h30, if_true, if_false, zaa]
  exact Q7 n hn p hp hb1 hb2 hb3 hq h3 h6 h11 h26 h28 h30  t (pre ++ [y]) m _ i1 x217 _ (by rw [he]; simp) (by rw [hi]; simp) (by simpa using hm) lx217 (by rw [e219]; exact (s218.sel (.cons (.here) (.cons C7 .nil))))
theorem Aja (n : Nat) (hn : 1048576 < n) (p : PacketV) (hp : G0 p) (hb1 : p.fWBody.size ≤ 1048576) (hb2 : p.fPass.size ≤ 1048576) (hb3 : p.fBody.size ≤ 1048576) (hq : 0 ≤ p.fWQos ∧ p.fWQos ≤ 2) : C0 E0 (n + 8) 22 111 [.agg (An p)] = some (Ad (Cg p)) := by
 rw [A7, Aig, f111]
 refine Cm (G := (· = some (Ad (Cg p)))) ?_
 have hl1 := hp.l1
 have hl2 := hp.l2
 have hl3 := hp.l3
 try simp only [Fa, E9]
 have s0 : Sep [] [] := Ch
 refine Om s0 (Gw (Ct _)) fun i1 H s2 => Nl (Ao (c := si p.fType) s2 (.here) rfl (Ba (C8 (Aa ((decide (p.fType = 1))) (fun h3 => ?_) fun h3 => ?_))))
 refine Ap h3 (Aq s2 (.here) rfl (B7 s2 rfl (.aggF (Ct _) .nil) (Abz n (by omega) p hp hb1 hb2 hq) (Cx (Ev p)) fun x4 H lx4 s5 => Al (Da s5 (.here)) ?_))
 have e : Cg p = (Ev p) := by
  simp only [Cs] at h3
  simp only [Cg, Hl, F9, h3, if_true, if_false, zaa]
 rw [e]
 refine Au h3 (Ba (Aa ((decide (p.fType = 2))) (fun h6 => ?_) fun h6 => ?_))
 refine Ap h6 (Wi (Ao (c := sb p.fPresent) s2 (.here) rfl (Q9 (Ao (c := si p.fCode) s2 (.here) rfl (Fq (IntKind.wrap_u8 _) ?_)))))
 have q7 := Gt p.fPresent 1 (by decide)
 refine Ar (v := (.int .i64 (A6 p.fPresent 1))) s2 rfl (Im .nil) (Aam (n + 6) p.fPresent 1) (Fq (IntKind.wrap_u8 _) (Bb (cs := [su ((A6 p.fPresent 1) % 256), su (p.fCode % 256)]) rfl (B9 s2 fun i8 H s9 => ?_)))
 have s10 := s9.closeB2 (.here) (by omega)
 refine Al (Da s10 (.here)) ?_
 have e : Cg p = (A4 (A4 bs0 ((A6 p.fPresent 1) % 256)) (p.fCode % 256)) := by
  simp only [Cs] at h3 h6
  (simp only [Cg, Hl, F9, h3, h6, if_true, if_false, zaa]; rfl)
 rw [e]
 refine Au h6 (Ba (Aa ((decide (p.fType = 3))) (fun h11 => ?_) fun h11 => ?_))
 refine Ap h11 (gf5 (Ao (c := ss p.fTopic) s2 (.here) rfl ?_))
 have z12 := Cl bs0 p.fTopic
 simp only [Av, At, Bc, zah] at z12
 refine B7 s2 rfl (.cons .nl (.cons .sc .nil)) (K4 (n + 1) (by omega) bs0 p.fTopic (by (simp only [Av, At, Bc, zah]; omega)) hp.t1) (Cx (Aj bs0 p.fTopic)) fun x13 H lx13 s14 => Ox (Ao (c := .sc (.int .i64 p.fQos)) s14 Cn rfl (Eb (C8 (Aa ((decide (0 < p.fQos))) (fun h15 => ?_) fun h15 => ?_))))
 refine Ap h15 (Ig (Ao (c := .sc (.int .i64 p.fId)) s14 Cn rfl (B7 s14 rfl (.cons (.own (by decide) (.here)) (.cons .sc .nil)) (R2 (n + 2) (by omega) (Aj bs0 p.fTopic) p.fId (by omega)) (Cx (Ak (Aj bs0 p.fTopic) p.fId)) fun x16 H lx16 s17 => gf6 (Ao (c := Ad p.fBody) s17 C7 rfl (Bb (cs := [x16, Ad p.fBody]) (Jb (z' := [x16, .nl]) (D2 lx16) rfl (Ca rfl) rfl (Jb (z' := [x16, Ad p.fBody]) (D2 rfl) rfl (Ca rfl) rfl (rfl))) (B9 s17 fun i18 H s19 => B7 s19 rfl (.sl (.here) rfl (.cons (.own (by decide) Cn) (.cons .ro .nil)) .nil) (M7 (n + 3) (by omega) (Ak (Aj bs0 p.fTopic) p.fId) p.fBody (by (simp only [Av, At, Bc, zah]; omega))) (Cx ((Ak (Aj bs0 p.fTopic) p.fId) ++ p.fBody)) fun x20 H lx20 s21 => Al (Da s21 (.here)) ?_))))))
 have e : Cg p = ((Ak (Aj bs0 p.fTopic) p.fId) ++ p.fBody) := by
  simp only [Cs] at h3 h6 h11 h15
  (simp only [Cg, Hl, F9, h3, h6, h11, h15, if_true, if_false, zaa]; rfl)
 rw [e]
 refine Au h15 (gf6 (Ao (c := Ad p.fBody) s14 Cn rfl (Bb (cs := [x13, Ad p.fBody]) (Jb (z' := [x13, .nl]) (D2 lx13) rfl (Ca rfl) rfl (Jb (z' := [x13, Ad p.fBody]) (D2 rfl) rfl (Ca rfl) rfl (rfl))) (B9 s14 fun i22 H s23 => B7 s23 rfl (.sl (.here) rfl (.cons (.own (by decide) Cn) (.cons .ro .nil)) .nil) (M7 (n + 3) (by omega) (Aj bs0 p.fTopic) p.fBody (by omega)) (Cx ((Aj bs0 p.fTopic) ++ p.fBody)) fun x24 H lx24 s25 => Al (Da s25 (.here)) ?_))))
 have e : Cg p = ((Aj bs0 p.fTopic) ++ p.fBody) := by
  simp only [Cs] at h3 h6 h11 h15
  (simp only [Cg, Hl, F9, h3, h6, h11, h15, if_true, if_false, zaa]; rfl)
 rw [e]
 refine Au h11 (Ba (C8 (Aa ((decide (p.fType = 12))) (fun h26 => ?_) fun h26 => ?_)))
 refine Ap h26 (Ap h26 ?_)
 have s27 := s2.nl (ty := 22) ⟨_, _, rfl, rfl⟩
 refine Al (Da s27 .here) ?_
 have e : Cg p = bs0 := by
  simp only [Cs] at h3 h6 h11 h26
  (simp only [Cg, Hl, F9, h3, h6, h11, h26, if_true, if_false, zaa]; rfl)
 rw [e]
 rfl
 refine Au h26 (Ba (Aa ((decide (p.fType = 13))) (fun h28 => ?_) fun h28 => ?_))
 refine Ap h28 (Ap h28 ?_)
 have s29 := s2.nl (ty := 22) ⟨_, _, rfl, rfl⟩
 refine Al (Da s29 .here) ?_
 have e : Cg p = bs0 := by
  simp only [Cs] at h3 h6 h11 h26 h28
  (simp only [Cg, Hl, F9, h3, h6, h11, h26, h28, if_true, if_false, zaa]; rfl)
 rw [e]
 rfl
 refine Au h28 (Ba (Aa ((decide (p.fType = 14))) (fun h30 => ?_) fun h30 => ?_))
 refine Ap h30 ?_
 have s31 := s2.nl (ty := 22) ⟨_, _, rfl, rfl⟩
 refine Al (Da s31 .here) ?_
 have e : Cg p = bs0 := by
  simp only [Cs] at h3 h6 h11 h26 h28 h30
  (simp only [Cg, Hl, F9, h3, h6, h11, h26, h28, h30, if_true, if_false, zaa]; rfl)
 rw [e]
 rfl
 refine Au h30 (Ig (Ao (c := .sc (.int .i64 p.fId)) s2 (.here) rfl (B7 s2 rfl (.cons .nl (.cons .sc .nil)) (R2 (n + 2) (by omega) bs0 p.fId (by (simp only [Av, At, Bc, zah]; omega))) (Cx (Ak bs0 p.fId)) fun x32 H lx32 s33 => Kf (Ao (c := Bt Bp p.fWants) s33 Cn rfl (Cu ?_)))))
 have s34 : Sep _ [.own x32 22 (Ad (Bi (Ak bs0 p.fId) [])), .blk i1 (An p) true] := s33.sel (.cons (.here) (.cons (.here) .nil))
 exact Q7 n hn p hp hb1 hb2 hb3 hq h3 h6 h11 h26 h28 h30  p.fWants [] _ 0 i1 x32 _ rfl rfl (by omega) lx32 s34
theorem AhA (p : PacketV) (hp : G0 p) (hb3 : p.fBody.size ≤ 1048576) : (Cg p).size ≤ 137438953472 := by
 have hl1 := hp.l1
 have hl2 := hp.l2
 have hl3 := hp.l3
 have z1 := Em p.fWants (Ak bs0 p.fId)
 have z2 := El p.fCodes (Bi (Ak bs0 p.fId) p.fWants)
 have z3 := Ll p.fNames (Dj (Bi (Ak bs0 p.fId) p.fWants) p.fCodes)
 have z4 := Cl bs0 p.fTopic
 have b1 : (Ev p).size ≤ 1000 := by
  have c3 : ∀ b, (C1 p b).size ≤ b.size + 62 := fun b => by
   unfold C1
   split
   exact Ic _ _
   omega
  have c2 : ∀ b, (Dr p b).size ≤ b.size + 62 := fun b => by
   unfold Dr
   split
   exact Cl _ _
   omega
  have c1 : ∀ b, (Eu p b).size ≤ b.size + 124 := fun b => by
   unfold Eu
   split
   have d1 := Ic (Aj b p.fWTopic) p.fWBody
   have d2 := Cl b p.fWTopic
   omega
   omega
  have c0 : (Gq p).size ≤ 200 := by
   unfold Gq
   have d1 := Cl (Ak (A4 (A4 (Aj bs0 mqtt) (p.fLevel % 256)) (Dy p % 256)) p.fKeep) p.fClient
   have d2 := Cl bs0 mqtt
   simp only [At, Av, Bc] at d1 d2
   omega
  have e1 := c1 (Gq p)
  have e2 := c2 (Eu p (Gq p))
  have e3 := c3 (Dr p (Eu p (Gq p)))
  unfold Ev
  omega
 unfold Cg F9 Hl
 simp only [At, Bc] at z1 z2 z3 z4
 (repeat' split) <;> (try simp only [Av, Bc, zah, At]) <;> omega
theorem AaD (n : Nat) (hn : 1048576 < n) (p : PacketV) (hp : G0 p) (hb1 : p.fWBody.size ≤ 1048576) (hb2 : p.fPass.size ≤ 1048576) (hb3 : p.fBody.size ≤ 1048576) : C0 E0 (n + 11) 22 72 [.agg (An p)] = some (Ad (Fv p)) := by
 rw [A7, Alv, f72]
 refine Cm (G := (· = some (Ad (Fv p)))) ?_
 try simp only [Fa, E9]
 have s0 : Sep [] [] := Ch
 refine Om s0 (Gw (Ct _)) fun i1 H s2 => Aq s2 (.here) rfl (Ar (v := (.bool (Am p))) s2 rfl (.aggF (Ct _) .nil) (S7 n (by omega) p hp) (Cr (Aa ((Am p)) (fun h3 => ?_) fun h3 => ?_)))
 refine Au (nF h3) (Aq s2 (.here) rfl ?_)
 have hf := Ia h3
 have hz := AhA p hp hb3
 refine B7 s2 rfl (.aggF (Ct _) .nil) (Aja (n + 2) (by omega) p hp hb1 hb2 hb3 hf.wq) (Cx (Cg p)) fun x4 H lx4 s5 => Aq s5 Cn rfl (Ar (v := (.int .i64 (Cp p))) s5 rfl (.aggF (Ct _) .nil) (AbR (n + 7) (by omega) p hf.ty hf.q) (Fq (IntKind.wrap_u8 _) (Bb (cs := [su ((Cp p) % 256)]) rfl (B9 s5 fun i6 H s7 => Jz s7 Cn ?_))))
 have z8 := Xv (A4 bs0 ((Cp p) % 256)) (((Cg p).size : Nat) : Int)
 simp only [Av, At, Bc, zah] at z8
 refine B7 s7 rfl (.sl (.here) rfl (.cons .sc .nil) (.cons .sc .nil)) (by rw [Afb ((Cp p) % 256) (by omega)]; exact Ajk (n + 4) (by omega) (A4 bs0 ((Cp p) % 256)) (((Cg p).size : Nat) : Int) (by simp only [Av, Bc]; omega)) (Cx (C6 (A4 bs0 ((Cp p) % 256)) (((Cg p).size : Nat) : Int))) fun x9 H lx9 s10 => Bb (cs := [x9, x4]) (Jb (z' := [x9, .nl]) (D2 lx9) rfl (Ca rfl) rfl (Jb (z' := [x9, x4]) (D2 lx4) rfl (Ca rfl) rfl (rfl))) (B9 s10 fun i11 H s12 => B7 s12 rfl (.sl (.here) rfl (.cons (.own (by decide) Cn) (.cons (.own (by decide) L9) .nil)) .nil) (M7 (n + 6) (by omega) (C6 (A4 bs0 ((Cp p) % 256)) (((Cg p).size : Nat) : Int)) (Cg p) (by omega)) (Cx ((C6 (A4 bs0 ((Cp p) % 256)) (((Cg p).size : Nat) : Int)) ++ (Cg p))) fun x13 H lx13 s14 => Al (Da s14 (.here)) ?_)
 have e : Fv p = ((C6 (A4 bs0 ((Cp p) % 256)) (((Cg p).size : Nat) : Int)) ++ (Cg p)) := by
  simp only [Fv, Ij, h3, if_true, if_false, zaa]
 rw [e]
 refine Ap (nT h3) ?_
 have s15 := s2.nl (ty := 22) ⟨_, _, rfl, rfl⟩
 refine Al (Da s15 .here) ?_
 have e : Fv p = bs0 := by
  simp only [Fv, Ij, h3, if_true, if_false, zaa]
 rw [e]
 rfl
def C4 (p : PacketV) (z : ByteArray) : ByteArray := Hl p (if !(decide (p.fType = 3)) && decide (0 < p.fId) then Ak z p.fId else z)
def Gr (f : Int) (r : ByteArray) : ByteArray := C6 (A4 bs0 (f % 256)) ((r.size : Nat) : Int) ++ r
theorem Abj {p : PacketV} (h1 : p.fWants = []) (h2 : p.fCodes = []) (h3 : p.fNames = []) (z : ByteArray) : Hl p z = z := by
 unfold Hl
 rw [h1, h2, h3]
 rfl
theorem Z8 {p : PacketV} (h : Am p = true) {f : Int} {r : ByteArray} (hf : Cp p = f) (hr : Cg p = r) : Fv p = Gr f r := by
 subst hf
 subst hr
 unfold Fv
 rw [if_pos h]
 rfl
theorem Ahr {p : PacketV} (h : Am p = true) (ht : p.fType = 1) : Fv p = Gr (16 * p.fType) (C4 p (Ev p)) := by
 obtain ⟨_, _, _, _, k5, k6, k7, k8⟩ := Kh h
 refine Z8 h (by unfold Cp; rw [if_neg (by omega), if_neg (by omega)]) ?_
 unfold C4
 rw [k5 (by omega), if_neg (by simp), Abj (k6 (by omega)) (k7 (by omega)) (k8 (by omega))]
 unfold Cg
 rw [if_pos ht]
theorem AlY {p : PacketV} (h : Am p = true) (ht : p.fType = 2) : Fv p = Gr (16 * p.fType) (C4 p (A4 (A4 bs0 (A6 p.fPresent 1 % 256)) (p.fCode % 256))) := by
 obtain ⟨_, _, _, _, k5, k6, k7, k8⟩ := Kh h
 refine Z8 h (by unfold Cp; rw [if_neg (by omega), if_neg (by omega)]) ?_
 unfold C4
 rw [k5 (by omega), if_neg (by simp), Abj (k6 (by omega)) (k7 (by omega)) (k8 (by omega))]
 unfold Cg
 rw [if_neg (by omega), if_pos ht]
theorem Ahs {p : PacketV} (h : Am p = true) (ht : p.fType = 3) : Fv p = Gr (16 * p.fType + A6 p.fDup 8 + 2 * p.fQos + A6 p.fRetain 1) (C4 p (F9 p)) := by
 obtain ⟨_, _, _, _, k5, k6, k7, k8⟩ := Kh h
 refine Z8 h (by unfold Cp; rw [if_pos ht]) ?_
 unfold C4
 rw [if_neg (by simp; omega), Abj (k6 (by omega)) (k7 (by omega)) (k8 (by omega))]
 unfold Cg
 rw [if_neg (by omega), if_neg (by omega), if_pos ht]
theorem Z7 {p : PacketV} (h : Am p = true) (h1 : ¬ p.fType = 1) (h2 : ¬ p.fType = 2) (h3 : ¬ p.fType = 3) {f : Int} (hf : Cp p = f) : Fv p = Gr f (C4 p bs0) := by
 obtain ⟨_, _, _, _, k5, k6, k7, k8⟩ := Kh h
 obtain ⟨ht, _, hk⟩ := Fi h
 refine Z8 h hf ?_
 unfold C4 Cg
 rw [if_neg h1, if_neg h2, if_neg h3]
 by_cases h12 : 12 ≤ p.fType
 rw [k5 (by omega), if_pos (by omega), if_neg (by simp), Abj (k6 (by omega)) (k7 (by omega)) (k8 (by omega))]
 have hi : 1 ≤ p.fId := by
  unfold Cj at hk
  rw [if_neg h1, if_neg h2, if_neg h3] at hk
  by_cases h4 : p.fType = 4 ∨ p.fType = 5 ∨ p.fType = 6 ∨ p.fType = 7 ∨ p.fType = 11
  rw [if_pos h4, Gu] at hk
  omega
  rw [if_neg h4, if_pos (by omega)] at hk
  simp only [zag, Gu] at hk
  omega
 rw [if_neg (by omega), if_pos (by simp; omega)]
theorem Uf (n : Nat) (hn : 1048576 < n) (p : PacketV) (hp : G0 p) (hb1 : p.fWBody.size ≤ 1048576) (hb2 : p.fPass.size ≤ 1048576) (hb3 : p.fBody.size ≤ 1048576) (h3 : (Am p) = true) (z4t4 : ByteArray) (f4t3 : Int) (hz40 : z4t4.size ≤ 1100000) (z7t4 : ByteArray) (f7t3 : Int) (hz70 : z7t4.size ≤ 1100100) : ∀ (t pre : List ByteArray) (m : Nat) (i : Int) (i1 : Nat) (a2 : AV) (H : Ab), p.fNames = pre ++ t → i = ((pre.length : Nat) : Int) → t.length < m → Bk a2 = true → Sep H [.own a2 22 (Ad (E6 (Dj (Bi z7t4 p.fWants) p.fCodes) pre)), .blk i1 (An p) true] → Gd (· = some (Ad (Gr f7t3 (Hl p z7t4)))) (Q3 (PR (n + 10) AV) (n + 10) (fun x H => A8 As E0.tp 22 H x) m (.ptr i1 0) (.sc (.int .i64 f7t3)) (a2) (.sc (.int .i64 i)) H)
 | [], pre, m + 1, i, i1, a2, H, he, hi, hm, la2, s0 => by
  obtain rfl : pre = p.fNames := by simpa using he.symm
  have hl1 := hp.l1
  have hl2 := hp.l2
  have hl3 := hp.l3
  have zl1 := Em p.fWants z7t4
  have zl2 := El p.fCodes (Bi z7t4 p.fWants)
  have zl0 := Ll p.fNames (Dj (Bi z7t4 p.fWants) p.fCodes)
  rw [Q3]
  try simp only [Fa, E9]
  refine Km (Ao (c := D6 p.fNames) s0 Cn rfl (Cu (Di (Au (by simp [hi]) (Fq (IntKind.wrap_u8 _) (Bb (cs := [.sc (.int .u8 (f7t3 % 256))]) rfl (B9 s0 fun i201 H s202 => Jz s202 Cn ?_)))))))
  have z203 := Xv (A4 bs0 (f7t3 % 256)) (((E6 (Dj (Bi z7t4 p.fWants) p.fCodes) p.fNames).size : Nat) : Int)
  simp only [Av, At, Bc, zah] at z203
  refine B7 s202 rfl (.sl (.here) rfl (.cons .sc .nil) (.cons .sc .nil)) (by rw [Afb (f7t3 % 256) (by omega)]; exact AjJ (n + 4) (by omega) (A4 bs0 (f7t3 % 256)) (((E6 (Dj (Bi z7t4 p.fWants) p.fCodes) p.fNames).size : Nat) : Int) (by simp only [Av, Bc]; omega)) (Cx (C6 (A4 bs0 (f7t3 % 256)) (((E6 (Dj (Bi z7t4 p.fWants) p.fCodes) p.fNames).size : Nat) : Int))) fun x204 H lx204 s205 => Rw (s := (C6 (A4 bs0 (f7t3 % 256)) (((E6 (Dj (Bi z7t4 p.fWants) p.fCodes) p.fNames).size : Nat) : Int))) s205 ⟨_, _, rfl, rfl, rfl, rfl⟩ (.here) (Abh ⟨_, _, rfl, rfl, rfl, rfl⟩ Cn (Ki _)) (by omega) fun x206 H lx206 s207 => Al (Da s207 (.here)) ?_
  have e : Gr f7t3 (Hl p z7t4) = ((C6 (A4 bs0 (f7t3 % 256)) (((E6 (Dj (Bi z7t4 p.fWants) p.fCodes) p.fNames).size : Nat) : Int)) ++ (E6 (Dj (Bi z7t4 p.fWants) p.fCodes) p.fNames)) := by
   rfl
  rw [e]
 | y :: t, pre, m + 1, i, i1, a2, H, he, hi, hm, la2, s0 => by
  have hlt : pre.length < p.fNames.length := by rw [he]; simp
  have hl1 := hp.l1
  have hl2 := hp.l2
  have hl3 := hp.l3
  have zl1 := Em p.fWants z7t4
  have zl2 := El p.fCodes (Bi z7t4 p.fWants)
  have zl0 := Ll pre (Dj (Bi z7t4 p.fWants) p.fCodes)
  rw [Q3]
  try simp only [Fa, E9]
  refine Km (Ao (c := D6 p.fNames) s0 Cn rfl (Cu (Di (Ap (by simp [hi]; omega) (Km (Ao (c := D6 p.fNames) s0 Cn rfl (Ng hi he (E5 (c := .sc (.string y)) rfl ?_))))))))
  have z201 := Cl (E6 (Dj (Bi z7t4 p.fWants) p.fCodes) pre) y
  refine B7 s0 rfl (.cons (.own (by decide) (.here)) (.cons .sc .nil)) (K9 (n + 5) (by omega) (E6 (Dj (Bi z7t4 p.fWants) p.fCodes) pre) y (by omega) (hp.w2 y (by rw [he]; simp))) (Cx (Aj (E6 (Dj (Bi z7t4 p.fWants) p.fCodes) pre) y)) fun x202 H lx202 s203 => Bw (by omega) (by omega) ?_
  have e204 : (E6 (Dj (Bi z7t4 p.fWants) p.fCodes) (pre ++ [y])) = (Aj (E6 (Dj (Bi z7t4 p.fWants) p.fCodes) pre) y) := by
   try simp only [bne_iff_ne, beq_iff_eq, beq_eq_false_iff_ne, Cs] at h3
   simp only [E6, zbc, zaY, zbx, h3, if_true, if_false, zaa]
  exact Uf n hn p hp hb1 hb2 hb3 h3 z4t4 f4t3 hz40 z7t4 f7t3 hz70 t (pre ++ [y]) m _ i1 x202 _ (by rw [he]; simp) (by rw [hi]; simp) (by simpa using hm) lx202 (by rw [e204]; exact (s203.sel (.cons (.here) (.cons Cn .nil))))
theorem Ue (n : Nat) (hn : 1048576 < n) (p : PacketV) (hp : G0 p) (hb1 : p.fWBody.size ≤ 1048576) (hb2 : p.fPass.size ≤ 1048576) (hb3 : p.fBody.size ≤ 1048576) (h3 : (Am p) = true) (z4t4 : ByteArray) (f4t3 : Int) (hz40 : z4t4.size ≤ 1100000) (z7t4 : ByteArray) (f7t3 : Int) (hz70 : z7t4.size ≤ 1100100) : ∀ (t pre : List Int) (m : Nat) (i : Int) (i1 : Nat) (a2 : AV) (H : Ab), p.fCodes = pre ++ t → i = ((pre.length : Nat) : Int) → t.length < m → Bk a2 = true → Sep H [.own a2 22 (Ad (Dj (Bi z7t4 p.fWants) pre)), .blk i1 (An p) true] → Gd (· = some (Ad (Gr f7t3 (Hl p z7t4)))) (N1 (PR (n + 10) AV) (n + 10) (fun x H => A8 As E0.tp 22 H x) m (.ptr i1 0) (.sc (.int .i64 f7t3)) (a2) (.sc (.int .i64 i)) H)
 | [], pre, m + 1, i, i1, a2, H, he, hi, hm, la2, s0 => by
  obtain rfl : pre = p.fCodes := by simpa using he.symm
  have hl1 := hp.l1
  have hl2 := hp.l2
  have hl3 := hp.l3
  have zl1 := Em p.fWants z7t4
  have zl2 := El p.fCodes (Bi z7t4 p.fWants)
  have zl0 := El p.fCodes (Bi z7t4 p.fWants)
  rw [N1]
  try simp only [Fa, E9]
  refine Kn (Ao (c := D5 p.fCodes) s0 Cn rfl (Cu (Di (Au (by simp [hi]) ?_))))
  have s201 : Sep _ [.own a2 22 (Ad (E6 (Dj (Bi z7t4 p.fWants) p.fCodes) [])), .blk i1 (An p) true] := s0.sel (.cons (.here) (.cons (.here) .nil))
  exact Uf n hn p hp hb1 hb2 hb3 h3 z4t4 f4t3 (by assumption) z7t4 f7t3 (by assumption) p.fNames [] _ 0 i1 a2 _ rfl rfl (by omega) la2 s201
 | y :: t, pre, m + 1, i, i1, a2, H, he, hi, hm, la2, s0 => by
  have hlt : pre.length < p.fCodes.length := by rw [he]; simp
  have hl1 := hp.l1
  have hl2 := hp.l2
  have hl3 := hp.l3
  have zl1 := Em p.fWants z7t4
  have zl2 := El p.fCodes (Bi z7t4 p.fWants)
  have zl0 := El pre (Bi z7t4 p.fWants)
  rw [N1]
  try simp only [Fa, E9]
  refine Kn (Ao (c := D5 p.fCodes) s0 Cn rfl (Cu (Di (Ap (by simp [hi]; omega) (Kn (Ao (c := D5 p.fCodes) s0 Cn rfl (J4 hi he (E5 (c := .sc (.int .i64 y)) rfl (Fq (IntKind.wrap_u8 _) (Bb (cs := [.sc (.int .u8 (y % 256))]) rfl (B9 s0 fun i201 H s202 => E4 (s := (Dj (Bi z7t4 p.fWants) pre)) (z := (y % 256)) s202 Cn (.here) ⟨_, _, rfl, rfl, rfl, rfl⟩ rfl (by omega) fun x203 H lx203 s204 => Bw (by omega) (by omega) ?_)))))))))))
  have e205 : (Dj (Bi z7t4 p.fWants) (pre ++ [y])) = (A4 (Dj (Bi z7t4 p.fWants) pre) (y % 256)) := by
   try simp only [bne_iff_ne, beq_iff_eq, beq_eq_false_iff_ne, Cs] at h3
   simp only [Dj, zbc, zaY, zbx, h3, if_true, if_false, zaa]
  exact Ue n hn p hp hb1 hb2 hb3 h3 z4t4 f4t3 hz40 z7t4 f7t3 hz70 t (pre ++ [y]) m _ i1 x203 _ (by rw [he]; simp) (by rw [hi]; simp) (by simpa using hm) lx203 (by rw [e205]; exact (s204.sel (.cons (.here) (.cons (.here) .nil))))
theorem Py (n : Nat) (hn : 1048576 < n) (p : PacketV) (hp : G0 p) (hb1 : p.fWBody.size ≤ 1048576) (hb2 : p.fPass.size ≤ 1048576) (hb3 : p.fBody.size ≤ 1048576) (h3 : (Am p) = true) (z4t4 : ByteArray) (f4t3 : Int) (hz40 : z4t4.size ≤ 1100000) (z7t4 : ByteArray) (f7t3 : Int) (hz70 : z7t4.size ≤ 1100100) : ∀ (t pre : List WantV) (m : Nat) (i : Int) (i1 : Nat) (a2 : AV) (H : Ab), p.fWants = pre ++ t → i = ((pre.length : Nat) : Int) → t.length < m → Bk a2 = true → Sep H [.own a2 22 (Ad (Bi z7t4 pre)), .blk i1 (An p) true] → Gd (· = some (Ad (Gr f7t3 (Hl p z7t4)))) (N0 (PR (n + 10) AV) (n + 10) (fun x H => A8 As E0.tp 22 H x) m (.ptr i1 0) (.sc (.int .i64 f7t3)) (a2) (.sc (.int .i64 i)) H)
 | [], pre, m + 1, i, i1, a2, H, he, hi, hm, la2, s0 => by
  obtain rfl : pre = p.fWants := by simpa using he.symm
  have hl1 := hp.l1
  have hl2 := hp.l2
  have hl3 := hp.l3
  have zl1 := Em p.fWants z7t4
  have zl2 := El p.fCodes (Bi z7t4 p.fWants)
  have zl0 := Em p.fWants z7t4
  rw [N0]
  try simp only [Fa, E9]
  refine Kf (Ao (c := Bt Bp p.fWants) s0 Cn rfl (Cu (Di (Au (by simp [hi]) ?_))))
  have s201 : Sep _ [.own a2 22 (Ad (Dj (Bi z7t4 p.fWants) [])), .blk i1 (An p) true] := s0.sel (.cons (.here) (.cons (.here) .nil))
  exact Ue n hn p hp hb1 hb2 hb3 h3 z4t4 f4t3 (by assumption) z7t4 f7t3 (by assumption) p.fCodes [] _ 0 i1 a2 _ rfl rfl (by omega) la2 s201
 | y :: t, pre, m + 1, i, i1, a2, H, he, hi, hm, la2, s0 => by
  have hlt : pre.length < p.fWants.length := by rw [he]; simp
  have hl1 := hp.l1
  have hl2 := hp.l2
  have hl3 := hp.l3
  have zl1 := Em p.fWants z7t4
  have zl2 := El p.fCodes (Bi z7t4 p.fWants)
  have zl0 := Em pre z7t4
  rw [N0]
  try simp only [Fa, E9]
  refine Kf (Ao (c := Bt Bp p.fWants) s0 Cn rfl (Cu (Di (Ap (by simp [hi]; omega) (Kf (Ao (c := Bt Bp p.fWants) s0 Cn rfl (Mr hi F5 (by decide) he (Qb (E5 (c := .sc (.string y.fFilter)) rfl (Kf (Ao (c := Bt Bp p.fWants) s0 Cn rfl (Mr hi F5 (by decide) he (Qb (E5 (c := .sc (.int .i64 y.fQos)) rfl (Fq (IntKind.wrap_u8 _) (C8 (Gd.bothE ?_ ?_)))))))))))))))))
  have z201 := Cl (Bi z7t4 pre) y.fFilter
  refine B7 s0 rfl (.cons (.own (by decide) (.here)) (.cons .sc .nil)) (K9 (n + 5) (by omega) (Bi z7t4 pre) y.fFilter (by omega) (hp.w1 y (by rw [he]; simp))) (Cx (Aj (Bi z7t4 pre) y.fFilter)) fun x202 H lx202 s203 => Bb (cs := [.sc (.int .u8 (y.fQos % 256))]) rfl (B9 s203 fun i204 H s205 => E4 (s := (Aj (Bi z7t4 pre) y.fFilter)) (z := (y.fQos % 256)) s205 Cn (.here) ⟨_, _, rfl, rfl, rfl, rfl⟩ rfl (by omega) fun x206 H lx206 s207 => Bw (by omega) (by omega) ?_)
  have e208 : (Bi z7t4 (pre ++ [y])) = (A4 (Aj (Bi z7t4 pre) y.fFilter) (y.fQos % 256)) := by
   try simp only [bne_iff_ne, beq_iff_eq, beq_eq_false_iff_ne, Cs] at h3
   simp only [Bi, zbc, zaY, zbx, h3, if_true, if_false, zaa]
  exact Py n hn p hp hb1 hb2 hb3 h3 z4t4 f4t3 hz40 z7t4 f7t3 hz70 t (pre ++ [y]) m _ i1 x206 _ (by rw [he]; simp) (by rw [hi]; simp) (by simpa using hm) lx206 (by rw [e208]; exact (s207.sel (.cons (.here) (.cons Cn .nil))))
  refine Bb (cs := [su (y.fQos % 256)]) rfl (B9 s0 fun i209 H s210 => ?_)
  have z211 := Cl (Bi z7t4 pre) y.fFilter
  refine B7 s210 rfl (.cons (.own (by decide) Cn) (.cons .sc .nil)) (K9 (n + 5) (by omega) (Bi z7t4 pre) y.fFilter (by omega) (hp.w1 y (by rw [he]; simp))) (Cx (Aj (Bi z7t4 pre) y.fFilter)) fun x212 H lx212 s213 => E4 (s := (Aj (Bi z7t4 pre) y.fFilter)) (z := (y.fQos % 256)) s213 (.here) (.here) ⟨_, _, rfl, rfl, rfl, rfl⟩ rfl (by omega) fun x214 H lx214 s215 => Bw (by omega) (by omega) ?_
  have e216 : (Bi z7t4 (pre ++ [y])) = (A4 (Aj (Bi z7t4 pre) y.fFilter) (y.fQos % 256)) := by
   try simp only [bne_iff_ne, beq_iff_eq, beq_eq_false_iff_ne, Cs] at h3
   simp only [Bi, zbc, zaY, zbx, h3, if_true, if_false, zaa]
  exact Py n hn p hp hb1 hb2 hb3 h3 z4t4 f4t3 hz40 z7t4 f7t3 hz70 t (pre ++ [y]) m _ i1 x214 _ (by rw [he]; simp) (by rw [hi]; simp) (by simpa using hm) lx214 (by rw [e216]; exact (s215.sel (.cons (.here) (.cons Cn .nil))))
theorem Abg (n : Nat) (hn : 1048576 < n) (p : PacketV) (hp : G0 p) (hb1 : p.fWBody.size ≤ 1048576) (hb2 : p.fPass.size ≤ 1048576) (hb3 : p.fBody.size ≤ 1048576) : C0 E0 (n + 11) 22 66 [.agg (An p)] = some (Ad (Fv p)) := by
 rw [A7, Alp, f66]
 refine Cm (G := (· = some (Ad (Fv p)))) ?_
 have hl1 := hp.l1
 have hl2 := hp.l2
 have hl3 := hp.l3
 try simp only [Fa, E9]
 have s0 : Sep [] [] := Ch
 refine Om s0 (Gw (Ct _)) fun i1 H s2 => Aq s2 (.here) rfl (Ar (v := (.bool (Am p))) s2 rfl (.aggF (Ct _) .nil) (Tn n (by omega) p hp) (Cr (Aa ((Am p)) (fun h3 => ?_) fun h3 => ?_)))
 have hf := Ia h3
 obtain ⟨ht, hq, hwq, hi⟩ := hf
 refine Au (nF h3) (Nl (Ao (c := si p.fType) s2 (.here) rfl (Rz (by omega) (by omega) (Nl (Ao (c := si p.fType) s2 (.here) rfl (Ba (N6 (P := fun j => ∀ (x4 : AV) (z4t4 : ByteArray) (f4t3 : Int) (H : Ab), Bk x4 = true → (z4t4.size ≤ 1100000) → Sep H [.own x4 22 (Ad z4t4), .blk i1 (An p) true] → Gd (· = some (Ad (Gr f4t3 (C4 p z4t4)))) (j (.ptr i1 0) (si f4t3) x4 H)) ?_ fun j4 hj4 => ?_)))))))
 intro x4 z4t4 f4t3 H lx4 hz40 s5
 refine Nl (Ao (c := si p.fType) s5 Cn rfl (Ks ?_))
 apply Br ((!(decide (p.fType = 3))) && (decide (0 < p.fId)))
 intro b6 q6
 refine Aa ((decide (p.fType = 3))) (fun h6 => ?_) fun h6 => ?_
 exact Ae (nF h6) (Ae (nF h6) (Ae (nF h6) (Db (nF h6) (Fo q6 (nF h6)) A0)))
 exact Af (nT h6) (Ig (Af (nT h6) (Ao (c := si p.fId) s5 Cn rfl (Af (nT h6) (Eb (Dc (nT h6) (Fp q6 (nT h6)) A0))))))
 intro b6 q6
 refine N6 (P := fun j => ∀ (x7 : AV) (z7t4 : ByteArray) (f7t3 : Int) (H : Ab), Bk x7 = true → (z7t4.size ≤ 1100100) → Sep H [.own x7 22 (Ad z7t4), .blk i1 (An p) true] → Gd (· = some (Ad (Gr f7t3 (Hl p z7t4)))) (j (.ptr i1 0) (si f7t3) x7 H)) ?_ fun j7 hj7 => ?_
 intro x7 z7t4 f7t3 H lx7 hz70 s8
 have s9 : Sep _ [.own x7 22 (Ad (Bi z7t4 [])), .blk i1 (An p) true] := s8.sel (.cons (.here) (.cons (.here) .nil))
 exact Py n hn p hp hb1 hb2 hb3 h3 z4t4 f4t3 (by assumption) z7t4 f7t3 (by assumption) p.fWants [] _ 0 i1 x7 _ rfl rfl (by omega) lx7 s9
 refine Aa (b6) (fun h10 => ?_) fun h10 => ?_
 refine Ap h10 (Ig (Ao (c := si p.fId) s5 Cn rfl (B7 s5 rfl (.cons (.own (by decide) (.here)) (.cons .sc .nil)) (Sr (n + 9) (by omega) z4t4 p.fId (by omega)) (Cx (Ak z4t4 p.fId)) fun x11 H lx11 s12 => ?_)))
 have e13 : Gr f4t3 (C4 p z4t4) = Gr f4t3 (Hl p (Ak z4t4 p.fId)) := by
  unfold C4; simp only [← q6, h10, if_true, if_false, zaa]
 rw [e13]
 exact hj7 x11 (Ak z4t4 p.fId) f4t3 _ lx11 (by (simp only [Av, At, Bc, zah]; omega)) (s12.sel (.cons (.here) (.cons Cn .nil)))
 refine Au h10 ?_
 have e14 : Gr f4t3 (C4 p z4t4) = Gr f4t3 (Hl p z4t4) := by
  unfold C4; simp only [← q6, h10, if_true, if_false, zaa]
 rw [e14]
 exact hj7 x4 z4t4 f4t3 _ lx4 (by omega) (s5.sel (.cons (.here) (.cons (.here) .nil)))
 refine Aa ((decide (p.fType = 1))) (fun h15 => ?_) fun h15 => ?_
 refine Ap h15 (gf8 (Ao (c := si p.fLevel) s2 (.here) rfl (Fq (IntKind.wrap_u8 _) (N6 (P := fun j => ∀ (x16 : AV) (z16t4 : ByteArray) (f16t3 : Int) (H : Ab), Bk x16 = true → (z16t4.size ≤ 100) → Sep H [.own x16 22 (Ad z16t4), .blk i1 (An p) true] → Gd (· = some (Ad (Gr f16t3 (C4 p (C1 p (Dr p (Eu p (Aj (Ak (A4 z16t4 (Dy p % 256)) p.fKeep) p.fClient)))))))) (j (.ptr i1 0) (si f16t3) x16 H)) ?_ fun j16 hj16 => ?_))))
 intro x16 z16t4 f16t3 H lx16 hz160 s17
 refine gf9 (Ao (c := sb p.fClean) s17 Cn rfl (Qp (Ao (c := sb p.fHasWill) s17 Cn rfl (Wh (Ao (c := si p.fWQos) s17 Cn rfl (Rz (by omega) (by omega) (AaB (Ao (c := sb p.fWRetain) s17 Cn rfl (Ke (Ao (c := sb p.fHasPass) s17 Cn rfl (Ow (Ao (c := sb p.fHasUser) s17 Cn rfl ?_))))))))))))
 have q18 := Gt p.fClean 2 (by decide)
 refine Ar (v := (.int .i64 (A6 p.fClean 2))) s17 rfl (Im .nil) (T1 (n + 9) p.fClean 2) ?_
 have q19 := Gt p.fHasWill 4 (by decide)
 refine Ar (v := (.int .i64 (A6 p.fHasWill 4))) s17 rfl (Im .nil) (T1 (n + 9) p.fHasWill 4) (Bw (by omega) (by omega) (Bw (by omega) (by omega) ?_))
 have q20 := Gt p.fWRetain 32 (by decide)
 refine Ar (v := (.int .i64 (A6 p.fWRetain 32))) s17 rfl (Im .nil) (T1 (n + 9) p.fWRetain 32) (Bw (by omega) (by omega) ?_)
 have q21 := Gt p.fHasPass 64 (by decide)
 refine Ar (v := (.int .i64 (A6 p.fHasPass 64))) s17 rfl (Im .nil) (T1 (n + 9) p.fHasPass 64) (Bw (by omega) (by omega) ?_)
 have q22 := Gt p.fHasUser 128 (by decide)
 refine Ar (v := (.int .i64 (A6 p.fHasUser 128))) s17 rfl (Im .nil) (T1 (n + 9) p.fHasUser 128) (Bw (by omega) (by omega) (Fq (IntKind.wrap_u8 _) (Bb (cs := [.sc (.int .u8 (((((((A6 p.fClean 2) + (A6 p.fHasWill 4)) + (8 * p.fWQos)) + (A6 p.fWRetain 32)) + (A6 p.fHasPass 64)) + (A6 p.fHasUser 128)) % 256))]) rfl (B9 s17 fun i23 H s24 => E4 (s := z16t4) (z := (((((((A6 p.fClean 2) + (A6 p.fHasWill 4)) + (8 * p.fWQos)) + (A6 p.fWRetain 32)) + (A6 p.fHasPass 64)) + (A6 p.fHasUser 128)) % 256)) s24 Cn (.here) ⟨_, _, rfl, rfl, rfl, rfl⟩ rfl (by omega) fun x25 H lx25 s26 => We (Ao (c := .sc (.int .i64 p.fKeep)) s26 Cn rfl (gf7 (Ao (c := .sc (.string p.fClient)) s26 Cn rfl (B7 s26 rfl (.cons (.own (by decide) (.here)) (.cons .sc .nil)) (Sr (n + 9) (by omega) (A4 z16t4 (((((((A6 p.fClean 2) + (A6 p.fHasWill 4)) + (8 * p.fWQos)) + (A6 p.fWRetain 32)) + (A6 p.fHasPass 64)) + (A6 p.fHasUser 128)) % 256)) p.fKeep (by (simp only [Av, At, Bc, zah]; omega))) (Cx (Ak (A4 z16t4 (((((((A6 p.fClean 2) + (A6 p.fHasWill 4)) + (8 * p.fWQos)) + (A6 p.fWRetain 32)) + (A6 p.fHasPass 64)) + (A6 p.fHasUser 128)) % 256)) p.fKeep)) fun x27 H lx27 s28 => ?_))))))))
 have z29 := Cl (Ak (A4 z16t4 (((((((A6 p.fClean 2) + (A6 p.fHasWill 4)) + (8 * p.fWQos)) + (A6 p.fWRetain 32)) + (A6 p.fHasPass 64)) + (A6 p.fHasUser 128)) % 256)) p.fKeep) p.fClient
 simp only [Av, At, Bc, zah] at z29
 refine B7 s28 rfl (.cons (.own (by decide) (.here)) (.cons .sc .nil)) (K9 (n + 5) (by omega) (Ak (A4 z16t4 (((((((A6 p.fClean 2) + (A6 p.fHasWill 4)) + (8 * p.fWQos)) + (A6 p.fWRetain 32)) + (A6 p.fHasPass 64)) + (A6 p.fHasUser 128)) % 256)) p.fKeep) p.fClient (by (simp only [Av, At, Bc, zah]; omega)) hp.t2) (Cx (Aj (Ak (A4 z16t4 (((((((A6 p.fClean 2) + (A6 p.fHasWill 4)) + (8 * p.fWQos)) + (A6 p.fWRetain 32)) + (A6 p.fHasPass 64)) + (A6 p.fHasUser 128)) % 256)) p.fKeep) p.fClient)) fun x30 H lx30 s31 => Qp (Ao (c := .sc (.bool p.fHasWill)) s31 L9 rfl (N6 (P := fun j => ∀ (x32 : AV) (z32t4 : ByteArray) (f32t3 : Int) (H : Ab), Bk x32 = true → (z32t4.size ≤ 400) → Sep H [.own x32 22 (Ad z32t4), .blk i1 (An p) true] → Gd (· = some (Ad (Gr f32t3 (C4 p (C1 p (Dr p z32t4)))))) (j (.ptr i1 0) (.sc (.int .i64 f32t3)) x32 H)) ?_ fun j32 hj32 => ?_))
 intro x32 z32t4 f32t3 H lx32 hz320 s33
 refine Ow (Ao (c := sb p.fHasUser) s33 Cn rfl (N6 (P := fun j => ∀ (x34 : AV) (z34t4 : ByteArray) (f34t3 : Int) (H : Ab), Bk x34 = true → (z34t4.size ≤ 600) → Sep H [.own x34 22 (Ad z34t4), .blk i1 (An p) true] → Gd (· = some (Ad (Gr f34t3 (C4 p (C1 p z34t4))))) (j (.ptr i1 0) (si f34t3) x34 H)) ?_ fun j34 hj34 => ?_))
 intro x34 z34t4 f34t3 H lx34 hz340 s35
 refine Ke (Ao (c := sb p.fHasPass) s35 Cn rfl (Aa (p.fHasPass) (fun h36 => ?_) fun h36 => ?_))
 refine Ap h36 (Ms (Ao (c := Ad p.fPass) s35 Cn rfl ?_))
 have z37 := Ic z34t4 p.fPass
 refine B7 s35 rfl (.cons (.own (by decide) (.here)) (.cons .ro .nil)) (Adh (n + 8) (by omega) z34t4 p.fPass (by omega) hb2) (Cx (Cw z34t4 p.fPass)) fun x38 H lx38 s39 => ?_
 have e40 : Gr f34t3 (C4 p (C1 p z34t4)) = Gr f34t3 (C4 p (Cw z34t4 p.fPass)) := by
  simp only [Cs] at h15
  simp only [C4, Ev, Gq, Eu, Dr, C1, Dy, F9, h3, h15, h36, if_true, if_false, zaa]
 rw [e40]
 exact hj4 x38 (Cw z34t4 p.fPass) f34t3 _ lx38 (by omega) (s39.sel (.cons (.here) (.cons Cn .nil)))
 refine Au h36 ?_
 have e41 : Gr f34t3 (C4 p (C1 p z34t4)) = Gr f34t3 (C4 p z34t4) := by
  simp only [Cs] at h15
  simp only [C4, Ev, Gq, Eu, Dr, C1, Dy, F9, h3, h15, h36, if_true, if_false, zaa]
 rw [e41]
 exact hj4 x34 z34t4 f34t3 _ lx34 (by omega) (s35.sel (.cons (.here) (.cons (.here) .nil)))
 refine Aa (p.fHasUser) (fun h42 => ?_) fun h42 => ?_
 refine Ap h42 (Pg (Ao (c := ss p.fUser) s33 Cn rfl ?_))
 have z43 := Cl z32t4 p.fUser
 refine B7 s33 rfl (.cons (.own (by decide) (.here)) (.cons .sc .nil)) (K9 (n + 5) (by omega) z32t4 p.fUser (by omega) hp.t4) (Cx (Aj z32t4 p.fUser)) fun x44 H lx44 s45 => ?_
 have e46 : Gr f32t3 (C4 p (C1 p (Dr p z32t4))) = Gr f32t3 (C4 p (C1 p (Aj z32t4 p.fUser))) := by
  simp only [Cs] at h15
  simp only [C4, Ev, Gq, Eu, Dr, C1, Dy, F9, h3, h15, h42, if_true, if_false, zaa]
 rw [e46]
 exact hj34 x44 (Aj z32t4 p.fUser) f32t3 _ lx44 (by omega) (s45.sel (.cons (.here) (.cons Cn .nil)))
 refine Au h42 ?_
 have e47 : Gr f32t3 (C4 p (C1 p (Dr p z32t4))) = Gr f32t3 (C4 p (C1 p z32t4)) := by
  simp only [Cs] at h15
  simp only [C4, Ev, Gq, Eu, Dr, C1, Dy, F9, h3, h15, h42, if_true, if_false, zaa]
 rw [e47]
 exact hj34 x32 z32t4 f32t3 _ lx32 (by omega) (s33.sel (.cons (.here) (.cons (.here) .nil)))
 refine Aa (p.fHasWill) (fun h48 => ?_) fun h48 => ?_
 refine Ap h48 (Wf (Ao (c := ss p.fWTopic) s31 L9 rfl (Wg (Ao (c := Ad p.fWBody) s31 L9 rfl ?_))))
 have z49 := Cl (Aj (Ak (A4 z16t4 (((((((A6 p.fClean 2) + (A6 p.fHasWill 4)) + (8 * p.fWQos)) + (A6 p.fWRetain 32)) + (A6 p.fHasPass 64)) + (A6 p.fHasUser 128)) % 256)) p.fKeep) p.fClient) p.fWTopic
 refine B7 s31 rfl (.cons (.own (by decide) (.here)) (.cons .sc .nil)) (K9 (n + 5) (by omega) (Aj (Ak (A4 z16t4 (((((((A6 p.fClean 2) + (A6 p.fHasWill 4)) + (8 * p.fWQos)) + (A6 p.fWRetain 32)) + (A6 p.fHasPass 64)) + (A6 p.fHasUser 128)) % 256)) p.fKeep) p.fClient) p.fWTopic (by omega) hp.t3) (Cx (Aj (Aj (Ak (A4 z16t4 (((((((A6 p.fClean 2) + (A6 p.fHasWill 4)) + (8 * p.fWQos)) + (A6 p.fWRetain 32)) + (A6 p.fHasPass 64)) + (A6 p.fHasUser 128)) % 256)) p.fKeep) p.fClient) p.fWTopic)) fun x50 H lx50 s51 => ?_
 have z52 := Ic (Aj (Aj (Ak (A4 z16t4 (((((((A6 p.fClean 2) + (A6 p.fHasWill 4)) + (8 * p.fWQos)) + (A6 p.fWRetain 32)) + (A6 p.fHasPass 64)) + (A6 p.fHasUser 128)) % 256)) p.fKeep) p.fClient) p.fWTopic) p.fWBody
 refine B7 s51 rfl (.cons (.own (by decide) (.here)) (.cons .ro .nil)) (Adh (n + 8) (by omega) (Aj (Aj (Ak (A4 z16t4 (((((((A6 p.fClean 2) + (A6 p.fHasWill 4)) + (8 * p.fWQos)) + (A6 p.fWRetain 32)) + (A6 p.fHasPass 64)) + (A6 p.fHasUser 128)) % 256)) p.fKeep) p.fClient) p.fWTopic) p.fWBody (by omega) hb1) (Cx (Cw (Aj (Aj (Ak (A4 z16t4 (((((((A6 p.fClean 2) + (A6 p.fHasWill 4)) + (8 * p.fWQos)) + (A6 p.fWRetain 32)) + (A6 p.fHasPass 64)) + (A6 p.fHasUser 128)) % 256)) p.fKeep) p.fClient) p.fWTopic) p.fWBody)) fun x53 H lx53 s54 => ?_
 have e55 : Gr f16t3 (C4 p (C1 p (Dr p (Eu p (Aj (Ak (A4 z16t4 (Dy p % 256)) p.fKeep) p.fClient))))) = Gr f16t3 (C4 p (C1 p (Dr p (Cw (Aj (Aj (Ak (A4 z16t4 (((((((A6 p.fClean 2) + (A6 p.fHasWill 4)) + (8 * p.fWQos)) + (A6 p.fWRetain 32)) + (A6 p.fHasPass 64)) + (A6 p.fHasUser 128)) % 256)) p.fKeep) p.fClient) p.fWTopic) p.fWBody)))) := by
  simp only [Cs] at h15
  simp only [C4, Ev, Gq, Eu, Dr, C1, Dy, F9, h3, h15, h48, if_true, if_false, zaa]
 rw [e55]
 exact hj32 x53 (Cw (Aj (Aj (Ak (A4 z16t4 (((((((A6 p.fClean 2) + (A6 p.fHasWill 4)) + (8 * p.fWQos)) + (A6 p.fWRetain 32)) + (A6 p.fHasPass 64)) + (A6 p.fHasUser 128)) % 256)) p.fKeep) p.fClient) p.fWTopic) p.fWBody) f16t3 _ lx53 (by omega) (s54.sel (.cons (.here) (.cons Ma .nil)))
 refine Au h48 ?_
 have e56 : Gr f16t3 (C4 p (C1 p (Dr p (Eu p (Aj (Ak (A4 z16t4 (Dy p % 256)) p.fKeep) p.fClient))))) = Gr f16t3 (C4 p (C1 p (Dr p (Aj (Ak (A4 z16t4 (((((((A6 p.fClean 2) + (A6 p.fHasWill 4)) + (8 * p.fWQos)) + (A6 p.fWRetain 32)) + (A6 p.fHasPass 64)) + (A6 p.fHasUser 128)) % 256)) p.fKeep) p.fClient)))) := by
  simp only [Cs] at h15
  simp only [C4, Ev, Gq, Eu, Dr, C1, Dy, F9, h3, h15, h48, if_true, if_false, zaa]
 rw [e56]
 exact hj32 x30 (Aj (Ak (A4 z16t4 (((((((A6 p.fClean 2) + (A6 p.fHasWill 4)) + (8 * p.fWQos)) + (A6 p.fWRetain 32)) + (A6 p.fHasPass 64)) + (A6 p.fHasUser 128)) % 256)) p.fKeep) p.fClient) f16t3 _ lx30 (by omega) (s31.sel (.cons (.here) (.cons C7 .nil)))
 refine Gd.bothE ?_ ?_
 have z57 := Cl bs0 mqtt
 simp only [Av, At, Bc, zah] at z57
 refine B7 s2 rfl (.cons .nl (.cons .sc .nil)) (K9 (n + 5) (by omega) bs0 mqtt (by (simp only [Av, At, Bc, zah]; omega)) (by decide)) (Cx (Aj bs0 mqtt)) fun x58 H lx58 s59 => Bb (cs := [.sc (.int .u8 (p.fLevel % 256))]) rfl (B9 s59 fun i60 H s61 => E4 (s := (Aj bs0 mqtt)) (z := (p.fLevel % 256)) s61 Cn (.here) ⟨_, _, rfl, rfl, rfl, rfl⟩ rfl (by omega) fun x62 H lx62 s63 => ?_)
 have e64 : Fv p = Gr (16 * p.fType) (C4 p (C1 p (Dr p (Eu p (Aj (Ak (A4 (A4 (Aj bs0 mqtt) (p.fLevel % 256)) (Dy p % 256)) p.fKeep) p.fClient))))) := by
  simp only [Cs] at h15
  rw [Ahr h3 h15]; (rfl)
 rw [e64]
 exact hj16 x62 (A4 (Aj bs0 mqtt) (p.fLevel % 256)) (16 * p.fType) _ lx62 (by (simp only [Av, At, Bc, zah]; omega)) (s63.sel (.cons (.here) (.cons (.here) .nil)))
 refine Bb (cs := [su (p.fLevel % 256)]) rfl (B9 s2 fun i65 H s66 => ?_)
 have z67 := Cl bs0 mqtt
 simp only [Av, At, Bc, zah] at z67
 refine B7 s66 rfl (.cons .nl (.cons .sc .nil)) (K9 (n + 5) (by omega) bs0 mqtt (by (simp only [Av, At, Bc, zah]; omega)) (by decide)) (Cx (Aj bs0 mqtt)) fun x68 H lx68 s69 => E4 (s := (Aj bs0 mqtt)) (z := (p.fLevel % 256)) s69 (.here) (.here) ⟨_, _, rfl, rfl, rfl, rfl⟩ rfl (by omega) fun x70 H lx70 s71 => ?_
 have e72 : Fv p = Gr (16 * p.fType) (C4 p (C1 p (Dr p (Eu p (Aj (Ak (A4 (A4 (Aj bs0 mqtt) (p.fLevel % 256)) (Dy p % 256)) p.fKeep) p.fClient))))) := by
  simp only [Cs] at h15
  rw [Ahr h3 h15]; (rfl)
 rw [e72]
 exact hj16 x70 (A4 (Aj bs0 mqtt) (p.fLevel % 256)) (16 * p.fType) _ lx70 (by (simp only [Av, At, Bc, zah]; omega)) (s71.sel (.cons (.here) (.cons (.here) .nil)))
 refine Au h15 (Ba (Aa ((decide (p.fType = 2))) (fun h73 => ?_) fun h73 => ?_))
 refine Ap h73 (Wi (Ao (c := sb p.fPresent) s2 (.here) rfl (Q9 (Ao (c := si p.fCode) s2 (.here) rfl (Fq (IntKind.wrap_u8 _) ?_)))))
 have q74 := Gt p.fPresent 1 (by decide)
 refine Ar (v := (.int .i64 (A6 p.fPresent 1))) s2 rfl (Im .nil) (T1 (n + 9) p.fPresent 1) (Fq (IntKind.wrap_u8 _) (Bb (cs := [su ((A6 p.fPresent 1) % 256), su (p.fCode % 256)]) rfl (B9 s2 fun i75 H s76 => ?_)))
 have s77 := s76.nl (ty := 22) ⟨_, _, rfl, rfl⟩
 refine Um (s := bs0) (z := ((A6 p.fPresent 1) % 256)) (w := (p.fCode % 256)) s77 (.here) (.here) ⟨_, _, rfl, rfl, rfl, rfl⟩ (by (simp only [Av, Bc]; omega)) fun x78 H lx78 s79 => ?_
 have e80 : Fv p = Gr (16 * p.fType) (C4 p (A4 (A4 bs0 ((A6 p.fPresent 1) % 256)) (p.fCode % 256))) := by
  simp only [Cs] at h15 h73
  rw [AlY h3 h73]
 rw [e80]
 exact hj4 x78 (A4 (A4 bs0 ((A6 p.fPresent 1) % 256)) (p.fCode % 256)) (16 * p.fType) _ lx78 (by (simp only [Av, At, Bc, zah]; omega)) (s79.sel (.cons (.here) (.cons (.here) .nil)))
 refine Au h73 (Ba (Aa ((decide (p.fType = 3))) (fun h81 => ?_) fun h81 => ?_))
 refine Ap h81 (Wd (Ao (c := sb p.fDup) s2 (.here) rfl (Ox (Ao (c := si p.fQos) s2 (.here) rfl (Rz (by omega) (by omega) (gf3 (Ao (c := sb p.fRetain) s2 (.here) rfl ?_)))))))
 have q82 := Gt p.fDup 8 (by decide)
 refine Ar (v := (.int .i64 (A6 p.fDup 8))) s2 rfl (Im .nil) (T1 (n + 9) p.fDup 8) (Bw (by omega) (by omega) (Bw (by omega) (by omega) ?_))
 have q83 := Gt p.fRetain 1 (by decide)
 refine Ar (v := (.int .i64 (A6 p.fRetain 1))) s2 rfl (Im .nil) (T1 (n + 9) p.fRetain 1) (Bw (by omega) (by omega) (gf5 (Ao (c := ss p.fTopic) s2 (.here) rfl ?_)))
 have z84 := Cl bs0 p.fTopic
 simp only [Av, At, Bc, zah] at z84
 refine B7 s2 rfl (.cons .nl (.cons .sc .nil)) (K9 (n + 5) (by omega) bs0 p.fTopic (by (simp only [Av, At, Bc, zah]; omega)) hp.t1) (Cx (Aj bs0 p.fTopic)) fun x85 H lx85 s86 => Ox (Ao (c := .sc (.int .i64 p.fQos)) s86 Cn rfl (Eb (N6 (P := fun j => ∀ (x87 : AV) (z87t4 : ByteArray) (f87t3 : Int) (H : Ab), Bk x87 = true → (z87t4.size ≤ 200) → Sep H [.own x87 22 (Ad z87t4), .blk i1 (An p) true] → Gd (· = some (Ad (Gr f87t3 (C4 p (z87t4 ++ p.fBody))))) (j (.ptr i1 0) (.sc (.int .i64 f87t3)) x87 H)) ?_ fun j87 hj87 => ?_)))
 intro x87 z87t4 f87t3 H lx87 hz870 s88
 refine gf6 (Ao (c := Ad p.fBody) s88 Cn rfl (Rw (s := z87t4) s88 ⟨_, _, rfl, rfl, rfl, rfl⟩ (.here) Uv (by omega) fun x89 H lx89 s90 => ?_))
 have e91 : Gr f87t3 (C4 p (z87t4 ++ p.fBody)) = Gr f87t3 (C4 p (z87t4 ++ p.fBody)) := by
  simp only [Cs] at h15 h73 h81
  rfl
 rw [e91]
 exact hj4 x89 (z87t4 ++ p.fBody) f87t3 _ lx89 (by (simp only [Av, At, Bc, zah]; omega)) (s90.sel (.cons (.here) (.cons (.here) .nil)))
 refine Aa ((decide (0 < p.fQos))) (fun h92 => ?_) fun h92 => ?_
 refine Ap h92 (Ig (Ao (c := si p.fId) s86 Cn rfl (B7 s86 rfl (.cons (.own (by decide) (.here)) (.cons .sc .nil)) (Sr (n + 9) (by omega) (Aj bs0 p.fTopic) p.fId (by omega)) (Cx (Ak (Aj bs0 p.fTopic) p.fId)) fun x93 H lx93 s94 => ?_)))
 have e95 : Fv p = Gr ((((16 * p.fType) + (A6 p.fDup 8)) + (2 * p.fQos)) + (A6 p.fRetain 1)) (C4 p ((Ak (Aj bs0 p.fTopic) p.fId) ++ p.fBody)) := by
  simp only [Cs] at h15 h73 h81 h92
  rw [Ahs h3 h81]; ((simp only [C4, Ev, Gq, Eu, Dr, C1, Dy, F9, h3, h15, h73, h81, h92, if_true, if_false, zaa]; done))
 rw [e95]
 exact hj87 x93 (Ak (Aj bs0 p.fTopic) p.fId) ((((16 * p.fType) + (A6 p.fDup 8)) + (2 * p.fQos)) + (A6 p.fRetain 1)) _ lx93 (by (simp only [Av, At, Bc, zah]; omega)) (s94.sel (.cons (.here) (.cons Cn .nil)))
 refine Au h92 ?_
 have e96 : Fv p = Gr ((((16 * p.fType) + (A6 p.fDup 8)) + (2 * p.fQos)) + (A6 p.fRetain 1)) (C4 p ((Aj bs0 p.fTopic) ++ p.fBody)) := by
  simp only [Cs] at h15 h73 h81 h92
  rw [Ahs h3 h81]; ((simp only [C4, Ev, Gq, Eu, Dr, C1, Dy, F9, h3, h15, h73, h81, h92, if_true, if_false, zaa]; done))
 rw [e96]
 exact hj87 x85 (Aj bs0 p.fTopic) ((((16 * p.fType) + (A6 p.fDup 8)) + (2 * p.fQos)) + (A6 p.fRetain 1)) _ lx85 (by omega) (s86.sel (.cons (.here) (.cons (.here) .nil)))
 refine Au h81 (Ba (C8 (Aa ((decide (p.fType = 6))) (fun h97 => ?_) fun h97 => ?_)))
 refine Ap h97 (Ap h97 (Bw (by omega) (by omega) ?_))
 have s98 := s2.nl (ty := 22) ⟨_, _, rfl, rfl⟩
 have e99 : Fv p = Gr ((16 * p.fType) + 2) (C4 p bs0) := by
  clear hj4 s0 s2 s98
  simp only [Cs] at h15 h73 h81 h97
  exact Z7 h3 h15 h73 h81 (by unfold Cp; (repeat' split) <;> omega)
 rw [e99]
 exact hj4 .nl bs0 ((16 * p.fType) + 2) _ rfl (by (simp only [Av, At, Bc, zah]; omega)) (s98.sel (.cons (.here) (.cons (.here) .nil)))
 refine Au h97 (Ba (Aa ((decide (p.fType = 8))) (fun h100 => ?_) fun h100 => ?_))
 refine Ap h100 (Ap h100 (Bw (by omega) (by omega) ?_))
 have s101 := s2.nl (ty := 22) ⟨_, _, rfl, rfl⟩
 have e102 : Fv p = Gr ((16 * p.fType) + 2) (C4 p bs0) := by
  clear hj4 s0 s2 s101
  simp only [Cs] at h15 h73 h81 h97 h100
  exact Z7 h3 h15 h73 h81 (by unfold Cp; (repeat' split) <;> omega)
 rw [e102]
 exact hj4 .nl bs0 ((16 * p.fType) + 2) _ rfl (by (simp only [Av, At, Bc, zah]; omega)) (s101.sel (.cons (.here) (.cons (.here) .nil)))
 refine Au h100 (Ba (Aa ((decide (p.fType = 10))) (fun h103 => ?_) fun h103 => ?_))
 refine Ap h103 (Bw (by omega) (by omega) ?_)
 have s104 := s2.nl (ty := 22) ⟨_, _, rfl, rfl⟩
 have e105 : Fv p = Gr ((16 * p.fType) + 2) (C4 p bs0) := by
  clear hj4 s0 s2 s104
  simp only [Cs] at h15 h73 h81 h97 h100 h103
  exact Z7 h3 h15 h73 h81 (by unfold Cp; (repeat' split) <;> omega)
 rw [e105]
 exact hj4 .nl bs0 ((16 * p.fType) + 2) _ rfl (by (simp only [Av, At, Bc, zah]; omega)) (s104.sel (.cons (.here) (.cons (.here) .nil)))
 refine Au h103 ?_
 have s106 := s2.nl (ty := 22) ⟨_, _, rfl, rfl⟩
 have e107 : Fv p = Gr (16 * p.fType) (C4 p bs0) := by
  clear hj4 s0 s2 s106
  simp only [Cs] at h15 h73 h81 h97 h100 h103
  exact Z7 h3 h15 h73 h81 (by unfold Cp; (repeat' split) <;> omega)
 rw [e107]
 exact hj4 .nl bs0 (16 * p.fType) _ rfl (by (simp only [Av, At, Bc, zah]; omega)) (s106.sel (.cons (.here) (.cons (.here) .nil)))
 refine Ap (nT h3) ?_
 have s108 := s2.nl (ty := 22) ⟨_, _, rfl, rfl⟩
 refine Al (Da s108 .here) ?_
 have e : Fv p = bs0 := by
  simp only [Fv, Gr, Hl, h3, if_true, if_false, zaa]
 rw [e]
 rfl
end
end Go.Proofs.YtlcpigdmekgajaaGreatDoor.Abs
