/- What the proof needs, part 4: a sound evaluator over trees, the program's functions on it, and what they come to. -/
import Derived.Test.YtlcpigdmekgajaaGreatDoorZrc
import Derived.Laws.BitsLemmas
set_option linter.unusedVariables false
set_option linter.unusedSimpArgs false
set_option maxRecDepth 100000
set_option maxHeartbeats 3200000
namespace Go.Proofs.YtlcpigdmekgajaaGreatDoor.Abs
open _root_.Bool renaming false_eq_true → zaa, and_eq_true → zag, not_true → zaw, not_false → za0, true_and → zaA, false_or → zaB, false_and → zaF, and_true → zaI, or_eq_true → zaN, or_false → zaX, true_or → zbe, or_true → zbj
open _root_.Option renaming bind_some → zac
open _root_.List renaming length_append → zae, append_assoc → zaf, replicate → zaj, nil_append → zal, append_nil → zan, length_cons → zao, all_cons → zap, map_cons → zaq, length_singleton → zas, mem_cons_of_mem → zau, length_nil → zav, mem_cons_self → zax, cons_append → zaz, flatten_cons → za1, map_append → za4, all_nil → za6, map_nil → zaC, mapM_cons → zaG, mem_append → zaR, mem_singleton → zbl, drop_drop → zbp, getD_eq_getElem?_getD → zbt
open _root_.ByteArray renaming size_append → zak, size_extract → zat, data_append → zbw, size → zbD, data_push → zbE
open _root_.Nat renaming le_refl → zam, zero_le → zay, le_trans → za5, mul_one → zbx, add_mul → zbH
open _root_.Array renaming ext' → zbd
open _root_.Int renaming tmod_eq_emod_of_nonneg → za9, eq_ofNat_of_zero_le → zbo, toNat_natCast → zbq, add_comm → zbK
section
open Go
def Ce (t : Int) : PacketV := ⟨t, false, 0, false, 0, ⟨#[]⟩, ⟨#[]⟩, ⟨#[]⟩, 0, false, 0, false, ⟨#[]⟩, ⟨#[]⟩, 0, false, false, ⟨#[]⟩, false, ⟨#[]⟩, 0, false, [], [], []⟩
def D3 (p q : PacketV) : PacketV := if p.fHasWill then { q with fHasWill := true, fWTopic := p.fWTopic, fWBody := p.fWBody, fWQos := p.fWQos, fWRetain := p.fWRetain } else q
def D2 (p q : PacketV) : PacketV := if p.fHasUser then (if p.fHasPass then { q with fHasUser := true, fUser := p.fUser, fHasPass := true, fPass := p.fPass } else { q with fHasUser := true, fUser := p.fUser }) else q
def Az (pc : Bool) (p : PacketV) : PacketV :=
 if p.fType = 1 then D2 p (D3 p { Ce p.fType with fClient := p.fClient, fLevel := p.fLevel, fClean := p.fClean, fKeep := p.fKeep })
 else if p.fType = 2 then { Ce p.fType with fCode := p.fCode, fPresent := p.fPresent && (!pc || decide (p.fCode = 0)) }
 else if p.fType = 3 then (if 0 < p.fQos then { Ce p.fType with fQos := p.fQos, fRetain := p.fRetain, fTopic := p.fTopic, fBody := p.fBody, fDup := p.fDup, fId := p.fId } else { Ce p.fType with fQos := p.fQos, fRetain := p.fRetain, fTopic := p.fTopic, fBody := p.fBody })
 else if p.fType = 4 ∨ p.fType = 5 ∨ p.fType = 6 ∨ p.fType = 7 ∨ p.fType = 11 then { Ce p.fType with fId := p.fId }
 else if p.fType = 8 then { Ce p.fType with fId := p.fId, fWants := p.fWants }
 else if p.fType = 9 then { Ce p.fType with fId := p.fId, fCodes := p.fCodes }
 else if p.fType = 10 then { Ce p.fType with fId := p.fId, fNames := p.fNames }
 else Ce p.fType
theorem Vp (n : Nat) (hn : 1048576 < n) (p : PacketV) {β : Type} {G : Option β → Prop} {KH : KO β} {H : Ad} {L : List Ck} (s0 : Sep H (L)) (hk : ∀ raw H', (∀ L', VwL L' 7 raw (Ar (Az false p))) → Sep H' L → Gd G (KH (.agg raw) H')) : Gd G (Ej E0 (n + 1) β 105 [.agg (Ar p)] H fun x H => KH x H) := by
 rw [Ahr, f105]
 try simp only [Gw, F8, B6, Ba, D9, A4, Av, Ct, Aek, Ahb]
 refine Od s0 (G6 (Cy _)) fun i1 H s2 => I6 s2 fun i3 H s4 => Ab (o' := 0) rfl (Ap (c := si p.fType) s4 C0 rfl (Bg (cs := [si p.fType, bF, i0, bF, i0, sE, .nl, sE, i0, bF, i0, bF, sE, .nl, i0, bF, bF, sE, bF, .nl, i0, bF, .nl, .nl, .nl]) rfl (I6 s4 fun i5 H s6 => Ci (cs' := [si p.fType, bF, i0, bF, i0, sE, .nl, sE, i0, bF, i0, bF, sE, .nl, i0, bF, bF, sE, bF, .nl, i0, bF, .nl, .nl, .nl]) s6 (.here) (Ak rfl) rfl (Cn rfl) rfl fun H s7 => Ab (o' := 0) rfl (Ap (c := si p.fType) s7 Dj rfl (Be (Aa ((decide (p.fType = 1))) (fun h8 => ?_) (fun h8 => ?_)))))))
 refine As h8 (Ab (o' := 7) rfl (Ap (c := ss p.fClient) s7 Dj rfl (Ab (o' := 8) rfl (Ab (o' := 9) rfl (Ab (o' := 10) rfl (Ab (o' := 11) rfl (Ab (o' := 16) rfl (Ab (o' := 7) rfl (Gb s7 Dj (Zj (.here)) (Ap (c := si p.fLevel) s7 Dj rfl (Gb s7 Dj (Zj (.here)) (Ap (c := sb p.fClean) s7 Dj rfl (Gb s7 Dj (Zj (.here)) (Ap (c := si p.fKeep) s7 Dj rfl (Gb s7 Dj (Zj (.here)) (Ap (c := sb p.fHasWill) s7 Dj rfl (Gb s7 Dj (Zj (.here)) (Ap (c := sb p.fHasUser) s7 Dj rfl (Hv (A6 s7 (.here) rfl rfl fun H s9 => Ab (o' := 8) rfl (Hv (A6 s9 (.here) rfl rfl fun H s10 => Ab (o' := 9) rfl (Hv (A6 s10 (.here) rfl rfl fun H s11 => Ab (o' := 10) rfl (Hv (A6 s11 (.here) rfl rfl fun H s12 => Ab (o' := 11) rfl (Hv (A6 s12 (.here) rfl rfl fun H s13 => Ab (o' := 16) rfl (A6 s13 (.here) rfl rfl fun H s14 => Ab (o' := 11) rfl (Ap (c := sb p.fHasWill) s14 Dj rfl (Di (Aa (p.fHasWill) (fun h15 => ?_) (fun h15 => ?_)))))))))))))))))))))))))))))))))
 refine As h15 (Ab (o' := 12) rfl (Ap (c := ss p.fWTopic) s14 Dj rfl (Ab (o' := 13) rfl (Ab (o' := 14) rfl (Ab (o' := 15) rfl (Ab (o' := 12) rfl (Gb s14 Dj (Zj (.here)) (Ap (c := Ag p.fWBody) s14 Dj rfl (Gb s14 Dj (Zj (.here)) (Ap (c := si p.fWQos) s14 Dj rfl (Gb s14 Dj (Zj (.here)) (Ap (c := sb p.fWRetain) s14 Dj rfl (Hv (A6 s14 (.here) rfl rfl fun H s16 => Ab (o' := 13) rfl (Hv (A6 s16 (.here) rfl rfl fun H s17 => Ab (o' := 14) rfl (Hv (A6 s17 (.here) rfl rfl fun H s18 => Ab (o' := 15) rfl (A6 s18 (.here) rfl rfl fun H s19 => Ab (o' := 16) rfl (Ap (c := sb p.fHasUser) s19 Dj rfl (Di (Aa (p.fHasUser) (fun h20 => ?_) (fun h20 => ?_)))))))))))))))))))))))
 refine As h20 (Ab (o' := 17) rfl (Ap (c := ss p.fUser) s19 Dj rfl (Ab (o' := 18) rfl (Ab (o' := 17) rfl (Gb s19 Dj (Zj (.here)) (Ap (c := sb p.fHasPass) s19 Dj rfl (Hv (A6 s19 (.here) rfl rfl fun H s21 => Ab (o' := 18) rfl (A6 s21 (.here) rfl rfl fun H s22 => Ab (o' := 18) rfl (Ap (c := sb p.fHasPass) s22 (.here) rfl (Aa (p.fHasPass) (fun h23 => ?_) (fun h23 => ?_))))))))))))
 refine As h23 (Ab (o' := 19) rfl (Ap (c := Ag p.fPass) s22 Dj rfl (Ab (o' := 19) rfl (A6 s22 (.here) rfl rfl fun H s24 => At s24 (.here) rfl (Ci (cs' := [si p.fType, bF, i0, bF, i0, sE, .nl, ss p.fClient, si p.fLevel, sb p.fClean, si p.fKeep, sb p.fHasWill, ss p.fWTopic, Ag p.fWBody, si p.fWQos, sb p.fWRetain, sb p.fHasUser, ss p.fUser, sb p.fHasPass, Ag p.fPass, i0, bF, .nl, .nl, .nl]) s24 C0 (Ak rfl) rfl (Cn rfl) rfl fun H s25 => At s25 (.here) rfl ?_)))))
 have e : Az false p = (⟨p.fType, false, 0, false, 0, ⟨#[]⟩, ⟨#[]⟩, p.fClient, p.fLevel, p.fClean, p.fKeep, p.fHasWill, p.fWTopic, p.fWBody, p.fWQos, p.fWRetain, p.fHasUser, p.fUser, p.fHasPass, p.fPass, 0, false, [], [], []⟩ : PacketV) := by
  simp only [Cm] at h8 h15 h20 h23
  simp [Az, D3, D2, Ce, h8, h15, h20, h23]
 rw [e] at hk
 exact hk _ _ (fun L' => (Gl (.cons .nl (Gl (.cons .ro (L8 (.cons .ro (Ir (.cons .nl (.cons .nl (.cons .nl .nil))))))))))) s25.tail.tail.tail
 refine Ax h23 (At s22 (.here) rfl (Ci (cs' := [si p.fType, bF, i0, bF, i0, sE, .nl, ss p.fClient, si p.fLevel, sb p.fClean, si p.fKeep, sb p.fHasWill, ss p.fWTopic, Ag p.fWBody, si p.fWQos, sb p.fWRetain, sb p.fHasUser, ss p.fUser, sb p.fHasPass, .nl, i0, bF, .nl, .nl, .nl]) s22 C0 (Ak rfl) rfl (Cn rfl) rfl fun H s26 => At s26 (.here) rfl ?_))
 have e : Az false p = (⟨p.fType, false, 0, false, 0, ⟨#[]⟩, ⟨#[]⟩, p.fClient, p.fLevel, p.fClean, p.fKeep, p.fHasWill, p.fWTopic, p.fWBody, p.fWQos, p.fWRetain, p.fHasUser, p.fUser, p.fHasPass, ⟨#[]⟩, 0, false, [], [], []⟩ : PacketV) := by
  simp only [Cm] at h8 h15 h20 h23
  simp [Az, D3, D2, Ce, h8, h15, h20, h23]
 rw [e] at hk
 exact hk _ _ (fun L' => (Gl (.cons .nl (Gl (.cons .ro (L8 (.cons .nl (Ir (.cons .nl (.cons .nl (.cons .nl .nil))))))))))) s26.tail.tail.tail
 refine Ax h20 (Ab (o' := 18) rfl (Ap (c := bF) s19 (.here) rfl (Ax rfl (At s19 (.here) rfl (Ci (cs' := [si p.fType, bF, i0, bF, i0, sE, .nl, ss p.fClient, si p.fLevel, sb p.fClean, si p.fKeep, sb p.fHasWill, ss p.fWTopic, Ag p.fWBody, si p.fWQos, sb p.fWRetain, sb p.fHasUser, sE, bF, .nl, i0, bF, .nl, .nl, .nl]) s19 C0 (Ak rfl) rfl (Cn rfl) rfl fun H s27 => At s27 (.here) rfl ?_)))))
 have e : Az false p = (⟨p.fType, false, 0, false, 0, ⟨#[]⟩, ⟨#[]⟩, p.fClient, p.fLevel, p.fClean, p.fKeep, p.fHasWill, p.fWTopic, p.fWBody, p.fWQos, p.fWRetain, p.fHasUser, ⟨#[]⟩, false, ⟨#[]⟩, 0, false, [], [], []⟩ : PacketV) := by
  simp only [Cm] at h8 h15 h20
  simp [Az, D3, D2, Ce, h8, h15, h20]
 rw [e] at hk
 exact hk _ _ (fun L' => (Gl (.cons .nl (Gl (.cons .ro (L8 (.cons .nl (Ir (.cons .nl (.cons .nl (.cons .nl .nil))))))))))) s27.tail.tail.tail
 refine Ax h15 (Ab (o' := 16) rfl (Ap (c := sb p.fHasUser) s14 Dj rfl (Di (Aa (p.fHasUser) (fun h28 => ?_) (fun h28 => ?_)))))
 refine As h28 (Ab (o' := 17) rfl (Ap (c := ss p.fUser) s14 Dj rfl (Ab (o' := 18) rfl (Ab (o' := 17) rfl (Gb s14 Dj (Zj (.here)) (Ap (c := sb p.fHasPass) s14 Dj rfl (Hv (A6 s14 (.here) rfl rfl fun H s29 => Ab (o' := 18) rfl (A6 s29 (.here) rfl rfl fun H s30 => Ab (o' := 18) rfl (Ap (c := sb p.fHasPass) s30 (.here) rfl (Aa (p.fHasPass) (fun h31 => ?_) (fun h31 => ?_))))))))))))
 refine As h31 (Ab (o' := 19) rfl (Ap (c := Ag p.fPass) s30 Dj rfl (Ab (o' := 19) rfl (A6 s30 (.here) rfl rfl fun H s32 => At s32 (.here) rfl (Ci (cs' := [si p.fType, bF, i0, bF, i0, sE, .nl, ss p.fClient, si p.fLevel, sb p.fClean, si p.fKeep, sb p.fHasWill, sE, .nl, i0, bF, sb p.fHasUser, ss p.fUser, sb p.fHasPass, Ag p.fPass, i0, bF, .nl, .nl, .nl]) s32 C0 (Ak rfl) rfl (Cn rfl) rfl fun H s33 => At s33 (.here) rfl ?_)))))
 have e : Az false p = (⟨p.fType, false, 0, false, 0, ⟨#[]⟩, ⟨#[]⟩, p.fClient, p.fLevel, p.fClean, p.fKeep, p.fHasWill, ⟨#[]⟩, ⟨#[]⟩, 0, false, p.fHasUser, p.fUser, p.fHasPass, p.fPass, 0, false, [], [], []⟩ : PacketV) := by
  simp only [Cm] at h8 h15 h28 h31
  simp [Az, D3, D2, Ce, h8, h15, h28, h31]
 rw [e] at hk
 exact hk _ _ (fun L' => (Gl (.cons .nl (Gl (.cons .nl (L8 (.cons .ro (Ir (.cons .nl (.cons .nl (.cons .nl .nil))))))))))) s33.tail.tail.tail
 refine Ax h31 (At s30 (.here) rfl (Ci (cs' := [si p.fType, bF, i0, bF, i0, sE, .nl, ss p.fClient, si p.fLevel, sb p.fClean, si p.fKeep, sb p.fHasWill, sE, .nl, i0, bF, sb p.fHasUser, ss p.fUser, sb p.fHasPass, .nl, i0, bF, .nl, .nl, .nl]) s30 C0 (Ak rfl) rfl (Cn rfl) rfl fun H s34 => At s34 (.here) rfl ?_))
 have e : Az false p = (⟨p.fType, false, 0, false, 0, ⟨#[]⟩, ⟨#[]⟩, p.fClient, p.fLevel, p.fClean, p.fKeep, p.fHasWill, ⟨#[]⟩, ⟨#[]⟩, 0, false, p.fHasUser, p.fUser, p.fHasPass, ⟨#[]⟩, 0, false, [], [], []⟩ : PacketV) := by
  simp only [Cm] at h8 h15 h28 h31
  simp [Az, D3, D2, Ce, h8, h15, h28, h31]
 rw [e] at hk
 exact hk _ _ (fun L' => (Gl (.cons .nl (Gl (.cons .nl (L8 (.cons .nl (Ir (.cons .nl (.cons .nl (.cons .nl .nil))))))))))) s34.tail.tail.tail
 refine Ax h28 (Ab (o' := 18) rfl (Ap (c := bF) s14 (.here) rfl (Ax rfl (At s14 (.here) rfl (Ci (cs' := [si p.fType, bF, i0, bF, i0, sE, .nl, ss p.fClient, si p.fLevel, sb p.fClean, si p.fKeep, sb p.fHasWill, sE, .nl, i0, bF, sb p.fHasUser, sE, bF, .nl, i0, bF, .nl, .nl, .nl]) s14 C0 (Ak rfl) rfl (Cn rfl) rfl fun H s35 => At s35 (.here) rfl ?_)))))
 have e : Az false p = (⟨p.fType, false, 0, false, 0, ⟨#[]⟩, ⟨#[]⟩, p.fClient, p.fLevel, p.fClean, p.fKeep, p.fHasWill, ⟨#[]⟩, ⟨#[]⟩, 0, false, p.fHasUser, ⟨#[]⟩, false, ⟨#[]⟩, 0, false, [], [], []⟩ : PacketV) := by
  simp only [Cm] at h8 h15 h28
  simp [Az, D3, D2, Ce, h8, h15, h28]
 rw [e] at hk
 exact hk _ _ (fun L' => (Gl (.cons .nl (Gl (.cons .nl (L8 (.cons .nl (Ir (.cons .nl (.cons .nl (.cons .nl .nil))))))))))) s35.tail.tail.tail
 refine Ax h8 (Be (Aa ((decide (p.fType = 2))) (fun h36 => ?_) (fun h36 => ?_)))
 refine As h36 (Ab (o' := 20) rfl (Ap (c := si p.fCode) s7 Dj rfl (Ab (o' := 21) rfl (Ab (o' := 20) rfl (Gb s7 Dj (Zj (.here)) (Ap (c := sb p.fPresent) s7 Dj rfl (Hv (A6 s7 (.here) rfl rfl fun H s37 => Ab (o' := 21) rfl (A6 s37 (.here) rfl rfl fun H s38 => At s38 (.here) rfl (Ci (cs' := [si p.fType, bF, i0, bF, i0, sE, .nl, sE, i0, bF, i0, bF, sE, .nl, i0, bF, bF, sE, bF, .nl, si p.fCode, sb p.fPresent, .nl, .nl, .nl]) s38 C0 (Ak rfl) rfl (Cn rfl) rfl fun H s39 => At s39 (.here) rfl ?_))))))))))
 have e : Az false p = (⟨p.fType, false, 0, false, 0, ⟨#[]⟩, ⟨#[]⟩, ⟨#[]⟩, 0, false, 0, false, ⟨#[]⟩, ⟨#[]⟩, 0, false, false, ⟨#[]⟩, false, ⟨#[]⟩, p.fCode, p.fPresent, [], [], []⟩ : PacketV) := by
  simp only [Cm] at h8 h36
  simp [Az, D3, D2, Ce, h8, h36]
 rw [e] at hk
 exact hk _ _ (fun L' => (Gl (.cons .nl (Gl (.cons .nl (L8 (.cons .nl (Ir (.cons .nl (.cons .nl (.cons .nl .nil))))))))))) s39.tail.tail.tail
 refine Ax h36 (Be (Aa ((decide (p.fType = 3))) (fun h40 => ?_) (fun h40 => ?_)))
 refine As h40 (Ab (o' := 2) rfl (Ap (c := si p.fQos) s7 Dj rfl (Ab (o' := 3) rfl (Ab (o' := 5) rfl (Ab (o' := 6) rfl (Ab (o' := 2) rfl (Gb s7 Dj (Zj (.here)) (Ap (c := sb p.fRetain) s7 Dj rfl (Gb s7 Dj (Zj (.here)) (Ap (c := ss p.fTopic) s7 Dj rfl (Gb s7 Dj (Zj (.here)) (Ap (c := Ag p.fBody) s7 Dj rfl (Hv (A6 s7 (.here) rfl rfl fun H s41 => Ab (o' := 3) rfl (Hv (A6 s41 (.here) rfl rfl fun H s42 => Ab (o' := 5) rfl (Hv (A6 s42 (.here) rfl rfl fun H s43 => Ab (o' := 6) rfl (A6 s43 (.here) rfl rfl fun H s44 => Ab (o' := 2) rfl (Ap (c := si p.fQos) s44 Dj rfl (Er (Aa ((decide (0 < p.fQos))) (fun h45 => ?_) (fun h45 => ?_)))))))))))))))))))))))
 refine As h45 (Ab (o' := 1) rfl (Ap (c := sb p.fDup) s44 Dj rfl (Ab (o' := 4) rfl (Ab (o' := 1) rfl (Gb s44 Dj (Zj (.here)) (Ap (c := si p.fId) s44 Dj rfl (Hv (A6 s44 (.here) rfl rfl fun H s46 => Ab (o' := 4) rfl (A6 s46 (.here) rfl rfl fun H s47 => At s47 (.here) rfl (Ci (cs' := [si p.fType, sb p.fDup, si p.fQos, sb p.fRetain, si p.fId, ss p.fTopic, Ag p.fBody, sE, i0, bF, i0, bF, sE, .nl, i0, bF, bF, sE, bF, .nl, i0, bF, .nl, .nl, .nl]) s47 C0 (Ak rfl) rfl (Cn rfl) rfl fun H s48 => At s48 (.here) rfl ?_))))))))))
 have e : Az false p = (⟨p.fType, p.fDup, p.fQos, p.fRetain, p.fId, p.fTopic, p.fBody, ⟨#[]⟩, 0, false, 0, false, ⟨#[]⟩, ⟨#[]⟩, 0, false, false, ⟨#[]⟩, false, ⟨#[]⟩, 0, false, [], [], []⟩ : PacketV) := by
  simp only [Cm] at h8 h36 h40 h45
  simp [Az, D3, D2, Ce, h8, h36, h40, h45]
 rw [e] at hk
 exact hk _ _ (fun L' => (Gl (.cons .ro (Gl (.cons .nl (L8 (.cons .nl (Ir (.cons .nl (.cons .nl (.cons .nl .nil))))))))))) s48.tail.tail.tail
 refine Ax h45 (At s44 (.here) rfl (Ci (cs' := [si p.fType, bF, si p.fQos, sb p.fRetain, i0, ss p.fTopic, Ag p.fBody, sE, i0, bF, i0, bF, sE, .nl, i0, bF, bF, sE, bF, .nl, i0, bF, .nl, .nl, .nl]) s44 C0 (Ak rfl) rfl (Cn rfl) rfl fun H s49 => At s49 (.here) rfl ?_))
 have e : Az false p = (⟨p.fType, false, p.fQos, p.fRetain, 0, p.fTopic, p.fBody, ⟨#[]⟩, 0, false, 0, false, ⟨#[]⟩, ⟨#[]⟩, 0, false, false, ⟨#[]⟩, false, ⟨#[]⟩, 0, false, [], [], []⟩ : PacketV) := by
  simp only [Cm] at h8 h36 h40 h45
  simp [Az, D3, D2, Ce, h8, h36, h40, h45]
 rw [e] at hk
 exact hk _ _ (fun L' => (Gl (.cons .ro (Gl (.cons .nl (L8 (.cons .nl (Ir (.cons .nl (.cons .nl (.cons .nl .nil))))))))))) s49.tail.tail.tail
 refine Ax h40 (Be (Di (Aa ((decide (p.fType = 4))) (fun h50 => ?_) (fun h50 => ?_))))
 refine As h50 (As h50 (Ab (o' := 4) rfl (Ap (c := si p.fId) s7 Dj rfl (Ab (o' := 4) rfl (A6 s7 (.here) rfl rfl fun H s51 => At s51 (.here) rfl (Ci (cs' := [si p.fType, bF, i0, bF, si p.fId, sE, .nl, sE, i0, bF, i0, bF, sE, .nl, i0, bF, bF, sE, bF, .nl, i0, bF, .nl, .nl, .nl]) s51 C0 (Ak rfl) rfl (Cn rfl) rfl fun H s52 => At s52 (.here) rfl ?_))))))
 have e : Az false p = (⟨p.fType, false, 0, false, p.fId, ⟨#[]⟩, ⟨#[]⟩, ⟨#[]⟩, 0, false, 0, false, ⟨#[]⟩, ⟨#[]⟩, 0, false, false, ⟨#[]⟩, false, ⟨#[]⟩, 0, false, [], [], []⟩ : PacketV) := by
  simp only [Cm] at h8 h36 h40 h50
  simp [Az, D3, D2, Ce, h8, h36, h40, h50]
 rw [e] at hk
 exact hk _ _ (fun L' => (Gl (.cons .nl (Gl (.cons .nl (L8 (.cons .nl (Ir (.cons .nl (.cons .nl (.cons .nl .nil))))))))))) s52.tail.tail.tail
 refine Ax h50 (Be (Aa ((decide (p.fType = 5))) (fun h53 => ?_) (fun h53 => ?_)))
 refine As h53 (As h53 (Ab (o' := 4) rfl (Ap (c := si p.fId) s7 Dj rfl (Ab (o' := 4) rfl (A6 s7 (.here) rfl rfl fun H s54 => At s54 (.here) rfl (Ci (cs' := [si p.fType, bF, i0, bF, si p.fId, sE, .nl, sE, i0, bF, i0, bF, sE, .nl, i0, bF, bF, sE, bF, .nl, i0, bF, .nl, .nl, .nl]) s54 C0 (Ak rfl) rfl (Cn rfl) rfl fun H s55 => At s55 (.here) rfl ?_))))))
 have e : Az false p = (⟨p.fType, false, 0, false, p.fId, ⟨#[]⟩, ⟨#[]⟩, ⟨#[]⟩, 0, false, 0, false, ⟨#[]⟩, ⟨#[]⟩, 0, false, false, ⟨#[]⟩, false, ⟨#[]⟩, 0, false, [], [], []⟩ : PacketV) := by
  simp only [Cm] at h8 h36 h40 h50 h53
  simp [Az, D3, D2, Ce, h8, h36, h40, h50, h53]
 rw [e] at hk
 exact hk _ _ (fun L' => (Gl (.cons .nl (Gl (.cons .nl (L8 (.cons .nl (Ir (.cons .nl (.cons .nl (.cons .nl .nil))))))))))) s55.tail.tail.tail
 refine Ax h53 (Be (Aa ((decide (p.fType = 6))) (fun h56 => ?_) (fun h56 => ?_)))
 refine As h56 (As h56 (Ab (o' := 4) rfl (Ap (c := si p.fId) s7 Dj rfl (Ab (o' := 4) rfl (A6 s7 (.here) rfl rfl fun H s57 => At s57 (.here) rfl (Ci (cs' := [si p.fType, bF, i0, bF, si p.fId, sE, .nl, sE, i0, bF, i0, bF, sE, .nl, i0, bF, bF, sE, bF, .nl, i0, bF, .nl, .nl, .nl]) s57 C0 (Ak rfl) rfl (Cn rfl) rfl fun H s58 => At s58 (.here) rfl ?_))))))
 have e : Az false p = (⟨p.fType, false, 0, false, p.fId, ⟨#[]⟩, ⟨#[]⟩, ⟨#[]⟩, 0, false, 0, false, ⟨#[]⟩, ⟨#[]⟩, 0, false, false, ⟨#[]⟩, false, ⟨#[]⟩, 0, false, [], [], []⟩ : PacketV) := by
  simp only [Cm] at h8 h36 h40 h50 h53 h56
  simp [Az, D3, D2, Ce, h8, h36, h40, h50, h53, h56]
 rw [e] at hk
 exact hk _ _ (fun L' => (Gl (.cons .nl (Gl (.cons .nl (L8 (.cons .nl (Ir (.cons .nl (.cons .nl (.cons .nl .nil))))))))))) s58.tail.tail.tail
 refine Ax h56 (Be (Aa ((decide (p.fType = 7))) (fun h59 => ?_) (fun h59 => ?_)))
 refine As h59 (As h59 (Ab (o' := 4) rfl (Ap (c := si p.fId) s7 Dj rfl (Ab (o' := 4) rfl (A6 s7 (.here) rfl rfl fun H s60 => At s60 (.here) rfl (Ci (cs' := [si p.fType, bF, i0, bF, si p.fId, sE, .nl, sE, i0, bF, i0, bF, sE, .nl, i0, bF, bF, sE, bF, .nl, i0, bF, .nl, .nl, .nl]) s60 C0 (Ak rfl) rfl (Cn rfl) rfl fun H s61 => At s61 (.here) rfl ?_))))))
 have e : Az false p = (⟨p.fType, false, 0, false, p.fId, ⟨#[]⟩, ⟨#[]⟩, ⟨#[]⟩, 0, false, 0, false, ⟨#[]⟩, ⟨#[]⟩, 0, false, false, ⟨#[]⟩, false, ⟨#[]⟩, 0, false, [], [], []⟩ : PacketV) := by
  simp only [Cm] at h8 h36 h40 h50 h53 h56 h59
  simp [Az, D3, D2, Ce, h8, h36, h40, h50, h53, h56, h59]
 rw [e] at hk
 exact hk _ _ (fun L' => (Gl (.cons .nl (Gl (.cons .nl (L8 (.cons .nl (Ir (.cons .nl (.cons .nl (.cons .nl .nil))))))))))) s61.tail.tail.tail
 refine Ax h59 (Be (Aa ((decide (p.fType = 11))) (fun h62 => ?_) (fun h62 => ?_)))
 refine As h62 (Ab (o' := 4) rfl (Ap (c := si p.fId) s7 Dj rfl (Ab (o' := 4) rfl (A6 s7 (.here) rfl rfl fun H s63 => At s63 (.here) rfl (Ci (cs' := [si p.fType, bF, i0, bF, si p.fId, sE, .nl, sE, i0, bF, i0, bF, sE, .nl, i0, bF, bF, sE, bF, .nl, i0, bF, .nl, .nl, .nl]) s63 C0 (Ak rfl) rfl (Cn rfl) rfl fun H s64 => At s64 (.here) rfl ?_)))))
 have e : Az false p = (⟨p.fType, false, 0, false, p.fId, ⟨#[]⟩, ⟨#[]⟩, ⟨#[]⟩, 0, false, 0, false, ⟨#[]⟩, ⟨#[]⟩, 0, false, false, ⟨#[]⟩, false, ⟨#[]⟩, 0, false, [], [], []⟩ : PacketV) := by
  simp only [Cm] at h8 h36 h40 h50 h53 h56 h59 h62
  simp [Az, D3, D2, Ce, h8, h36, h40, h50, h53, h56, h59, h62]
 rw [e] at hk
 exact hk _ _ (fun L' => (Gl (.cons .nl (Gl (.cons .nl (L8 (.cons .nl (Ir (.cons .nl (.cons .nl (.cons .nl .nil))))))))))) s64.tail.tail.tail
 refine Ax h62 (Be (Aa ((decide (p.fType = 8))) (fun h65 => ?_) (fun h65 => ?_)))
 refine As h65 (Ab (o' := 4) rfl (Ap (c := si p.fId) s7 Dj rfl (Ab (o' := 22) rfl (Ab (o' := 4) rfl (Gb s7 Dj (Zj (.here)) (Ap (c := C5 Bw p.fWants) s7 Dj rfl (Hv (A6 s7 (.here) rfl rfl fun H s66 => Ab (o' := 22) rfl (A6 s66 (.here) rfl rfl fun H s67 => At s67 (.here) rfl (Ci (cs' := [si p.fType, bF, i0, bF, si p.fId, sE, .nl, sE, i0, bF, i0, bF, sE, .nl, i0, bF, bF, sE, bF, .nl, i0, bF, C5 Bw p.fWants, .nl, .nl]) s67 C0 (Ak rfl) rfl (Cn rfl) rfl fun H s68 => At s68 (.here) rfl ?_))))))))))
 have e : Az false p = (⟨p.fType, false, 0, false, p.fId, ⟨#[]⟩, ⟨#[]⟩, ⟨#[]⟩, 0, false, 0, false, ⟨#[]⟩, ⟨#[]⟩, 0, false, false, ⟨#[]⟩, false, ⟨#[]⟩, 0, false, p.fWants, [], []⟩ : PacketV) := by
  simp only [Cm] at h8 h36 h40 h50 h53 h56 h59 h62 h65
  simp [Az, D3, D2, Ce, h8, h36, h40, h50, h53, h56, h59, h62, h65]
 rw [e] at hk
 exact hk _ _ (fun L' => (Gl (.cons .nl (Gl (.cons .nl (L8 (.cons .nl (Ir (.cons .ro (.cons .nl (.cons .nl .nil))))))))))) s68.tail.tail.tail
 refine Ax h65 (Be (Aa ((decide (p.fType = 9))) (fun h69 => ?_) (fun h69 => ?_)))
 refine As h69 (Ab (o' := 4) rfl (Ap (c := si p.fId) s7 Dj rfl (Ab (o' := 24) rfl (Ab (o' := 4) rfl (Gb s7 Dj (Zj (.here)) (Ap (c := El p.fCodes) s7 Dj rfl (Hv (A6 s7 (.here) rfl rfl fun H s70 => Ab (o' := 24) rfl (A6 s70 (.here) rfl rfl fun H s71 => At s71 (.here) rfl (Ci (cs' := [si p.fType, bF, i0, bF, si p.fId, sE, .nl, sE, i0, bF, i0, bF, sE, .nl, i0, bF, bF, sE, bF, .nl, i0, bF, .nl, .nl, El p.fCodes]) s71 C0 (Ak rfl) rfl (Cn rfl) rfl fun H s72 => At s72 (.here) rfl ?_))))))))))
 have e : Az false p = (⟨p.fType, false, 0, false, p.fId, ⟨#[]⟩, ⟨#[]⟩, ⟨#[]⟩, 0, false, 0, false, ⟨#[]⟩, ⟨#[]⟩, 0, false, false, ⟨#[]⟩, false, ⟨#[]⟩, 0, false, [], [], p.fCodes⟩ : PacketV) := by
  simp only [Cm] at h8 h36 h40 h50 h53 h56 h59 h62 h65 h69
  simp [Az, D3, D2, Ce, h8, h36, h40, h50, h53, h56, h59, h62, h65, h69]
 rw [e] at hk
 exact hk _ _ (fun L' => (Gl (.cons .nl (Gl (.cons .nl (L8 (.cons .nl (Ir (.cons .nl (.cons .nl (.cons .ro .nil))))))))))) s72.tail.tail.tail
 refine Ax h69 (Be (Aa ((decide (p.fType = 10))) (fun h73 => ?_) (fun h73 => ?_)))
 refine As h73 (Ab (o' := 4) rfl (Ap (c := si p.fId) s7 Dj rfl (Ab (o' := 23) rfl (Ab (o' := 4) rfl (Gb s7 Dj (Zj (.here)) (Ap (c := En p.fNames) s7 Dj rfl (Hv (A6 s7 (.here) rfl rfl fun H s74 => Ab (o' := 23) rfl (A6 s74 (.here) rfl rfl fun H s75 => At s75 (.here) rfl (Ci (cs' := [si p.fType, bF, i0, bF, si p.fId, sE, .nl, sE, i0, bF, i0, bF, sE, .nl, i0, bF, bF, sE, bF, .nl, i0, bF, .nl, En p.fNames, .nl]) s75 C0 (Ak rfl) rfl (Cn rfl) rfl fun H s76 => At s76 (.here) rfl ?_))))))))))
 have e : Az false p = (⟨p.fType, false, 0, false, p.fId, ⟨#[]⟩, ⟨#[]⟩, ⟨#[]⟩, 0, false, 0, false, ⟨#[]⟩, ⟨#[]⟩, 0, false, false, ⟨#[]⟩, false, ⟨#[]⟩, 0, false, [], p.fNames, []⟩ : PacketV) := by
  simp only [Cm] at h8 h36 h40 h50 h53 h56 h59 h62 h65 h69 h73
  simp [Az, D3, D2, Ce, h8, h36, h40, h50, h53, h56, h59, h62, h65, h69, h73]
 rw [e] at hk
 exact hk _ _ (fun L' => (Gl (.cons .nl (Gl (.cons .nl (L8 (.cons .nl (Ir (.cons .nl (.cons .ro (.cons .nl .nil))))))))))) s76.tail.tail.tail
 refine Ax h73 (At s7 (.here) rfl (Ci (cs' := [si p.fType, bF, i0, bF, i0, sE, .nl, sE, i0, bF, i0, bF, sE, .nl, i0, bF, bF, sE, bF, .nl, i0, bF, .nl, .nl, .nl]) s7 C0 (Ak rfl) rfl (Cn rfl) rfl fun H s77 => At s77 (.here) rfl ?_))
 have e : Az false p = (⟨p.fType, false, 0, false, 0, ⟨#[]⟩, ⟨#[]⟩, ⟨#[]⟩, 0, false, 0, false, ⟨#[]⟩, ⟨#[]⟩, 0, false, false, ⟨#[]⟩, false, ⟨#[]⟩, 0, false, [], [], []⟩ : PacketV) := by
  simp only [Cm] at h8 h36 h40 h50 h53 h56 h59 h62 h65 h69 h73
  simp [Az, D3, D2, Ce, h8, h36, h40, h50, h53, h56, h59, h62, h65, h69, h73]
 rw [e] at hk
 exact hk _ _ (fun L' => (Gl (.cons .nl (Gl (.cons .nl (L8 (.cons .nl (Ir (.cons .nl (.cons .nl (.cons .nl .nil))))))))))) s77.tail.tail.tail
theorem Wk (n : Nat) (hn : 1048576 < n) (p : PacketV) {β : Type} {G : Option β → Prop} {KH : KO β} {H : Ad} {L : List Ck} (s0 : Sep H (L)) (hk : ∀ raw H', (∀ L', VwL L' 7 raw (Ar (Az true p))) → Sep H' L → Gd G (KH (.agg raw) H')) : Gd G (Ej E0 (n + 1) β 90 [.agg (Ar p)] H fun x H => KH x H) := by
 rw [AkB, f90]
 try simp only [Gw, F8, B6, Ba, D9, A4, Av, Bh, Pr.gT, Pr.gF, Pr.hT, Pr.hF, Pr.kT, Pr.kF, Bv, Ct]
 refine Od s0 (G6 (Cy _)) fun i1 H s2 => I6 s2 fun i3 H s4 => Ab (o' := 0) rfl (Ap (c := si p.fType) s4 C0 rfl (Bg (cs := [si p.fType, bF, i0, bF, i0, sE, .nl, sE, i0, bF, i0, bF, sE, .nl, i0, bF, bF, sE, bF, .nl, i0, bF, .nl, .nl, .nl]) rfl (I6 s4 fun i5 H s6 => Ci (cs' := [si p.fType, bF, i0, bF, i0, sE, .nl, sE, i0, bF, i0, bF, sE, .nl, i0, bF, bF, sE, bF, .nl, i0, bF, .nl, .nl, .nl]) s6 (.here) (Ak rfl) rfl (Cn rfl) rfl fun H s7 => Ab (o' := 0) rfl (Ap (c := si p.fType) s7 Dj rfl (Be (Aa ((decide (p.fType = 1))) (fun h8 => ?_) (fun h8 => ?_)))))))
 refine As h8 (Ab (o' := 8) rfl (Ap (c := si p.fLevel) s7 Dj rfl (Ab (o' := 8) rfl (A6 s7 (.here) rfl rfl fun H s9 => Ab (o' := 7) rfl (Ap (c := ss p.fClient) s9 Dj rfl (Ab (o' := 7) rfl (A6 s9 (.here) rfl rfl fun H s10 => Ab (o' := 9) rfl (Ap (c := sb p.fClean) s10 Dj rfl (Ab (o' := 9) rfl (A6 s10 (.here) rfl rfl fun H s11 => Ab (o' := 10) rfl (Ap (c := si p.fKeep) s11 Dj rfl (Ab (o' := 10) rfl (A6 s11 (.here) rfl rfl fun H s12 => Ab (o' := 11) rfl (Ap (c := sb p.fHasWill) s12 Dj rfl (Di (Aa (p.fHasWill) (fun h13 => ?_) (fun h13 => ?_)))))))))))))))))
 refine As h13 (Ab (o' := 11) rfl (A6 s12 (.here) rfl rfl fun H s14 => Ab (o' := 12) rfl (Ap (c := ss p.fWTopic) s14 Dj rfl (Ab (o' := 12) rfl (A6 s14 (.here) rfl rfl fun H s15 => Ab (o' := 13) rfl (Ap (c := Ag p.fWBody) s15 Dj rfl (Ab (o' := 13) rfl (A6 s15 (.here) rfl rfl fun H s16 => Ab (o' := 14) rfl (Ap (c := si p.fWQos) s16 Dj rfl (Ab (o' := 14) rfl (A6 s16 (.here) rfl rfl fun H s17 => Ab (o' := 15) rfl (Ap (c := sb p.fWRetain) s17 Dj rfl (Ab (o' := 15) rfl (A6 s17 (.here) rfl rfl fun H s18 => Ab (o' := 16) rfl (Ap (c := sb p.fHasUser) s18 Dj rfl (Aa (p.fHasUser) (fun h19 => ?_) (fun h19 => ?_)))))))))))))))))
 refine As h19 (Ab (o' := 16) rfl (A6 s18 (.here) rfl rfl fun H s20 => Ab (o' := 17) rfl (Ap (c := ss p.fUser) s20 Dj rfl (Ab (o' := 17) rfl (A6 s20 (.here) rfl rfl fun H s21 => Ab (o' := 18) rfl (Ap (c := sb p.fHasPass) s21 Dj rfl (Aa (p.fHasPass) (fun h22 => ?_) (fun h22 => ?_))))))))
 refine As h22 (Ab (o' := 18) rfl (A6 s21 (.here) rfl rfl fun H s23 => Ab (o' := 19) rfl (Ap (c := Ag p.fPass) s23 Dj rfl (Ab (o' := 19) rfl (A6 s23 (.here) rfl rfl fun H s24 => At s24 (.here) rfl (Ci (cs' := [si p.fType, bF, i0, bF, i0, sE, .nl, ss p.fClient, si p.fLevel, sb p.fClean, si p.fKeep, bT, ss p.fWTopic, Ag p.fWBody, si p.fWQos, sb p.fWRetain, bT, ss p.fUser, bT, Ag p.fPass, i0, bF, .nl, .nl, .nl]) s24 C0 (Ak rfl) rfl (Cn rfl) rfl fun H s25 => At s25 (.here) rfl ?_))))))
 have e : Az true p = (⟨p.fType, false, 0, false, 0, ⟨#[]⟩, ⟨#[]⟩, p.fClient, p.fLevel, p.fClean, p.fKeep, true, p.fWTopic, p.fWBody, p.fWQos, p.fWRetain, true, p.fUser, true, p.fPass, 0, false, [], [], []⟩ : PacketV) := by
  simp only [Cm] at h8 h13 h19 h22
  simp [Az, D3, D2, Ce, h8, h13, h19, h22]
 rw [e] at hk
 exact hk _ _ (fun L' => (Gl (.cons .nl (Gl (.cons .ro (L8 (.cons .ro (Ir (.cons .nl (.cons .nl (.cons .nl .nil))))))))))) s25.tail.tail.tail
 refine Ax h22 (At s21 (.here) rfl (Ci (cs' := [si p.fType, bF, i0, bF, i0, sE, .nl, ss p.fClient, si p.fLevel, sb p.fClean, si p.fKeep, bT, ss p.fWTopic, Ag p.fWBody, si p.fWQos, sb p.fWRetain, bT, ss p.fUser, bF, .nl, i0, bF, .nl, .nl, .nl]) s21 C0 (Ak rfl) rfl (Cn rfl) rfl fun H s26 => At s26 (.here) rfl ?_))
 have e : Az true p = (⟨p.fType, false, 0, false, 0, ⟨#[]⟩, ⟨#[]⟩, p.fClient, p.fLevel, p.fClean, p.fKeep, true, p.fWTopic, p.fWBody, p.fWQos, p.fWRetain, true, p.fUser, false, ⟨#[]⟩, 0, false, [], [], []⟩ : PacketV) := by
  simp only [Cm] at h8 h13 h19 h22
  simp [Az, D3, D2, Ce, h8, h13, h19, h22]
 rw [e] at hk
 exact hk _ _ (fun L' => (Gl (.cons .nl (Gl (.cons .ro (L8 (.cons .nl (Ir (.cons .nl (.cons .nl (.cons .nl .nil))))))))))) s26.tail.tail.tail
 refine Ax h19 (At s18 (.here) rfl (Ci (cs' := [si p.fType, bF, i0, bF, i0, sE, .nl, ss p.fClient, si p.fLevel, sb p.fClean, si p.fKeep, bT, ss p.fWTopic, Ag p.fWBody, si p.fWQos, sb p.fWRetain, bF, sE, bF, .nl, i0, bF, .nl, .nl, .nl]) s18 C0 (Ak rfl) rfl (Cn rfl) rfl fun H s27 => At s27 (.here) rfl ?_))
 have e : Az true p = (⟨p.fType, false, 0, false, 0, ⟨#[]⟩, ⟨#[]⟩, p.fClient, p.fLevel, p.fClean, p.fKeep, true, p.fWTopic, p.fWBody, p.fWQos, p.fWRetain, false, ⟨#[]⟩, false, ⟨#[]⟩, 0, false, [], [], []⟩ : PacketV) := by
  simp only [Cm] at h8 h13 h19
  simp [Az, D3, D2, Ce, h8, h13, h19]
 rw [e] at hk
 exact hk _ _ (fun L' => (Gl (.cons .nl (Gl (.cons .ro (L8 (.cons .nl (Ir (.cons .nl (.cons .nl (.cons .nl .nil))))))))))) s27.tail.tail.tail
 refine Ax h13 (Ab (o' := 16) rfl (Ap (c := sb p.fHasUser) s12 Dj rfl (Aa (p.fHasUser) (fun h28 => ?_) (fun h28 => ?_))))
 refine As h28 (Ab (o' := 16) rfl (A6 s12 (.here) rfl rfl fun H s29 => Ab (o' := 17) rfl (Ap (c := ss p.fUser) s29 Dj rfl (Ab (o' := 17) rfl (A6 s29 (.here) rfl rfl fun H s30 => Ab (o' := 18) rfl (Ap (c := sb p.fHasPass) s30 Dj rfl (Aa (p.fHasPass) (fun h31 => ?_) (fun h31 => ?_))))))))
 refine As h31 (Ab (o' := 18) rfl (A6 s30 (.here) rfl rfl fun H s32 => Ab (o' := 19) rfl (Ap (c := Ag p.fPass) s32 Dj rfl (Ab (o' := 19) rfl (A6 s32 (.here) rfl rfl fun H s33 => At s33 (.here) rfl (Ci (cs' := [si p.fType, bF, i0, bF, i0, sE, .nl, ss p.fClient, si p.fLevel, sb p.fClean, si p.fKeep, bF, sE, .nl, i0, bF, bT, ss p.fUser, bT, Ag p.fPass, i0, bF, .nl, .nl, .nl]) s33 C0 (Ak rfl) rfl (Cn rfl) rfl fun H s34 => At s34 (.here) rfl ?_))))))
 have e : Az true p = (⟨p.fType, false, 0, false, 0, ⟨#[]⟩, ⟨#[]⟩, p.fClient, p.fLevel, p.fClean, p.fKeep, false, ⟨#[]⟩, ⟨#[]⟩, 0, false, true, p.fUser, true, p.fPass, 0, false, [], [], []⟩ : PacketV) := by
  simp only [Cm] at h8 h13 h28 h31
  simp [Az, D3, D2, Ce, h8, h13, h28, h31]
 rw [e] at hk
 exact hk _ _ (fun L' => (Gl (.cons .nl (Gl (.cons .nl (L8 (.cons .ro (Ir (.cons .nl (.cons .nl (.cons .nl .nil))))))))))) s34.tail.tail.tail
 refine Ax h31 (At s30 (.here) rfl (Ci (cs' := [si p.fType, bF, i0, bF, i0, sE, .nl, ss p.fClient, si p.fLevel, sb p.fClean, si p.fKeep, bF, sE, .nl, i0, bF, bT, ss p.fUser, bF, .nl, i0, bF, .nl, .nl, .nl]) s30 C0 (Ak rfl) rfl (Cn rfl) rfl fun H s35 => At s35 (.here) rfl ?_))
 have e : Az true p = (⟨p.fType, false, 0, false, 0, ⟨#[]⟩, ⟨#[]⟩, p.fClient, p.fLevel, p.fClean, p.fKeep, false, ⟨#[]⟩, ⟨#[]⟩, 0, false, true, p.fUser, false, ⟨#[]⟩, 0, false, [], [], []⟩ : PacketV) := by
  simp only [Cm] at h8 h13 h28 h31
  simp [Az, D3, D2, Ce, h8, h13, h28, h31]
 rw [e] at hk
 exact hk _ _ (fun L' => (Gl (.cons .nl (Gl (.cons .nl (L8 (.cons .nl (Ir (.cons .nl (.cons .nl (.cons .nl .nil))))))))))) s35.tail.tail.tail
 refine Ax h28 (At s12 (.here) rfl (Ci (cs' := [si p.fType, bF, i0, bF, i0, sE, .nl, ss p.fClient, si p.fLevel, sb p.fClean, si p.fKeep, bF, sE, .nl, i0, bF, bF, sE, bF, .nl, i0, bF, .nl, .nl, .nl]) s12 C0 (Ak rfl) rfl (Cn rfl) rfl fun H s36 => At s36 (.here) rfl ?_))
 have e : Az true p = (⟨p.fType, false, 0, false, 0, ⟨#[]⟩, ⟨#[]⟩, p.fClient, p.fLevel, p.fClean, p.fKeep, false, ⟨#[]⟩, ⟨#[]⟩, 0, false, false, ⟨#[]⟩, false, ⟨#[]⟩, 0, false, [], [], []⟩ : PacketV) := by
  simp only [Cm] at h8 h13 h28
  simp [Az, D3, D2, Ce, h8, h13, h28]
 rw [e] at hk
 exact hk _ _ (fun L' => (Gl (.cons .nl (Gl (.cons .nl (L8 (.cons .nl (Ir (.cons .nl (.cons .nl (.cons .nl .nil))))))))))) s36.tail.tail.tail
 refine Ax h8 (Be (Aa ((decide (p.fType = 2))) (fun h37 => ?_) (fun h37 => ?_)))
 refine As h37 (Ab (o' := 20) rfl (Ap (c := si p.fCode) s7 Dj rfl (Ab (o' := 20) rfl (A6 s7 (.here) rfl rfl fun H s38 => Ab (o' := 21) rfl (Ap (c := sb p.fPresent) s38 Dj rfl (Aa (p.fPresent) (fun h39 => ?_) (fun h39 => ?_)))))))
 refine Ae h39 (Ab (o' := 20) rfl (Ae h39 (Ap (c := si p.fCode) s38 Dj rfl (Ae h39 (Be (B4 h39 (Ab (o' := 21) rfl (A6 s38 (.here) rfl rfl fun H s40 => At s40 (.here) rfl (Ci (cs' := [si p.fType, bF, i0, bF, i0, sE, .nl, sE, i0, bF, i0, bF, sE, .nl, i0, bF, bF, sE, bF, .nl, si p.fCode, sb (decide (p.fCode = 0)), .nl, .nl, .nl]) s40 C0 (Ak rfl) rfl (Cn rfl) rfl fun H s41 => At s41 (.here) rfl ?_)))))))))
 have e : Az true p = (⟨p.fType, false, 0, false, 0, ⟨#[]⟩, ⟨#[]⟩, ⟨#[]⟩, 0, false, 0, false, ⟨#[]⟩, ⟨#[]⟩, 0, false, false, ⟨#[]⟩, false, ⟨#[]⟩, p.fCode, (decide (p.fCode = 0)), [], [], []⟩ : PacketV) := by
  simp only [Cm] at h8 h37 h39
  simp [Az, D3, D2, Ce, h8, h37, h39]
 rw [e] at hk
 exact hk _ _ (fun L' => (Gl (.cons .nl (Gl (.cons .nl (L8 (.cons .nl (Ir (.cons .nl (.cons .nl (.cons .nl .nil))))))))))) s41.tail.tail.tail
 refine Ac h39 (Ac h39 (Ac h39 (A7 h39 (Ab (o' := 21) rfl (A6 s38 (.here) rfl rfl fun H s42 => At s42 (.here) rfl (Ci (cs' := [si p.fType, bF, i0, bF, i0, sE, .nl, sE, i0, bF, i0, bF, sE, .nl, i0, bF, bF, sE, bF, .nl, si p.fCode, bF, .nl, .nl, .nl]) s42 C0 (Ak rfl) rfl (Cn rfl) rfl fun H s43 => At s43 (.here) rfl ?_))))))
 have e : Az true p = (⟨p.fType, false, 0, false, 0, ⟨#[]⟩, ⟨#[]⟩, ⟨#[]⟩, 0, false, 0, false, ⟨#[]⟩, ⟨#[]⟩, 0, false, false, ⟨#[]⟩, false, ⟨#[]⟩, p.fCode, false, [], [], []⟩ : PacketV) := by
  simp only [Cm] at h8 h37 h39
  simp [Az, D3, D2, Ce, h8, h37, h39]
 rw [e] at hk
 exact hk _ _ (fun L' => (Gl (.cons .nl (Gl (.cons .nl (L8 (.cons .nl (Ir (.cons .nl (.cons .nl (.cons .nl .nil))))))))))) s43.tail.tail.tail
 refine Ax h37 (Be (Aa ((decide (p.fType = 3))) (fun h44 => ?_) (fun h44 => ?_)))
 refine As h44 (Ab (o' := 2) rfl (Ap (c := si p.fQos) s7 Dj rfl (Ab (o' := 2) rfl (A6 s7 (.here) rfl rfl fun H s45 => Ab (o' := 3) rfl (Ap (c := sb p.fRetain) s45 Dj rfl (Ab (o' := 3) rfl (A6 s45 (.here) rfl rfl fun H s46 => Ab (o' := 5) rfl (Ap (c := ss p.fTopic) s46 Dj rfl (Ab (o' := 5) rfl (A6 s46 (.here) rfl rfl fun H s47 => Ab (o' := 6) rfl (Ap (c := Ag p.fBody) s47 Dj rfl (Ab (o' := 6) rfl (A6 s47 (.here) rfl rfl fun H s48 => Ab (o' := 2) rfl (Ap (c := si p.fQos) s48 Dj rfl (Er (Aa ((decide (0 < p.fQos))) (fun h49 => ?_) (fun h49 => ?_)))))))))))))))))
 refine As h49 (Ab (o' := 1) rfl (Ap (c := sb p.fDup) s48 Dj rfl (Ab (o' := 1) rfl (A6 s48 (.here) rfl rfl fun H s50 => Ab (o' := 4) rfl (Ap (c := si p.fId) s50 Dj rfl (Ab (o' := 4) rfl (A6 s50 (.here) rfl rfl fun H s51 => At s51 (.here) rfl (Ci (cs' := [si p.fType, sb p.fDup, si p.fQos, sb p.fRetain, si p.fId, ss p.fTopic, Ag p.fBody, sE, i0, bF, i0, bF, sE, .nl, i0, bF, bF, sE, bF, .nl, i0, bF, .nl, .nl, .nl]) s51 C0 (Ak rfl) rfl (Cn rfl) rfl fun H s52 => At s52 (.here) rfl ?_))))))))
 have e : Az true p = (⟨p.fType, p.fDup, p.fQos, p.fRetain, p.fId, p.fTopic, p.fBody, ⟨#[]⟩, 0, false, 0, false, ⟨#[]⟩, ⟨#[]⟩, 0, false, false, ⟨#[]⟩, false, ⟨#[]⟩, 0, false, [], [], []⟩ : PacketV) := by
  simp only [Cm] at h8 h37 h44 h49
  simp [Az, D3, D2, Ce, h8, h37, h44, h49]
 rw [e] at hk
 exact hk _ _ (fun L' => (Gl (.cons .ro (Gl (.cons .nl (L8 (.cons .nl (Ir (.cons .nl (.cons .nl (.cons .nl .nil))))))))))) s52.tail.tail.tail
 refine Ax h49 (At s48 (.here) rfl (Ci (cs' := [si p.fType, bF, si p.fQos, sb p.fRetain, i0, ss p.fTopic, Ag p.fBody, sE, i0, bF, i0, bF, sE, .nl, i0, bF, bF, sE, bF, .nl, i0, bF, .nl, .nl, .nl]) s48 C0 (Ak rfl) rfl (Cn rfl) rfl fun H s53 => At s53 (.here) rfl ?_))
 have e : Az true p = (⟨p.fType, false, p.fQos, p.fRetain, 0, p.fTopic, p.fBody, ⟨#[]⟩, 0, false, 0, false, ⟨#[]⟩, ⟨#[]⟩, 0, false, false, ⟨#[]⟩, false, ⟨#[]⟩, 0, false, [], [], []⟩ : PacketV) := by
  simp only [Cm] at h8 h37 h44 h49
  simp [Az, D3, D2, Ce, h8, h37, h44, h49]
 rw [e] at hk
 exact hk _ _ (fun L' => (Gl (.cons .ro (Gl (.cons .nl (L8 (.cons .nl (Ir (.cons .nl (.cons .nl (.cons .nl .nil))))))))))) s53.tail.tail.tail
 refine Ax h44 (Be (Di (Aa ((decide (p.fType = 4))) (fun h54 => ?_) (fun h54 => ?_))))
 refine As h54 (As h54 (Ab (o' := 4) rfl (Ap (c := si p.fId) s7 Dj rfl (Ab (o' := 4) rfl (A6 s7 (.here) rfl rfl fun H s55 => At s55 (.here) rfl (Ci (cs' := [si p.fType, bF, i0, bF, si p.fId, sE, .nl, sE, i0, bF, i0, bF, sE, .nl, i0, bF, bF, sE, bF, .nl, i0, bF, .nl, .nl, .nl]) s55 C0 (Ak rfl) rfl (Cn rfl) rfl fun H s56 => At s56 (.here) rfl ?_))))))
 have e : Az true p = (⟨p.fType, false, 0, false, p.fId, ⟨#[]⟩, ⟨#[]⟩, ⟨#[]⟩, 0, false, 0, false, ⟨#[]⟩, ⟨#[]⟩, 0, false, false, ⟨#[]⟩, false, ⟨#[]⟩, 0, false, [], [], []⟩ : PacketV) := by
  simp only [Cm] at h8 h37 h44 h54
  simp [Az, D3, D2, Ce, h8, h37, h44, h54]
 rw [e] at hk
 exact hk _ _ (fun L' => (Gl (.cons .nl (Gl (.cons .nl (L8 (.cons .nl (Ir (.cons .nl (.cons .nl (.cons .nl .nil))))))))))) s56.tail.tail.tail
 refine Ax h54 (Be (Aa ((decide (p.fType = 5))) (fun h57 => ?_) (fun h57 => ?_)))
 refine As h57 (As h57 (Ab (o' := 4) rfl (Ap (c := si p.fId) s7 Dj rfl (Ab (o' := 4) rfl (A6 s7 (.here) rfl rfl fun H s58 => At s58 (.here) rfl (Ci (cs' := [si p.fType, bF, i0, bF, si p.fId, sE, .nl, sE, i0, bF, i0, bF, sE, .nl, i0, bF, bF, sE, bF, .nl, i0, bF, .nl, .nl, .nl]) s58 C0 (Ak rfl) rfl (Cn rfl) rfl fun H s59 => At s59 (.here) rfl ?_))))))
 have e : Az true p = (⟨p.fType, false, 0, false, p.fId, ⟨#[]⟩, ⟨#[]⟩, ⟨#[]⟩, 0, false, 0, false, ⟨#[]⟩, ⟨#[]⟩, 0, false, false, ⟨#[]⟩, false, ⟨#[]⟩, 0, false, [], [], []⟩ : PacketV) := by
  simp only [Cm] at h8 h37 h44 h54 h57
  simp [Az, D3, D2, Ce, h8, h37, h44, h54, h57]
 rw [e] at hk
 exact hk _ _ (fun L' => (Gl (.cons .nl (Gl (.cons .nl (L8 (.cons .nl (Ir (.cons .nl (.cons .nl (.cons .nl .nil))))))))))) s59.tail.tail.tail
 refine Ax h57 (Be (Aa ((decide (p.fType = 6))) (fun h60 => ?_) (fun h60 => ?_)))
 refine As h60 (As h60 (Ab (o' := 4) rfl (Ap (c := si p.fId) s7 Dj rfl (Ab (o' := 4) rfl (A6 s7 (.here) rfl rfl fun H s61 => At s61 (.here) rfl (Ci (cs' := [si p.fType, bF, i0, bF, si p.fId, sE, .nl, sE, i0, bF, i0, bF, sE, .nl, i0, bF, bF, sE, bF, .nl, i0, bF, .nl, .nl, .nl]) s61 C0 (Ak rfl) rfl (Cn rfl) rfl fun H s62 => At s62 (.here) rfl ?_))))))
 have e : Az true p = (⟨p.fType, false, 0, false, p.fId, ⟨#[]⟩, ⟨#[]⟩, ⟨#[]⟩, 0, false, 0, false, ⟨#[]⟩, ⟨#[]⟩, 0, false, false, ⟨#[]⟩, false, ⟨#[]⟩, 0, false, [], [], []⟩ : PacketV) := by
  simp only [Cm] at h8 h37 h44 h54 h57 h60
  simp [Az, D3, D2, Ce, h8, h37, h44, h54, h57, h60]
 rw [e] at hk
 exact hk _ _ (fun L' => (Gl (.cons .nl (Gl (.cons .nl (L8 (.cons .nl (Ir (.cons .nl (.cons .nl (.cons .nl .nil))))))))))) s62.tail.tail.tail
 refine Ax h60 (Be (Aa ((decide (p.fType = 7))) (fun h63 => ?_) (fun h63 => ?_)))
 refine As h63 (As h63 (Ab (o' := 4) rfl (Ap (c := si p.fId) s7 Dj rfl (Ab (o' := 4) rfl (A6 s7 (.here) rfl rfl fun H s64 => At s64 (.here) rfl (Ci (cs' := [si p.fType, bF, i0, bF, si p.fId, sE, .nl, sE, i0, bF, i0, bF, sE, .nl, i0, bF, bF, sE, bF, .nl, i0, bF, .nl, .nl, .nl]) s64 C0 (Ak rfl) rfl (Cn rfl) rfl fun H s65 => At s65 (.here) rfl ?_))))))
 have e : Az true p = (⟨p.fType, false, 0, false, p.fId, ⟨#[]⟩, ⟨#[]⟩, ⟨#[]⟩, 0, false, 0, false, ⟨#[]⟩, ⟨#[]⟩, 0, false, false, ⟨#[]⟩, false, ⟨#[]⟩, 0, false, [], [], []⟩ : PacketV) := by
  simp only [Cm] at h8 h37 h44 h54 h57 h60 h63
  simp [Az, D3, D2, Ce, h8, h37, h44, h54, h57, h60, h63]
 rw [e] at hk
 exact hk _ _ (fun L' => (Gl (.cons .nl (Gl (.cons .nl (L8 (.cons .nl (Ir (.cons .nl (.cons .nl (.cons .nl .nil))))))))))) s65.tail.tail.tail
 refine Ax h63 (Be (Aa ((decide (p.fType = 11))) (fun h66 => ?_) (fun h66 => ?_)))
 refine As h66 (Ab (o' := 4) rfl (Ap (c := si p.fId) s7 Dj rfl (Ab (o' := 4) rfl (A6 s7 (.here) rfl rfl fun H s67 => At s67 (.here) rfl (Ci (cs' := [si p.fType, bF, i0, bF, si p.fId, sE, .nl, sE, i0, bF, i0, bF, sE, .nl, i0, bF, bF, sE, bF, .nl, i0, bF, .nl, .nl, .nl]) s67 C0 (Ak rfl) rfl (Cn rfl) rfl fun H s68 => At s68 (.here) rfl ?_)))))
 have e : Az true p = (⟨p.fType, false, 0, false, p.fId, ⟨#[]⟩, ⟨#[]⟩, ⟨#[]⟩, 0, false, 0, false, ⟨#[]⟩, ⟨#[]⟩, 0, false, false, ⟨#[]⟩, false, ⟨#[]⟩, 0, false, [], [], []⟩ : PacketV) := by
  simp only [Cm] at h8 h37 h44 h54 h57 h60 h63 h66
  simp [Az, D3, D2, Ce, h8, h37, h44, h54, h57, h60, h63, h66]
 rw [e] at hk
 exact hk _ _ (fun L' => (Gl (.cons .nl (Gl (.cons .nl (L8 (.cons .nl (Ir (.cons .nl (.cons .nl (.cons .nl .nil))))))))))) s68.tail.tail.tail
 refine Ax h66 (Be (Aa ((decide (p.fType = 8))) (fun h69 => ?_) (fun h69 => ?_)))
 refine As h69 (Ab (o' := 4) rfl (Ap (c := si p.fId) s7 Dj rfl (Ab (o' := 4) rfl (A6 s7 (.here) rfl rfl fun H s70 => Ab (o' := 22) rfl (Ap (c := C5 Bw p.fWants) s70 Dj rfl (Ab (o' := 22) rfl (A6 s70 (.here) rfl rfl fun H s71 => At s71 (.here) rfl (Ci (cs' := [si p.fType, bF, i0, bF, si p.fId, sE, .nl, sE, i0, bF, i0, bF, sE, .nl, i0, bF, bF, sE, bF, .nl, i0, bF, C5 Bw p.fWants, .nl, .nl]) s71 C0 (Ak rfl) rfl (Cn rfl) rfl fun H s72 => At s72 (.here) rfl ?_))))))))
 have e : Az true p = (⟨p.fType, false, 0, false, p.fId, ⟨#[]⟩, ⟨#[]⟩, ⟨#[]⟩, 0, false, 0, false, ⟨#[]⟩, ⟨#[]⟩, 0, false, false, ⟨#[]⟩, false, ⟨#[]⟩, 0, false, p.fWants, [], []⟩ : PacketV) := by
  simp only [Cm] at h8 h37 h44 h54 h57 h60 h63 h66 h69
  simp [Az, D3, D2, Ce, h8, h37, h44, h54, h57, h60, h63, h66, h69]
 rw [e] at hk
 exact hk _ _ (fun L' => (Gl (.cons .nl (Gl (.cons .nl (L8 (.cons .nl (Ir (.cons .ro (.cons .nl (.cons .nl .nil))))))))))) s72.tail.tail.tail
 refine Ax h69 (Be (Aa ((decide (p.fType = 9))) (fun h73 => ?_) (fun h73 => ?_)))
 refine As h73 (Ab (o' := 4) rfl (Ap (c := si p.fId) s7 Dj rfl (Ab (o' := 4) rfl (A6 s7 (.here) rfl rfl fun H s74 => Ab (o' := 24) rfl (Ap (c := El p.fCodes) s74 Dj rfl (Ab (o' := 24) rfl (A6 s74 (.here) rfl rfl fun H s75 => At s75 (.here) rfl (Ci (cs' := [si p.fType, bF, i0, bF, si p.fId, sE, .nl, sE, i0, bF, i0, bF, sE, .nl, i0, bF, bF, sE, bF, .nl, i0, bF, .nl, .nl, El p.fCodes]) s75 C0 (Ak rfl) rfl (Cn rfl) rfl fun H s76 => At s76 (.here) rfl ?_))))))))
 have e : Az true p = (⟨p.fType, false, 0, false, p.fId, ⟨#[]⟩, ⟨#[]⟩, ⟨#[]⟩, 0, false, 0, false, ⟨#[]⟩, ⟨#[]⟩, 0, false, false, ⟨#[]⟩, false, ⟨#[]⟩, 0, false, [], [], p.fCodes⟩ : PacketV) := by
  simp only [Cm] at h8 h37 h44 h54 h57 h60 h63 h66 h69 h73
  simp [Az, D3, D2, Ce, h8, h37, h44, h54, h57, h60, h63, h66, h69, h73]
 rw [e] at hk
 exact hk _ _ (fun L' => (Gl (.cons .nl (Gl (.cons .nl (L8 (.cons .nl (Ir (.cons .nl (.cons .nl (.cons .ro .nil))))))))))) s76.tail.tail.tail
 refine Ax h73 (Be (Aa ((decide (p.fType = 10))) (fun h77 => ?_) (fun h77 => ?_)))
 refine As h77 (Ab (o' := 4) rfl (Ap (c := si p.fId) s7 Dj rfl (Ab (o' := 4) rfl (A6 s7 (.here) rfl rfl fun H s78 => Ab (o' := 23) rfl (Ap (c := En p.fNames) s78 Dj rfl (Ab (o' := 23) rfl (A6 s78 (.here) rfl rfl fun H s79 => At s79 (.here) rfl (Ci (cs' := [si p.fType, bF, i0, bF, si p.fId, sE, .nl, sE, i0, bF, i0, bF, sE, .nl, i0, bF, bF, sE, bF, .nl, i0, bF, .nl, En p.fNames, .nl]) s79 C0 (Ak rfl) rfl (Cn rfl) rfl fun H s80 => At s80 (.here) rfl ?_))))))))
 have e : Az true p = (⟨p.fType, false, 0, false, p.fId, ⟨#[]⟩, ⟨#[]⟩, ⟨#[]⟩, 0, false, 0, false, ⟨#[]⟩, ⟨#[]⟩, 0, false, false, ⟨#[]⟩, false, ⟨#[]⟩, 0, false, [], p.fNames, []⟩ : PacketV) := by
  simp only [Cm] at h8 h37 h44 h54 h57 h60 h63 h66 h69 h73 h77
  simp [Az, D3, D2, Ce, h8, h37, h44, h54, h57, h60, h63, h66, h69, h73, h77]
 rw [e] at hk
 exact hk _ _ (fun L' => (Gl (.cons .nl (Gl (.cons .nl (L8 (.cons .nl (Ir (.cons .nl (.cons .ro (.cons .nl .nil))))))))))) s80.tail.tail.tail
 refine Ax h77 (At s7 (.here) rfl (Ci (cs' := [si p.fType, bF, i0, bF, i0, sE, .nl, sE, i0, bF, i0, bF, sE, .nl, i0, bF, bF, sE, bF, .nl, i0, bF, .nl, .nl, .nl]) s7 C0 (Ak rfl) rfl (Cn rfl) rfl fun H s81 => At s81 (.here) rfl ?_))
 have e : Az true p = (⟨p.fType, false, 0, false, 0, ⟨#[]⟩, ⟨#[]⟩, ⟨#[]⟩, 0, false, 0, false, ⟨#[]⟩, ⟨#[]⟩, 0, false, false, ⟨#[]⟩, false, ⟨#[]⟩, 0, false, [], [], []⟩ : PacketV) := by
  simp only [Cm] at h8 h37 h44 h54 h57 h60 h63 h66 h69 h73 h77
  simp [Az, D3, D2, Ce, h8, h37, h44, h54, h57, h60, h63, h66, h69, h73, h77]
 rw [e] at hk
 exact hk _ _ (fun L' => (Gl (.cons .nl (Gl (.cons .nl (L8 (.cons .nl (Ir (.cons .nl (.cons .nl (.cons .nl .nil))))))))))) s81.tail.tail.tail
end
section
open Go
def Bz (w : WantV) : Bool := Cb w.fFilter && B3 w.fQos 0 2
def Bs (c : Int) : Bool := B3 c 0 2 || decide (c = 128)
def Gf (p : PacketV) : Bool := B3 (((p.fWants.length : Nat) : Int) + ((p.fNames.length : Nat) : Int) + ((p.fCodes.length : Nat) : Int)) 1 4
def Jp (p : PacketV) : Bool := p.fCodes.all Bs && Gf p
def Iz (p : PacketV) : Bool := p.fNames.all Cb && Jp p
def Fb (p : PacketV) : Bool := p.fWants.all Bz && Iz p
def Ca (p : PacketV) : Bool := (B3 p.fLevel 0 255 && (Bi p.fClient && (B3 p.fKeep 0 65535 && ((!p.fHasWill || (Dl p.fWTopic && (decide (((p.fWBody.size : Nat) : Int) ≤ 40) && B3 p.fWQos 0 2))) && (Bi p.fUser && decide (((p.fPass.size : Nat) : Int) ≤ 60))))))
def Bx (p : PacketV) : Bool :=
 if p.fType = 1 then Ca p
 else if p.fType = 2 then B3 p.fCode 0 5 && (!p.fPresent || decide (p.fCode = 0))
 else if p.fType = 3 then B3 p.fQos 0 2 && (Dl p.fTopic && (decide (((p.fBody.size : Nat) : Int) ≤ 40) && (decide (p.fQos = 0) || B3 p.fId 1 65535)))
 else if p.fType = 4 ∨ p.fType = 5 ∨ p.fType = 6 ∨ p.fType = 7 ∨ p.fType = 11 then B3 p.fId 1 65535
 else if p.fType = 8 ∨ p.fType = 9 ∨ p.fType = 10 then B3 p.fId 1 65535 && Fb p
 else true
def Ah (p : PacketV) : Bool := B3 p.fType 1 14 && (Cp p (Az false p) && Bx p)
structure Hd (p : PacketV) : Prop where
 t1 : p.fTopic.size ≤ 1048576
 t2 : p.fClient.size ≤ 1048576
 t3 : p.fWTopic.size ≤ 1048576
 t4 : p.fUser.size ≤ 1048576
 l1 : p.fWants.length ≤ 1048576
 l2 : p.fNames.length ≤ 1048576
 l3 : p.fCodes.length ≤ 1048576
 w1 : ∀ y ∈ p.fWants, y.fFilter.size ≤ 1048576
 w2 : ∀ y ∈ p.fNames, y.size ≤ 1048576
theorem Kp {s : ByteArray} (h : s.size ≤ 1048576) : okS s := by unfold okS; omega
theorem Hw (n : Nat) (i : Int) : Dd E0 (n + 2) 4 109 [.sc (.int .i64 i)] = some (.sc (.bool (B3 i 1 65535))) := by
 rw [Bd, Ahv, f109]
 refine C6 (G := (· = some (sb (B3 i 1 65535)))) ?_
 try simp only [F8]
 have s0 : Sep [] [] := Cx
 refine Aq (v := (.bool (B3 i 1 65535))) s0 rfl (My .nil) (Hz n _ i 1 65535) (Ai rfl ?_)
 rfl
theorem Rl (n : Nat) (i : Int) : Dd E0 (n + 2) 4 107 [.sc (.int .i64 i)] = some (.sc (.bool (B3 i 0 2))) := by
 rw [Bd, Aht, f107]
 refine C6 (G := (· = some (sb (B3 i 0 2)))) ?_
 try simp only [F8]
 have s0 : Sep [] [] := Cx
 refine Aq (v := (.bool (B3 i 0 2))) s0 rfl (My .nil) (Hz n _ i 0 2) (Ai rfl ?_)
 rfl
theorem Rm (n : Nat) (i : Int) : Dd E0 (n + 2) 4 118 [.sc (.int .i64 i)] = some (.sc (.bool (B3 i 0 65535))) := by
 rw [Bd, Ah2, f118]
 refine C6 (G := (· = some (sb (B3 i 0 65535)))) ?_
 try simp only [F8]
 have s0 : Sep [] [] := Cx
 refine Aq (v := (.bool (B3 i 0 65535))) s0 rfl (My .nil) (Hz n _ i 0 65535) (Ai rfl ?_)
 rfl
theorem Ut (n : Nat) (hn : 1048576 < n) (p : PacketV) (hp : Hd p) : Dd E0 (n + 6) 4 106 [.agg (Ar p)] = some (.sc (.bool (Ca p))) := by
 rw [Bd, Ahs, f106]
 refine C6 (G := (· = some (sb (Ca p)))) ?_
 try simp only [Gw, B6, Ba, A4, D5, Bh, Pr.gT, Pr.gF, Pr.hT, Pr.hF, Pr.kT, Pr.kF, Bv, B5]
 have s0 : Sep [] [] := Cx
 refine Od s0 (G6 (Cy _)) fun i1 H s2 => Ab (o' := 11) rfl (Ap (c := sb p.fHasWill) s2 (.here) rfl (C2 (Aa (p.fHasWill) (fun h3 => ?_) (fun h3 => ?_))))
 refine Ae (nF h3) (Ab (o' := 12) rfl (Ae (nF h3) (Ap (c := ss p.fWTopic) s2 (.here) rfl (Ae (nF h3) (Aq (v := (.bool (Dl p.fWTopic))) s2 rfl (.cons .sc .nil) (Qu n (by omega) _ p.fWTopic hp.t3) (Ae (nF h3) (Aa ((Dl p.fWTopic)) (fun h4 => ?_) (fun h4 => ?_))))))))
 refine Ae h4 (Ab (o' := 13) rfl (Ae h4 (Ap (c := Ag p.fWBody) s2 (.here) rfl (Ae h4 (Cz (Ae h4 (Ku (Ae (nF h3) (B4 h4 (Ae (nF h3) (Aa ((decide (((p.fWBody.size : Nat) : Int) ≤ 40))) (fun h5 => ?_) (fun h5 => ?_))))))))))))
 refine Ae h5 (Ab (o' := 14) rfl (Ae h5 (Ap (c := si p.fWQos) s2 (.here) rfl (Ae h5 (Aq (v := (.bool (B3 p.fWQos 0 2))) s2 rfl (.cons .sc .nil) (Rl (n + 3) p.fWQos) (Ae (nF h3) (B4 h5 (A7 (nF h3) (Ab (o' := 8) rfl (Ap (c := si p.fLevel) s2 (.here) rfl (Aq (v := (.bool (B3 p.fLevel 0 255))) s2 rfl (My .nil) (Hz (n + 4) _ p.fLevel 0 255) (Aa ((B3 p.fLevel 0 255)) (fun h6 => ?_) (fun h6 => ?_)))))))))))))
 refine Ae h6 (Ab (o' := 7) rfl (Ae h6 (Ap (c := ss p.fClient) s2 (.here) rfl (Ae h6 (Nw rfl rfl (Ia _ p.fClient (Kp hp.t2)) (B4 h6 (Aa ((Bi p.fClient)) (fun h7 => ?_) (fun h7 => ?_))))))))
 refine Ae h7 (Ab (o' := 10) rfl (Ae h7 (Ap (c := si p.fKeep) s2 (.here) rfl (Ae h7 (Aq (v := (.bool (B3 p.fKeep 0 65535))) s2 rfl (.cons .sc .nil) (Rm (n + 3) p.fKeep) (B4 h7 (Aa ((B3 p.fKeep 0 65535)) (fun h8 => ?_) (fun h8 => ?_))))))))
 refine Ae h8 (B4 h8 (Aa ((B3 p.fWQos 0 2)) (fun h9 => ?_) (fun h9 => ?_)))
 refine Ae h9 (Ab (o' := 17) rfl (Ae h9 (Ap (c := ss p.fUser) s2 (.here) rfl (Ae h9 (Nw rfl rfl (Ia _ p.fUser (Kp hp.t4)) (B4 h9 (Aa ((Bi p.fUser)) (fun h10 => ?_) (fun h10 => ?_))))))))
 refine Ae h10 (Ab (o' := 19) rfl (Ae h10 (Ap (c := Ag p.fPass) s2 (.here) rfl (Ae h10 (Cz (Ae h10 (Ku (B4 h10 (Ai rfl ?_)))))))))
 have e : Ca p = (decide (((p.fPass.size : Nat) : Int) ≤ 60)) := by
  unfold Ca
  simp only [h3, h4, h5, h6, h7, h8, h9, h10, Cw]
 rw [e]
 refine Ac h10 (Ac h10 (Ac h10 (Ac h10 (A7 h10 (Ai rfl ?_)))))
 have e : Ca p = false := by
  unfold Ca
  simp only [h3, h4, h5, h6, h7, h8, h9, h10, Cw]
 rw [e]
 refine Ac h9 (Ac h9 (Ac h9 (A7 h9 (Ac rfl (Ac rfl (Ac rfl (Ac rfl (A7 rfl (Ai rfl ?_)))))))))
 have e : Ca p = false := by
  unfold Ca
  simp only [h3, h4, h5, h6, h7, h8, h9, Cw]
 rw [e]
 refine Ac h8 (A7 h8 (Ac rfl (Ac rfl (Ac rfl (A7 rfl (Ac rfl (Ac rfl (Ac rfl (Ac rfl (A7 rfl (Ai rfl ?_)))))))))))
 have e : Ca p = false := by
  unfold Ca
  simp only [h3, h4, h5, h6, h7, h8, Cw]
 rw [e]
 refine Ac h7 (Ac h7 (Ac h7 (A7 h7 (Ac rfl (A7 rfl (Ac rfl (Ac rfl (Ac rfl (A7 rfl (Ac rfl (Ac rfl (Ac rfl (Ac rfl (A7 rfl (Ai rfl ?_)))))))))))))))
 have e : Ca p = false := by
  unfold Ca
  simp only [h3, h4, h5, h6, h7, Cw]
 rw [e]
 refine Ac h6 (Ac h6 (Ac h6 (A7 h6 (Ac rfl (Ac rfl (Ac rfl (A7 rfl (Ac rfl (A7 rfl (Ac rfl (Ac rfl (Ac rfl (A7 rfl (Ac rfl (Ac rfl (Ac rfl (Ac rfl (A7 rfl (Ai rfl ?_)))))))))))))))))))
 have e : Ca p = false := by
  unfold Ca
  simp only [h3, h4, h5, h6, Cw]
 rw [e]
 refine Ac h5 (Ac h5 (Ac h5 (Ae (nF h3) (A7 h5 (A7 (nF h3) (Ab (o' := 8) rfl (Ap (c := si p.fLevel) s2 (.here) rfl (Aq (v := (.bool (B3 p.fLevel 0 255))) s2 rfl (My .nil) (Hz (n + 4) _ p.fLevel 0 255) (Aa ((B3 p.fLevel 0 255)) (fun h11 => ?_) (fun h11 => ?_))))))))))
 refine Ae h11 (Ab (o' := 7) rfl (Ae h11 (Ap (c := ss p.fClient) s2 (.here) rfl (Ae h11 (Nw rfl rfl (Ia _ p.fClient (Kp hp.t2)) (B4 h11 (Aa ((Bi p.fClient)) (fun h12 => ?_) (fun h12 => ?_))))))))
 refine Ae h12 (Ab (o' := 10) rfl (Ae h12 (Ap (c := si p.fKeep) s2 (.here) rfl (Ae h12 (Aq (v := (.bool (B3 p.fKeep 0 65535))) s2 rfl (.cons .sc .nil) (Rm (n + 3) p.fKeep) (B4 h12 (Aa ((B3 p.fKeep 0 65535)) (fun h13 => ?_) (fun h13 => ?_))))))))
 refine Ae h13 (B4 h13 (Ac rfl (Ac rfl (Ac rfl (A7 rfl (Ac rfl (Ac rfl (Ac rfl (Ac rfl (A7 rfl (Ai rfl ?_)))))))))))
 have e : Ca p = false := by
  unfold Ca
  simp only [h3, h4, h5, h11, h12, h13, Cw]
 rw [e]
 refine Ac h13 (A7 h13 (Ac rfl (Ac rfl (Ac rfl (A7 rfl (Ac rfl (Ac rfl (Ac rfl (Ac rfl (A7 rfl (Ai rfl ?_)))))))))))
 have e : Ca p = false := by
  unfold Ca
  simp only [h3, h4, h5, h11, h12, h13, Cw]
 rw [e]
 refine Ac h12 (Ac h12 (Ac h12 (A7 h12 (Ac rfl (A7 rfl (Ac rfl (Ac rfl (Ac rfl (A7 rfl (Ac rfl (Ac rfl (Ac rfl (Ac rfl (A7 rfl (Ai rfl ?_)))))))))))))))
 have e : Ca p = false := by
  unfold Ca
  simp only [h3, h4, h5, h11, h12, Cw]
 rw [e]
 refine Ac h11 (Ac h11 (Ac h11 (A7 h11 (Ac rfl (Ac rfl (Ac rfl (A7 rfl (Ac rfl (A7 rfl (Ac rfl (Ac rfl (Ac rfl (A7 rfl (Ac rfl (Ac rfl (Ac rfl (Ac rfl (A7 rfl (Ai rfl ?_)))))))))))))))))))
 have e : Ca p = false := by
  unfold Ca
  simp only [h3, h4, h5, h11, Cw]
 rw [e]
 refine Ac h4 (Ac h4 (Ac h4 (Ac h4 (Ae (nF h3) (A7 h4 (Ae (nF h3) (Ac rfl (Ac rfl (Ac rfl (Ae (nF h3) (A7 rfl (A7 (nF h3) (Ab (o' := 8) rfl (Ap (c := si p.fLevel) s2 (.here) rfl (Aq (v := (.bool (B3 p.fLevel 0 255))) s2 rfl (My .nil) (Hz (n + 4) _ p.fLevel 0 255) (Aa ((B3 p.fLevel 0 255)) (fun h14 => ?_) (fun h14 => ?_)))))))))))))))))
 refine Ae h14 (Ab (o' := 7) rfl (Ae h14 (Ap (c := ss p.fClient) s2 (.here) rfl (Ae h14 (Nw rfl rfl (Ia _ p.fClient (Kp hp.t2)) (B4 h14 (Aa ((Bi p.fClient)) (fun h15 => ?_) (fun h15 => ?_))))))))
 refine Ae h15 (Ab (o' := 10) rfl (Ae h15 (Ap (c := si p.fKeep) s2 (.here) rfl (Ae h15 (Aq (v := (.bool (B3 p.fKeep 0 65535))) s2 rfl (.cons .sc .nil) (Rm (n + 3) p.fKeep) (B4 h15 (Aa ((B3 p.fKeep 0 65535)) (fun h16 => ?_) (fun h16 => ?_))))))))
 refine Ae h16 (B4 h16 (Ac rfl (Ac rfl (Ac rfl (A7 rfl (Ac rfl (Ac rfl (Ac rfl (Ac rfl (A7 rfl (Ai rfl ?_)))))))))))
 have e : Ca p = false := by
  unfold Ca
  simp only [h3, h4, h14, h15, h16, Cw]
 rw [e]
 refine Ac h16 (A7 h16 (Ac rfl (Ac rfl (Ac rfl (A7 rfl (Ac rfl (Ac rfl (Ac rfl (Ac rfl (A7 rfl (Ai rfl ?_)))))))))))
 have e : Ca p = false := by
  unfold Ca
  simp only [h3, h4, h14, h15, h16, Cw]
 rw [e]
 refine Ac h15 (Ac h15 (Ac h15 (A7 h15 (Ac rfl (A7 rfl (Ac rfl (Ac rfl (Ac rfl (A7 rfl (Ac rfl (Ac rfl (Ac rfl (Ac rfl (A7 rfl (Ai rfl ?_)))))))))))))))
 have e : Ca p = false := by
  unfold Ca
  simp only [h3, h4, h14, h15, Cw]
 rw [e]
 refine Ac h14 (Ac h14 (Ac h14 (A7 h14 (Ac rfl (Ac rfl (Ac rfl (A7 rfl (Ac rfl (A7 rfl (Ac rfl (Ac rfl (Ac rfl (A7 rfl (Ac rfl (Ac rfl (Ac rfl (Ac rfl (A7 rfl (Ai rfl ?_)))))))))))))))))))
 have e : Ca p = false := by
  unfold Ca
  simp only [h3, h4, h14, Cw]
 rw [e]
 refine Ac (nT h3) (Ac (nT h3) (Ac (nT h3) (Ac (nT h3) (D1 (D1 (D1 (D1 (Ac (nT h3) (Ac (nT h3) (D1 (D1 (D1 (Ac (nT h3) (B4 (nT h3) (Ab (o' := 8) rfl (Ap (c := si p.fLevel) s2 (.here) rfl (Aq (v := (.bool (B3 p.fLevel 0 255))) s2 rfl (My .nil) (Hz (n + 4) _ p.fLevel 0 255) (Aa ((B3 p.fLevel 0 255)) (fun h17 => ?_) (fun h17 => ?_)))))))))))))))))))
 refine Ae h17 (Ab (o' := 7) rfl (Ae h17 (Ap (c := ss p.fClient) s2 (.here) rfl (Ae h17 (Nw rfl rfl (Ia _ p.fClient (Kp hp.t2)) (B4 h17 (Aa ((Bi p.fClient)) (fun h18 => ?_) (fun h18 => ?_))))))))
 refine Ae h18 (Ab (o' := 10) rfl (Ae h18 (Ap (c := si p.fKeep) s2 (.here) rfl (Ae h18 (Aq (v := (.bool (B3 p.fKeep 0 65535))) s2 rfl (.cons .sc .nil) (Rm (n + 3) p.fKeep) (B4 h18 (Aa ((B3 p.fKeep 0 65535)) (fun h19 => ?_) (fun h19 => ?_))))))))
 refine Ae h19 (B4 h19 (Ae rfl (Ab (o' := 17) rfl (Ae rfl (Ap (c := ss p.fUser) s2 (.here) rfl (Ae rfl (Nw rfl rfl (Ia _ p.fUser (Kp hp.t4)) (B4 rfl (Aa ((Bi p.fUser)) (fun h20 => ?_) (fun h20 => ?_))))))))))
 refine Ae h20 (Ab (o' := 19) rfl (Ae h20 (Ap (c := Ag p.fPass) s2 (.here) rfl (Ae h20 (Cz (Ae h20 (Ku (B4 h20 (Ai rfl ?_)))))))))
 have e : Ca p = (decide (((p.fPass.size : Nat) : Int) ≤ 60)) := by
  unfold Ca
  simp only [h3, h17, h18, h19, h20, Cw]
 rw [e]
 refine Ac h20 (Ac h20 (Ac h20 (Ac h20 (A7 h20 (Ai rfl ?_)))))
 have e : Ca p = false := by
  unfold Ca
  simp only [h3, h17, h18, h19, h20, Cw]
 rw [e]
 refine Ac h19 (A7 h19 (Ac rfl (Ac rfl (Ac rfl (A7 rfl (Ac rfl (Ac rfl (Ac rfl (Ac rfl (A7 rfl (Ai rfl ?_)))))))))))
 have e : Ca p = false := by
  unfold Ca
  simp only [h3, h17, h18, h19, Cw]
 rw [e]
 refine Ac h18 (Ac h18 (Ac h18 (A7 h18 (Ac rfl (A7 rfl (Ac rfl (Ac rfl (Ac rfl (A7 rfl (Ac rfl (Ac rfl (Ac rfl (Ac rfl (A7 rfl (Ai rfl ?_)))))))))))))))
 have e : Ca p = false := by
  unfold Ca
  simp only [h3, h17, h18, Cw]
 rw [e]
 refine Ac h17 (Ac h17 (Ac h17 (A7 h17 (Ac rfl (Ac rfl (Ac rfl (A7 rfl (Ac rfl (A7 rfl (Ac rfl (Ac rfl (Ac rfl (A7 rfl (Ac rfl (Ac rfl (Ac rfl (Ac rfl (A7 rfl (Ai rfl ?_)))))))))))))))))))
 have e : Ca p = false := by
  unfold Ca
  simp only [h3, h17, Cw]
 rw [e]
theorem O6 (n : Nat) (hn : 1048576 < n) (p : PacketV) (hp : Hd p)   : ∀ (t pre : List Int) (m : Nat) (i : Int) (i1 : Nat) (H : Ad), p.fCodes = pre ++ t → i = ((pre.length : Nat) : Int) → t.length < m → Sep H [.blk i1 (Ar p) true] → Gd (· = some (.sc (.bool (t.all Bs && Gf p)))) (Np (PR (n + 6) AV) (n + 6) (fun x H => Bf Au E0.tp 4 H x) m (.ptr i1 0) (El p.fCodes) (.sc (.int .i64 ((p.fCodes.length : Nat) : Int))) (.sc (.int .i64 i)) H)
 | [], pre, m + 1, i, i1, H, he, hi, hm, s0 => by
  obtain rfl : pre = p.fCodes := by simpa using he.symm
  have hl1 := hp.l1
  have hl2 := hp.l2
  have hl3 := hp.l3
  have hlen := hp.l3
  rw [Np]
  try simp only [B6, Ba, A4, D5, Av, Bh, Pr.gT, Pr.gF, Pr.hT, Pr.hF, Pr.kT, Pr.kF, Bv, B5, Bu]
  refine Dw (Ax (by simp [hi]) (Ab (o' := 22) rfl (Ap (c := C5 Bw p.fWants) s0 (.here) rfl (Cz (Ab (o' := 23) rfl (Ap (c := En p.fNames) s0 (.here) rfl (Cz (B9 (by omega) (by omega) (Ab (o' := 24) rfl (Ap (c := El p.fCodes) s0 (.here) rfl (Cz (B9 (by omega) (by omega) (Aq (v := (.bool (B3 ((((p.fWants.length : Nat) : Int) + ((p.fNames.length : Nat) : Int)) + ((p.fCodes.length : Nat) : Int)) 1 4))) s0 rfl (My .nil) (Hz (n + 5) _ ((((p.fWants.length : Nat) : Int) + ((p.fNames.length : Nat) : Int)) + ((p.fCodes.length : Nat) : Int)) 1 4) (Ai rfl ?_))))))))))))))
  have e : ([].all Bs && Gf p) = (B3 ((((p.fWants.length : Nat) : Int) + ((p.fNames.length : Nat) : Int)) + ((p.fCodes.length : Nat) : Int)) 1 4) := by
   simp only [zap, za6, Bz, Bs, Gf, Cw]
  rw [e]
 | y :: t, pre, m + 1, i, i1, H, he, hi, hm, s0 => by
  have hlt : pre.length < p.fCodes.length := by rw [he]; simp
  have hl1 := hp.l1
  have hl2 := hp.l2
  have hl3 := hp.l3
  have hlen := hp.l3
  rw [Np]
  try simp only [B6, Ba, A4, D5, Av, Bh, Pr.gT, Pr.gF, Pr.hT, Pr.hF, Pr.kT, Pr.kF, Bv, B5, Bu]
  refine Dw (As (by simp [hi]; omega) (J9 hi he (Fg (c := .sc (.int .i64 y)) rfl (Aq (v := (.bool (B3 y 0 2))) s0 rfl (.cons .sc .nil) (Rl (n + 4) y) (C2 (Aa ((B3 y 0 2)) (fun h201 => ?_) (fun h201 => ?_)))))))
  refine Ac (nF h201) (Ac (nF h201) (A7 (nF h201) (Ax rfl (B9 (by omega) (by omega) ?_))))
  have e202 : ((y :: t).all Bs && Gf p) = (t.all Bs && Gf p) := by
   simp only [zap, Bz, Bs, h201, zaA, zaI, zaB, zaX, zbe, zbj, zaF, zaw, za0]
  rw [e202]
  exact O6 n hn p hp   t (pre ++ [y]) m _ i1 _ (by rw [he]; simp) (by rw [hi]; simp) (by simpa using hm) (by simpa only [za4, zaq, zaC] using (s0.sel (.cons (.here) .nil)))
  refine Ae (nT h201) (Ae (nT h201) (Mi (B4 (nT h201) (Aa ((decide (y = 128))) (fun h203 => ?_) (fun h203 => ?_)))))
  refine Ax (nF h203) (B9 (by omega) (by omega) ?_)
  have e204 : ((y :: t).all Bs && Gf p) = (t.all Bs && Gf p) := by
   simp only [zap, Bz, Bs, h201, h203, zaA, zaI, zaB, zaX, zbe, zbj, zaF, zaw, za0]
  rw [e204]
  exact O6 n hn p hp   t (pre ++ [y]) m _ i1 _ (by rw [he]; simp) (by rw [hi]; simp) (by simpa using hm) (by simpa only [za4, zaq, zaC] using (s0.sel (.cons (.here) .nil)))
  refine As (nT h203) (Ai rfl ?_)
  have e : ((y :: t).all Bs && Gf p) = false := by
   simp only [zap, za6, Bz, Bs, Gf, h201, h203, Cw]
  rw [e]
theorem Tt (n : Nat) (hn : 1048576 < n) (p : PacketV) (hp : Hd p)   : ∀ (t pre : List ByteArray) (m : Nat) (i : Int) (i1 : Nat) (H : Ad), p.fNames = pre ++ t → i = ((pre.length : Nat) : Int) → t.length < m → Sep H [.blk i1 (Ar p) true] → Gd (· = some (.sc (.bool (t.all Cb && Jp p)))) (K2 (PR (n + 6) AV) (n + 6) (fun x H => Bf Au E0.tp 4 H x) m (.ptr i1 0) (En p.fNames) (.sc (.int .i64 ((p.fNames.length : Nat) : Int))) (.sc (.int .i64 i)) H)
 | [], pre, m + 1, i, i1, H, he, hi, hm, s0 => by
  obtain rfl : pre = p.fNames := by simpa using he.symm
  have hl1 := hp.l1
  have hl2 := hp.l2
  have hl3 := hp.l3
  have hlen := hp.l2
  rw [K2]
  try simp only [B6, Ba, A4, D5, Av, B5, Bu]
  refine Dw (Ax (by simp [hi]) (Ab (o' := 24) rfl (Ap (c := El p.fCodes) s0 (.here) rfl (Cz ?_))))
  rw [za6, zaA]
  have hv : Jp p = (p.fCodes.all Bs && Gf p) := rfl
  rw [hv]
  exact O6 n hn p hp   p.fCodes [] _ 0 i1 _ rfl rfl (by omega) s0
 | y :: t, pre, m + 1, i, i1, H, he, hi, hm, s0 => by
  have hlt : pre.length < p.fNames.length := by rw [he]; simp
  have hl1 := hp.l1
  have hl2 := hp.l2
  have hl3 := hp.l3
  have hlen := hp.l2
  rw [K2]
  try simp only [B6, Ba, A4, D5, Av, B5, Bu]
  refine Dw (As (by simp [hi]; omega) (Nc hi he (Fg (c := .sc (.string y)) rfl (Aq (v := (.bool (Cb y))) s0 rfl (.cons .sc .nil) (To n (by omega) y (hp.w2 y (by rw [he]; simp)) (Kp (hp.w2 y (by rw [he]; simp)))) (C2 (Aa ((Cb y)) (fun h201 => ?_) (fun h201 => ?_)))))))
  refine Ax (nF h201) (B9 (by omega) (by omega) ?_)
  have e202 : ((y :: t).all Cb && Jp p) = (t.all Cb && Jp p) := by
   simp only [zap, Bz, Bs, h201, zaA, zaI, zaB, zaX, zbe, zbj, zaF, zaw, za0]
  rw [e202]
  exact Tt n hn p hp   t (pre ++ [y]) m _ i1 _ (by rw [he]; simp) (by rw [hi]; simp) (by simpa using hm) (by simpa only [za4, zaq, zaC] using (s0.sel (.cons (.here) .nil)))
  refine As (nT h201) (Ai rfl ?_)
  have e : ((y :: t).all Cb && Jp p) = false := by
   simp only [zap, za6, Bz, Bs, Gf, h201, Cw]
  rw [e]
theorem Ts (n : Nat) (hn : 1048576 < n) (p : PacketV) (hp : Hd p)   : ∀ (t pre : List WantV) (m : Nat) (i : Int) (i1 : Nat) (H : Ad), p.fWants = pre ++ t → i = ((pre.length : Nat) : Int) → t.length < m → Sep H [.blk i1 (Ar p) true] → Gd (· = some (.sc (.bool (t.all Bz && Iz p)))) (K1 (PR (n + 6) AV) (n + 6) (fun x H => Bf Au E0.tp 4 H x) m (.ptr i1 0) (C5 Bw p.fWants) (.sc (.int .i64 ((p.fWants.length : Nat) : Int))) (.sc (.int .i64 i)) H)
 | [], pre, m + 1, i, i1, H, he, hi, hm, s0 => by
  obtain rfl : pre = p.fWants := by simpa using he.symm
  have hl1 := hp.l1
  have hl2 := hp.l2
  have hl3 := hp.l3
  have hlen := hp.l1
  rw [K1]
  try simp only [F8, B6, Ba, D9, A4, D5, Av, Bh, Pr.gT, Pr.gF, Pr.hT, Pr.hF, Pr.kT, Pr.kF, Bv, B5, Bu]
  refine Dw (Ax (by simp [hi]) (Ab (o' := 23) rfl (Ap (c := En p.fNames) s0 (.here) rfl (Cz ?_))))
  rw [za6, zaA]
  have hv : Iz p = (p.fNames.all Cb && Jp p) := rfl
  rw [hv]
  exact Tt n hn p hp   p.fNames [] _ 0 i1 _ rfl rfl (by omega) s0
 | y :: t, pre, m + 1, i, i1, H, he, hi, hm, s0 => by
  have hlt : pre.length < p.fWants.length := by rw [he]; simp
  have hl1 := hp.l1
  have hl2 := hp.l2
  have hl3 := hp.l3
  have hlen := hp.l1
  rw [K1]
  try simp only [F8, B6, Ba, D9, A4, D5, Av, Bh, Pr.gT, Pr.gF, Pr.hT, Pr.hF, Pr.kT, Pr.kF, Bv, B5, Bu]
  refine Dw (As (by simp [hi]; omega) (Mp hi Gu (by decide) he (AjA (Gu _) (I6 s0 fun i201 H s202 => Ci (cs' := Bw y) s202 (.here) (G6 (Vj _)) rfl (Cn rfl) rfl fun H s203 => Ab (o' := 0) rfl (Ap (c := .sc (.string y.fFilter)) s203 (.here) rfl (Aq (v := (.bool (Cb y.fFilter))) s203 rfl (.cons .sc .nil) (To n (by omega) y.fFilter (hp.w1 y (by rw [he]; simp)) (Kp (hp.w1 y (by rw [he]; simp)))) (C2 (Aa ((Cb y.fFilter)) (fun h204 => ?_) (fun h204 => ?_)))))))))
  refine Ae (nF h204) (Ab (o' := 1) rfl (Ae (nF h204) (Ap (c := si y.fQos) s203 (.here) rfl (Ae (nF h204) (Aq (v := (.bool (B3 y.fQos 0 2))) s203 rfl (.cons .sc .nil) (Rl (n + 4) y.fQos) (Ae (nF h204) (C2 (A7 (nF h204) (Aa ((B3 y.fQos 0 2)) (fun h205 => ?_) (fun h205 => ?_))))))))))
  refine Ax (nF h205) (B9 (by omega) (by omega) ?_)
  have e206 : ((y :: t).all Bz && Iz p) = (t.all Bz && Iz p) := by
   simp only [zap, Bz, Bs, h204, h205, zaA, zaI, zaB, zaX, zbe, zbj, zaF, zaw, za0]
  rw [e206]
  exact Ts n hn p hp   t (pre ++ [y]) m _ i1 _ (by rw [he]; simp) (by rw [hi]; simp) (by simpa using hm) (by simpa only [za4, zaq, zaC] using (s203.sel (.cons C0 .nil)))
  refine As (nT h205) (Ai rfl ?_)
  have e : ((y :: t).all Bz && Iz p) = false := by
   simp only [zap, za6, Bz, Bs, Gf, h204, h205, Cw]
  rw [e]
  refine Ac (nT h204) (Ac (nT h204) (Ac (nT h204) (Ac (nT h204) (B4 (nT h204) (As rfl (Ai rfl ?_))))))
  have e : ((y :: t).all Bz && Iz p) = false := by
   simp only [zap, za6, Bz, Bs, Gf, h204, Cw]
  rw [e]
theorem M7 (n : Nat) (hn : 1048576 < n) (p : PacketV) (hp : Hd p) : Dd E0 (n + 7) 4 110 [.agg (Ar p)] = some (.sc (.bool (Fb p))) := by
 rw [Bd, Ahw, f110]
 refine C6 (G := (· = some (sb (Fb p)))) ?_
 have hl1 := hp.l1
 have hl2 := hp.l2
 have hl3 := hp.l3
 try simp only [Gw, B6, Ba, B5]
 have s0 : Sep [] [] := Cx
 refine Od s0 (G6 (Cy _)) fun i1 H s2 => Ab (o' := 22) rfl (Ap (c := C5 Bw p.fWants) s2 (.here) rfl (Cz ?_))
 have hv : Fb p = (p.fWants.all Bz && Iz p) := rfl
 rw [hv]
 exact Ts n hn p hp   p.fWants [] _ 0 i1 _ rfl rfl (by omega) s2
theorem So (n : Nat) (hn : 1048576 < n) (p : PacketV) (hp : Hd p) : Dd E0 (n + 10) 4 70 [.agg (Ar p)] = some (.sc (.bool (Ah p))) := by
 rw [Bd, Akz, f70]
 refine C6 (G := (· = some (sb (Ah p)))) ?_
 try simp only [Gw, B6, Ba, A4, D5, Av, Bh, Pr.gT, Pr.gF, Pr.hT, Pr.hF, Pr.kT, Pr.kF, Bv, B5]
 have s0 : Sep [] [] := Cx
 refine Od s0 (G6 (Cy _)) fun i1 H s2 => Ab (o' := 0) rfl (Ap (c := si p.fType) s2 (.here) rfl (Aq (v := (.bool (B3 p.fType 1 14))) s2 rfl (My .nil) (Hz (n + 8) _ p.fType 1 14) (C2 (Aa ((B3 p.fType 1 14)) (fun h3 => ?_) (fun h3 => ?_)))))
 refine Ae (nF h3) (At s2 (.here) rfl (Gd.bothE ?_ ?_))
 refine Ae (nF h3) (At s2 (.here) rfl (Ae (nF h3) (J6 rfl rfl (Vp (n + 8) (by omega) p s2 fun Rs4 H hRs4 s4 => Ae (nF h3) (Aq (v := (.bool (Cp p (Az false p)))) s4 rfl (.aggF (Cy _) (.agg (hRs4 _) .nil)) (Of (n + 7) (by omega) _ p (Az false p) hp.l1 hp.l2 hp.l3) (Ae (nF h3) (C2 (A7 (nF h3) (Aa ((Cp p (Az false p))) (fun h5 => ?_) (fun h5 => ?_))))))))))
 refine Ax (nF h5) (Ab (o' := 0) rfl (Ap (c := si p.fType) s4 (.here) rfl (Be (Aa ((decide (p.fType = 1))) (fun h6 => ?_) (fun h6 => ?_)))))
 refine As h6 (At s4 (.here) rfl (Aq (v := (.bool (Ca p))) s4 rfl (.aggF (Cy _) .nil) (Ut (n + 3) (by omega) p hp) (Ai rfl ?_)))
 have e : Ah p = (Ca p) := by
  try simp only [Cm] at h6
  unfold Ah Bx
  (simp only [h3, h5, Cw]; simp [h6]; done)
 rw [e]
 refine Ax h6 (Be (Aa ((decide (p.fType = 2))) (fun h7 => ?_) (fun h7 => ?_)))
 refine As h7 (Ab (o' := 20) rfl (Ap (c := si p.fCode) s4 (.here) rfl (Aq (v := (.bool (B3 p.fCode 0 5))) s4 rfl (My .nil) (Hz (n + 8) _ p.fCode 0 5) (Aa ((B3 p.fCode 0 5)) (fun h8 => ?_) (fun h8 => ?_)))))
 refine Ae h8 (Ab (o' := 21) rfl (Ae h8 (Ap (c := sb p.fPresent) s4 (.here) rfl (Ae h8 (C2 (Ae h8 (Aa (p.fPresent) (fun h9 => ?_) (fun h9 => ?_))))))))
 refine Ae (nF h9) (Ab (o' := 20) rfl (Ae (nF h9) (Ap (c := si p.fCode) s4 (.here) rfl (Ae (nF h9) (Be (Ae h8 (A7 (nF h9) (B4 h8 (Ai rfl ?_)))))))))
 have e : Ah p = (decide (p.fCode = 0)) := by
  try simp only [Cm] at h6 h7
  unfold Ah Bx
  (simp only [h3, h5, h8, h9, Cw]; simp [h6, h7]; done)
 rw [e]
 refine Ac (nT h9) (Ac (nT h9) (Ac (nT h9) (Ae h8 (B4 (nT h9) (B4 h8 (Ai rfl ?_))))))
 have e : Ah p = true := by
  try simp only [Cm] at h6 h7
  unfold Ah Bx
  (simp only [h3, h5, h8, h9, Cw]; simp [h6, h7]; done)
 rw [e]
 refine Ac h8 (Ac h8 (Ac h8 (Ac h8 (D1 (D1 (D1 (Ac h8 (A7 h8 (Ai rfl ?_)))))))))
 have e : Ah p = false := by
  try simp only [Cm] at h6 h7
  unfold Ah Bx
  (simp only [h3, h5, h8, Cw]; simp [h6, h7]; done)
 rw [e]
 refine Ax h7 (Be (Aa ((decide (p.fType = 3))) (fun h10 => ?_) (fun h10 => ?_)))
 refine As h10 (Ab (o' := 2) rfl (Ap (c := si p.fQos) s4 (.here) rfl (Aq (v := (.bool (B3 p.fQos 0 2))) s4 rfl (.cons .sc .nil) (Rl (n + 7) p.fQos) (Aa ((B3 p.fQos 0 2)) (fun h11 => ?_) (fun h11 => ?_)))))
 refine Ae h11 (Ab (o' := 5) rfl (Ae h11 (Ap (c := ss p.fTopic) s4 (.here) rfl (Ae h11 (Aq (v := (.bool (Dl p.fTopic))) s4 rfl (.cons .sc .nil) (Qu (n + 4) (by omega) _ p.fTopic hp.t1) (B4 h11 (Aa ((Dl p.fTopic)) (fun h12 => ?_) (fun h12 => ?_))))))))
 refine Ae h12 (Ab (o' := 6) rfl (Ae h12 (Ap (c := Ag p.fBody) s4 (.here) rfl (Ae h12 (Cz (Ae h12 (Ku (B4 h12 (Aa ((decide (((p.fBody.size : Nat) : Int) ≤ 40))) (fun h13 => ?_) (fun h13 => ?_))))))))))
 refine Ae h13 (Ab (o' := 2) rfl (Ae h13 (Ap (c := si p.fQos) s4 (.here) rfl (Ae h13 (Be (Ae h13 (Aa ((decide (p.fQos = 0))) (fun h14 => ?_) (fun h14 => ?_))))))))
 refine Ac h14 (Ac h14 (Ac h14 (Ae h13 (B4 h14 (B4 h13 (Ai rfl ?_))))))
 have e : Ah p = true := by
  try simp only [Cm] at h6 h7 h10 h13 h14
  unfold Ah Bx
  (simp only [h3, h5, h11, h12, Cw]; simp [h6, h7, h10, h13, h14]; done)
 rw [e]
 refine Ae h14 (Ab (o' := 4) rfl (Ae h14 (Ap (c := si p.fId) s4 (.here) rfl (Ae h14 (Aq (v := (.bool (B3 p.fId 1 65535))) s4 rfl (.cons .sc .nil) (Hw (n + 7) p.fId) (Ae h13 (A7 h14 (B4 h13 (Ai rfl ?_)))))))))
 have e : Ah p = (B3 p.fId 1 65535) := by
  try simp only [Cm] at h6 h7 h10 h13 h14
  unfold Ah Bx
  (simp only [h3, h5, h11, h12, Cw]; simp [h6, h7, h10, h13, h14]; done)
 rw [e]
 refine Ac h13 (Ac h13 (Ac h13 (Ac h13 (D1 (D1 (D1 (Ac h13 (A7 h13 (Ai rfl ?_)))))))))
 have e : Ah p = false := by
  try simp only [Cm] at h6 h7 h10 h13
  unfold Ah Bx
  (simp only [h3, h5, h11, h12, Cw]; simp [h6, h7, h10, h13]; done)
 rw [e]
 refine Ac h12 (Ac h12 (Ac h12 (Ac h12 (A7 h12 (Ac rfl (Ac rfl (Ac rfl (Ac rfl (D1 (D1 (D1 (Ac rfl (A7 rfl (Ai rfl ?_))))))))))))))
 have e : Ah p = false := by
  try simp only [Cm] at h6 h7 h10
  unfold Ah Bx
  (simp only [h3, h5, h11, h12, Cw]; simp [h6, h7, h10]; done)
 rw [e]
 refine Ac h11 (Ac h11 (Ac h11 (A7 h11 (Ac rfl (Ac rfl (Ac rfl (Ac rfl (A7 rfl (Ac rfl (Ac rfl (Ac rfl (Ac rfl (D1 (D1 (D1 (Ac rfl (A7 rfl (Ai rfl ?_))))))))))))))))))
 have e : Ah p = false := by
  try simp only [Cm] at h6 h7 h10
  unfold Ah Bx
  (simp only [h3, h5, h11, Cw]; simp [h6, h7, h10]; done)
 rw [e]
 refine Ax h10 (Be (Di (Aa ((decide (p.fType = 4))) (fun h15 => ?_) (fun h15 => ?_))))
 refine As h15 (As h15 (Ab (o' := 4) rfl (Ap (c := si p.fId) s4 (.here) rfl (Aq (v := (.bool (B3 p.fId 1 65535))) s4 rfl (.cons .sc .nil) (Hw (n + 7) p.fId) (Ai rfl ?_)))))
 have e : Ah p = (B3 p.fId 1 65535) := by
  try simp only [Cm] at h6 h7 h10 h15
  unfold Ah Bx
  (simp only [h3, h5, Cw]; simp [h6, h7, h10, h15]; done)
 rw [e]
 refine Ax h15 (Be (Aa ((decide (p.fType = 5))) (fun h16 => ?_) (fun h16 => ?_)))
 refine As h16 (As h16 (Ab (o' := 4) rfl (Ap (c := si p.fId) s4 (.here) rfl (Aq (v := (.bool (B3 p.fId 1 65535))) s4 rfl (.cons .sc .nil) (Hw (n + 7) p.fId) (Ai rfl ?_)))))
 have e : Ah p = (B3 p.fId 1 65535) := by
  try simp only [Cm] at h6 h7 h10 h15 h16
  unfold Ah Bx
  (simp only [h3, h5, Cw]; simp [h6, h7, h10, h15, h16]; done)
 rw [e]
 refine Ax h16 (Be (Aa ((decide (p.fType = 6))) (fun h17 => ?_) (fun h17 => ?_)))
 refine As h17 (As h17 (Ab (o' := 4) rfl (Ap (c := si p.fId) s4 (.here) rfl (Aq (v := (.bool (B3 p.fId 1 65535))) s4 rfl (.cons .sc .nil) (Hw (n + 7) p.fId) (Ai rfl ?_)))))
 have e : Ah p = (B3 p.fId 1 65535) := by
  try simp only [Cm] at h6 h7 h10 h15 h16 h17
  unfold Ah Bx
  (simp only [h3, h5, Cw]; simp [h6, h7, h10, h15, h16, h17]; done)
 rw [e]
 refine Ax h17 (Be (Aa ((decide (p.fType = 7))) (fun h18 => ?_) (fun h18 => ?_)))
 refine As h18 (As h18 (Ab (o' := 4) rfl (Ap (c := si p.fId) s4 (.here) rfl (Aq (v := (.bool (B3 p.fId 1 65535))) s4 rfl (.cons .sc .nil) (Hw (n + 7) p.fId) (Ai rfl ?_)))))
 have e : Ah p = (B3 p.fId 1 65535) := by
  try simp only [Cm] at h6 h7 h10 h15 h16 h17 h18
  unfold Ah Bx
  (simp only [h3, h5, Cw]; simp [h6, h7, h10, h15, h16, h17, h18]; done)
 rw [e]
 refine Ax h18 (Be (Aa ((decide (p.fType = 11))) (fun h19 => ?_) (fun h19 => ?_)))
 refine As h19 (Ab (o' := 4) rfl (Ap (c := si p.fId) s4 (.here) rfl (Aq (v := (.bool (B3 p.fId 1 65535))) s4 rfl (.cons .sc .nil) (Hw (n + 7) p.fId) (Ai rfl ?_))))
 have e : Ah p = (B3 p.fId 1 65535) := by
  try simp only [Cm] at h6 h7 h10 h15 h16 h17 h18 h19
  unfold Ah Bx
  (simp only [h3, h5, Cw]; simp [h6, h7, h10, h15, h16, h17, h18, h19]; done)
 rw [e]
 refine Ax h19 (Be (Di (Aa ((decide (p.fType = 8))) (fun h20 => ?_) (fun h20 => ?_))))
 refine As h20 (As h20 (Ab (o' := 4) rfl (Ap (c := si p.fId) s4 (.here) rfl (Aq (v := (.bool (B3 p.fId 1 65535))) s4 rfl (.cons .sc .nil) (Hw (n + 7) p.fId) (Aa ((B3 p.fId 1 65535)) (fun h21 => ?_) (fun h21 => ?_))))))
 refine Ae h21 (At s4 (.here) rfl (Ae h21 (Aq (v := (.bool (Fb p))) s4 rfl (.aggF (Cy _) .nil) (M7 (n + 2) (by omega) p hp) (B4 h21 (Ai rfl ?_)))))
 have e : Ah p = (Fb p) := by
  try simp only [Cm] at h6 h7 h10 h15 h16 h17 h18 h19 h20
  unfold Ah Bx
  (simp only [h3, h5, h21, Cw]; simp [h6, h7, h10, h15, h16, h17, h18, h19, h20]; done)
 rw [e]
 refine Ac h21 (Ac h21 (A7 h21 (Ai rfl ?_)))
 have e : Ah p = false := by
  try simp only [Cm] at h6 h7 h10 h15 h16 h17 h18 h19 h20
  unfold Ah Bx
  (simp only [h3, h5, h21, Cw]; simp [h6, h7, h10, h15, h16, h17, h18, h19, h20]; done)
 rw [e]
 refine Ax h20 (Be (Aa ((decide (p.fType = 9))) (fun h22 => ?_) (fun h22 => ?_)))
 refine As h22 (As h22 (Ab (o' := 4) rfl (Ap (c := si p.fId) s4 (.here) rfl (Aq (v := (.bool (B3 p.fId 1 65535))) s4 rfl (.cons .sc .nil) (Hw (n + 7) p.fId) (Aa ((B3 p.fId 1 65535)) (fun h23 => ?_) (fun h23 => ?_))))))
 refine Ae h23 (At s4 (.here) rfl (Ae h23 (Aq (v := (.bool (Fb p))) s4 rfl (.aggF (Cy _) .nil) (M7 (n + 2) (by omega) p hp) (B4 h23 (Ai rfl ?_)))))
 have e : Ah p = (Fb p) := by
  try simp only [Cm] at h6 h7 h10 h15 h16 h17 h18 h19 h20 h22
  unfold Ah Bx
  (simp only [h3, h5, h23, Cw]; simp [h6, h7, h10, h15, h16, h17, h18, h19, h20, h22]; done)
 rw [e]
 refine Ac h23 (Ac h23 (A7 h23 (Ai rfl ?_)))
 have e : Ah p = false := by
  try simp only [Cm] at h6 h7 h10 h15 h16 h17 h18 h19 h20 h22
  unfold Ah Bx
  (simp only [h3, h5, h23, Cw]; simp [h6, h7, h10, h15, h16, h17, h18, h19, h20, h22]; done)
 rw [e]
 refine Ax h22 (Be (Aa ((decide (p.fType = 10))) (fun h24 => ?_) (fun h24 => ?_)))
 refine As h24 (Ab (o' := 4) rfl (Ap (c := si p.fId) s4 (.here) rfl (Aq (v := (.bool (B3 p.fId 1 65535))) s4 rfl (.cons .sc .nil) (Hw (n + 7) p.fId) (Aa ((B3 p.fId 1 65535)) (fun h25 => ?_) (fun h25 => ?_)))))
 refine Ae h25 (At s4 (.here) rfl (Ae h25 (Aq (v := (.bool (Fb p))) s4 rfl (.aggF (Cy _) .nil) (M7 (n + 2) (by omega) p hp) (B4 h25 (Ai rfl ?_)))))
 have e : Ah p = (Fb p) := by
  try simp only [Cm] at h6 h7 h10 h15 h16 h17 h18 h19 h20 h22 h24
  unfold Ah Bx
  (simp only [h3, h5, h25, Cw]; simp [h6, h7, h10, h15, h16, h17, h18, h19, h20, h22, h24]; done)
 rw [e]
 refine Ac h25 (Ac h25 (A7 h25 (Ai rfl ?_)))
 have e : Ah p = false := by
  try simp only [Cm] at h6 h7 h10 h15 h16 h17 h18 h19 h20 h22 h24
  unfold Ah Bx
  (simp only [h3, h5, h25, Cw]; simp [h6, h7, h10, h15, h16, h17, h18, h19, h20, h22, h24]; done)
 rw [e]
 refine Ax h24 (Ai rfl ?_)
 have e : Ah p = true := by
  try simp only [Cm] at h6 h7 h10 h15 h16 h17 h18 h19 h20 h22 h24
  unfold Ah Bx
  (simp only [h3, h5, Cw]; simp [h6, h7, h10, h15, h16, h17, h18, h19, h20, h22, h24]; done)
 rw [e]
 refine As (nT h5) (Ai rfl ?_)
 have e : Ah p = false := by
  unfold Ah Bx
  (simp only [h3, h5, Cw]; done)
 rw [e]
 refine Ae (nF h3) (J6 rfl rfl (Vp (n + 8) (by omega) p s2 fun Rs26 H hRs26 s26 => Ae (nF h3) (At s26 (.here) rfl (Ae (nF h3) (Aq (v := (.bool (Cp p (Az false p)))) s26 rfl (.aggF (Cy _) (.agg (hRs26 _) .nil)) (Of (n + 7) (by omega) _ p (Az false p) hp.l1 hp.l2 hp.l3) (Ae (nF h3) (C2 (A7 (nF h3) (Aa ((Cp p (Az false p))) (fun h27 => ?_) (fun h27 => ?_))))))))))
 refine Ax (nF h27) (Ab (o' := 0) rfl (Ap (c := si p.fType) s26 (.here) rfl (Be (Aa ((decide (p.fType = 1))) (fun h28 => ?_) (fun h28 => ?_)))))
 refine As h28 (At s26 (.here) rfl (Aq (v := (.bool (Ca p))) s26 rfl (.aggF (Cy _) .nil) (Ut (n + 3) (by omega) p hp) (Ai rfl ?_)))
 have e : Ah p = (Ca p) := by
  try simp only [Cm] at h28
  unfold Ah Bx
  (simp only [h3, h27, Cw]; simp [h28]; done)
 rw [e]
 refine Ax h28 (Be (Aa ((decide (p.fType = 2))) (fun h29 => ?_) (fun h29 => ?_)))
 refine As h29 (Ab (o' := 20) rfl (Ap (c := si p.fCode) s26 (.here) rfl (Aq (v := (.bool (B3 p.fCode 0 5))) s26 rfl (My .nil) (Hz (n + 8) _ p.fCode 0 5) (Aa ((B3 p.fCode 0 5)) (fun h30 => ?_) (fun h30 => ?_)))))
 refine Ae h30 (Ab (o' := 21) rfl (Ae h30 (Ap (c := sb p.fPresent) s26 (.here) rfl (Ae h30 (C2 (Ae h30 (Aa (p.fPresent) (fun h31 => ?_) (fun h31 => ?_))))))))
 refine Ae (nF h31) (Ab (o' := 20) rfl (Ae (nF h31) (Ap (c := si p.fCode) s26 (.here) rfl (Ae (nF h31) (Be (Ae h30 (A7 (nF h31) (B4 h30 (Ai rfl ?_)))))))))
 have e : Ah p = (decide (p.fCode = 0)) := by
  try simp only [Cm] at h28 h29
  unfold Ah Bx
  (simp only [h3, h27, h30, h31, Cw]; simp [h28, h29]; done)
 rw [e]
 refine Ac (nT h31) (Ac (nT h31) (Ac (nT h31) (Ae h30 (B4 (nT h31) (B4 h30 (Ai rfl ?_))))))
 have e : Ah p = true := by
  try simp only [Cm] at h28 h29
  unfold Ah Bx
  (simp only [h3, h27, h30, h31, Cw]; simp [h28, h29]; done)
 rw [e]
 refine Ac h30 (Ac h30 (Ac h30 (Ac h30 (D1 (D1 (D1 (Ac h30 (A7 h30 (Ai rfl ?_)))))))))
 have e : Ah p = false := by
  try simp only [Cm] at h28 h29
  unfold Ah Bx
  (simp only [h3, h27, h30, Cw]; simp [h28, h29]; done)
 rw [e]
 refine Ax h29 (Be (Aa ((decide (p.fType = 3))) (fun h32 => ?_) (fun h32 => ?_)))
 refine As h32 (Ab (o' := 2) rfl (Ap (c := si p.fQos) s26 (.here) rfl (Aq (v := (.bool (B3 p.fQos 0 2))) s26 rfl (.cons .sc .nil) (Rl (n + 7) p.fQos) (Aa ((B3 p.fQos 0 2)) (fun h33 => ?_) (fun h33 => ?_)))))
 refine Ae h33 (Ab (o' := 5) rfl (Ae h33 (Ap (c := ss p.fTopic) s26 (.here) rfl (Ae h33 (Aq (v := (.bool (Dl p.fTopic))) s26 rfl (.cons .sc .nil) (Qu (n + 4) (by omega) _ p.fTopic hp.t1) (B4 h33 (Aa ((Dl p.fTopic)) (fun h34 => ?_) (fun h34 => ?_))))))))
 refine Ae h34 (Ab (o' := 6) rfl (Ae h34 (Ap (c := Ag p.fBody) s26 (.here) rfl (Ae h34 (Cz (Ae h34 (Ku (B4 h34 (Aa ((decide (((p.fBody.size : Nat) : Int) ≤ 40))) (fun h35 => ?_) (fun h35 => ?_))))))))))
 refine Ae h35 (Ab (o' := 2) rfl (Ae h35 (Ap (c := si p.fQos) s26 (.here) rfl (Ae h35 (Be (Ae h35 (Aa ((decide (p.fQos = 0))) (fun h36 => ?_) (fun h36 => ?_))))))))
 refine Ac h36 (Ac h36 (Ac h36 (Ae h35 (B4 h36 (B4 h35 (Ai rfl ?_))))))
 have e : Ah p = true := by
  try simp only [Cm] at h28 h29 h32 h35 h36
  unfold Ah Bx
  (simp only [h3, h27, h33, h34, Cw]; simp [h28, h29, h32, h35, h36]; done)
 rw [e]
 refine Ae h36 (Ab (o' := 4) rfl (Ae h36 (Ap (c := si p.fId) s26 (.here) rfl (Ae h36 (Aq (v := (.bool (B3 p.fId 1 65535))) s26 rfl (.cons .sc .nil) (Hw (n + 7) p.fId) (Ae h35 (A7 h36 (B4 h35 (Ai rfl ?_)))))))))
 have e : Ah p = (B3 p.fId 1 65535) := by
  try simp only [Cm] at h28 h29 h32 h35 h36
  unfold Ah Bx
  (simp only [h3, h27, h33, h34, Cw]; simp [h28, h29, h32, h35, h36]; done)
 rw [e]
 refine Ac h35 (Ac h35 (Ac h35 (Ac h35 (D1 (D1 (D1 (Ac h35 (A7 h35 (Ai rfl ?_)))))))))
 have e : Ah p = false := by
  try simp only [Cm] at h28 h29 h32 h35
  unfold Ah Bx
  (simp only [h3, h27, h33, h34, Cw]; simp [h28, h29, h32, h35]; done)
 rw [e]
 refine Ac h34 (Ac h34 (Ac h34 (Ac h34 (A7 h34 (Ac rfl (Ac rfl (Ac rfl (Ac rfl (D1 (D1 (D1 (Ac rfl (A7 rfl (Ai rfl ?_))))))))))))))
 have e : Ah p = false := by
  try simp only [Cm] at h28 h29 h32
  unfold Ah Bx
  (simp only [h3, h27, h33, h34, Cw]; simp [h28, h29, h32]; done)
 rw [e]
 refine Ac h33 (Ac h33 (Ac h33 (A7 h33 (Ac rfl (Ac rfl (Ac rfl (Ac rfl (A7 rfl (Ac rfl (Ac rfl (Ac rfl (Ac rfl (D1 (D1 (D1 (Ac rfl (A7 rfl (Ai rfl ?_))))))))))))))))))
 have e : Ah p = false := by
  try simp only [Cm] at h28 h29 h32
  unfold Ah Bx
  (simp only [h3, h27, h33, Cw]; simp [h28, h29, h32]; done)
 rw [e]
 refine Ax h32 (Be (Di (Aa ((decide (p.fType = 4))) (fun h37 => ?_) (fun h37 => ?_))))
 refine As h37 (As h37 (Ab (o' := 4) rfl (Ap (c := si p.fId) s26 (.here) rfl (Aq (v := (.bool (B3 p.fId 1 65535))) s26 rfl (.cons .sc .nil) (Hw (n + 7) p.fId) (Ai rfl ?_)))))
 have e : Ah p = (B3 p.fId 1 65535) := by
  try simp only [Cm] at h28 h29 h32 h37
  unfold Ah Bx
  (simp only [h3, h27, Cw]; simp [h28, h29, h32, h37]; done)
 rw [e]
 refine Ax h37 (Be (Aa ((decide (p.fType = 5))) (fun h38 => ?_) (fun h38 => ?_)))
 refine As h38 (As h38 (Ab (o' := 4) rfl (Ap (c := si p.fId) s26 (.here) rfl (Aq (v := (.bool (B3 p.fId 1 65535))) s26 rfl (.cons .sc .nil) (Hw (n + 7) p.fId) (Ai rfl ?_)))))
 have e : Ah p = (B3 p.fId 1 65535) := by
  try simp only [Cm] at h28 h29 h32 h37 h38
  unfold Ah Bx
  (simp only [h3, h27, Cw]; simp [h28, h29, h32, h37, h38]; done)
 rw [e]
 refine Ax h38 (Be (Aa ((decide (p.fType = 6))) (fun h39 => ?_) (fun h39 => ?_)))
 refine As h39 (As h39 (Ab (o' := 4) rfl (Ap (c := si p.fId) s26 (.here) rfl (Aq (v := (.bool (B3 p.fId 1 65535))) s26 rfl (.cons .sc .nil) (Hw (n + 7) p.fId) (Ai rfl ?_)))))
 have e : Ah p = (B3 p.fId 1 65535) := by
  try simp only [Cm] at h28 h29 h32 h37 h38 h39
  unfold Ah Bx
  (simp only [h3, h27, Cw]; simp [h28, h29, h32, h37, h38, h39]; done)
 rw [e]
 refine Ax h39 (Be (Aa ((decide (p.fType = 7))) (fun h40 => ?_) (fun h40 => ?_)))
 refine As h40 (As h40 (Ab (o' := 4) rfl (Ap (c := si p.fId) s26 (.here) rfl (Aq (v := (.bool (B3 p.fId 1 65535))) s26 rfl (.cons .sc .nil) (Hw (n + 7) p.fId) (Ai rfl ?_)))))
 have e : Ah p = (B3 p.fId 1 65535) := by
  try simp only [Cm] at h28 h29 h32 h37 h38 h39 h40
  unfold Ah Bx
  (simp only [h3, h27, Cw]; simp [h28, h29, h32, h37, h38, h39, h40]; done)
 rw [e]
 refine Ax h40 (Be (Aa ((decide (p.fType = 11))) (fun h41 => ?_) (fun h41 => ?_)))
 refine As h41 (Ab (o' := 4) rfl (Ap (c := si p.fId) s26 (.here) rfl (Aq (v := (.bool (B3 p.fId 1 65535))) s26 rfl (.cons .sc .nil) (Hw (n + 7) p.fId) (Ai rfl ?_))))
 have e : Ah p = (B3 p.fId 1 65535) := by
  try simp only [Cm] at h28 h29 h32 h37 h38 h39 h40 h41
  unfold Ah Bx
  (simp only [h3, h27, Cw]; simp [h28, h29, h32, h37, h38, h39, h40, h41]; done)
 rw [e]
 refine Ax h41 (Be (Di (Aa ((decide (p.fType = 8))) (fun h42 => ?_) (fun h42 => ?_))))
 refine As h42 (As h42 (Ab (o' := 4) rfl (Ap (c := si p.fId) s26 (.here) rfl (Aq (v := (.bool (B3 p.fId 1 65535))) s26 rfl (.cons .sc .nil) (Hw (n + 7) p.fId) (Aa ((B3 p.fId 1 65535)) (fun h43 => ?_) (fun h43 => ?_))))))
 refine Ae h43 (At s26 (.here) rfl (Ae h43 (Aq (v := (.bool (Fb p))) s26 rfl (.aggF (Cy _) .nil) (M7 (n + 2) (by omega) p hp) (B4 h43 (Ai rfl ?_)))))
 have e : Ah p = (Fb p) := by
  try simp only [Cm] at h28 h29 h32 h37 h38 h39 h40 h41 h42
  unfold Ah Bx
  (simp only [h3, h27, h43, Cw]; simp [h28, h29, h32, h37, h38, h39, h40, h41, h42]; done)
 rw [e]
 refine Ac h43 (Ac h43 (A7 h43 (Ai rfl ?_)))
 have e : Ah p = false := by
  try simp only [Cm] at h28 h29 h32 h37 h38 h39 h40 h41 h42
  unfold Ah Bx
  (simp only [h3, h27, h43, Cw]; simp [h28, h29, h32, h37, h38, h39, h40, h41, h42]; done)
 rw [e]
 refine Ax h42 (Be (Aa ((decide (p.fType = 9))) (fun h44 => ?_) (fun h44 => ?_)))
 refine As h44 (As h44 (Ab (o' := 4) rfl (Ap (c := si p.fId) s26 (.here) rfl (Aq (v := (.bool (B3 p.fId 1 65535))) s26 rfl (.cons .sc .nil) (Hw (n + 7) p.fId) (Aa ((B3 p.fId 1 65535)) (fun h45 => ?_) (fun h45 => ?_))))))
 refine Ae h45 (At s26 (.here) rfl (Ae h45 (Aq (v := (.bool (Fb p))) s26 rfl (.aggF (Cy _) .nil) (M7 (n + 2) (by omega) p hp) (B4 h45 (Ai rfl ?_)))))
 have e : Ah p = (Fb p) := by
  try simp only [Cm] at h28 h29 h32 h37 h38 h39 h40 h41 h42 h44
  unfold Ah Bx
  (simp only [h3, h27, h45, Cw]; simp [h28, h29, h32, h37, h38, h39, h40, h41, h42, h44]; done)
 rw [e]
 refine Ac h45 (Ac h45 (A7 h45 (Ai rfl ?_)))
 have e : Ah p = false := by
  try simp only [Cm] at h28 h29 h32 h37 h38 h39 h40 h41 h42 h44
  unfold Ah Bx
  (simp only [h3, h27, h45, Cw]; simp [h28, h29, h32, h37, h38, h39, h40, h41, h42, h44]; done)
 rw [e]
 refine Ax h44 (Be (Aa ((decide (p.fType = 10))) (fun h46 => ?_) (fun h46 => ?_)))
 refine As h46 (Ab (o' := 4) rfl (Ap (c := si p.fId) s26 (.here) rfl (Aq (v := (.bool (B3 p.fId 1 65535))) s26 rfl (.cons .sc .nil) (Hw (n + 7) p.fId) (Aa ((B3 p.fId 1 65535)) (fun h47 => ?_) (fun h47 => ?_)))))
 refine Ae h47 (At s26 (.here) rfl (Ae h47 (Aq (v := (.bool (Fb p))) s26 rfl (.aggF (Cy _) .nil) (M7 (n + 2) (by omega) p hp) (B4 h47 (Ai rfl ?_)))))
 have e : Ah p = (Fb p) := by
  try simp only [Cm] at h28 h29 h32 h37 h38 h39 h40 h41 h42 h44 h46
  unfold Ah Bx
  (simp only [h3, h27, h47, Cw]; simp [h28, h29, h32, h37, h38, h39, h40, h41, h42, h44, h46]; done)
 rw [e]
 refine Ac h47 (Ac h47 (A7 h47 (Ai rfl ?_)))
 have e : Ah p = false := by
  try simp only [Cm] at h28 h29 h32 h37 h38 h39 h40 h41 h42 h44 h46
  unfold Ah Bx
  (simp only [h3, h27, h47, Cw]; simp [h28, h29, h32, h37, h38, h39, h40, h41, h42, h44, h46]; done)
 rw [e]
 refine Ax h46 (Ai rfl ?_)
 have e : Ah p = true := by
  try simp only [Cm] at h28 h29 h32 h37 h38 h39 h40 h41 h42 h44 h46
  unfold Ah Bx
  (simp only [h3, h27, Cw]; simp [h28, h29, h32, h37, h38, h39, h40, h41, h42, h44, h46]; done)
 rw [e]
 refine As (nT h27) (Ai rfl ?_)
 have e : Ah p = false := by
  unfold Ah Bx
  (simp only [h3, h27, Cw]; done)
 rw [e]
 refine Ac (nT h3) (Gd.bothE ?_ ?_)
 refine Ac (nT h3) (Ac (nT h3) (Ac (nT h3) (Ac (nT h3) (B4 (nT h3) (As rfl (Ai rfl ?_))))))
 have e : Ah p = false := by
  unfold Ah Bx
  (simp only [h3, Cw]; done)
 rw [e]
 refine Ac (nT h3) (Ac (nT h3) (Ac (nT h3) (Ac (nT h3) (B4 (nT h3) (As rfl (Ai rfl ?_))))))
 have e : Ah p = false := by
  unfold Ah Bx
  (simp only [h3, Cw]; done)
 rw [e]
def Ch (p : PacketV) : Bool :=
 if p.fType = 1 then (if p.fHasWill = true ∧ ((Dl p.fWTopic && (decide (((p.fWBody.size : Nat) : Int) ≤ 40) && B3 p.fWQos 0 2)) = false) then false else (B3 p.fLevel 0 255 && (Bi p.fClient && (B3 p.fKeep 0 65535 && (Bi p.fUser && decide (((p.fPass.size : Nat) : Int) ≤ 60))))))
 else if p.fType = 2 then B3 p.fCode 0 5
 else if p.fType = 3 then (B3 p.fQos 0 2 && ((decide (p.fQos = 0) || B3 p.fId 1 65535) && (Dl p.fTopic && decide (((p.fBody.size : Nat) : Int) ≤ 40))))
 else if p.fType = 12 ∨ p.fType = 13 ∨ p.fType = 14 then true
 else if p.fType = 8 then (p.fWants.all Bz && (B3 p.fId 1 65535 && B3 ((p.fWants.length : Nat) : Int) 1 4))
 else if p.fType = 9 then (p.fCodes.all Bs && (B3 p.fId 1 65535 && B3 ((p.fCodes.length : Nat) : Int) 1 4))
 else if p.fType = 10 then (p.fNames.all Cb && (B3 p.fId 1 65535 && B3 ((p.fNames.length : Nat) : Int) 1 4))
 else B3 p.fId 1 65535
def Aj (p : PacketV) : Bool := B3 p.fType 1 14 && (Cp p (Az true p) && Ch p)
theorem R9 (n : Nat) (hn : 1048576 < n) (p : PacketV) (hp : Hd p) (h3 : (B3 p.fType 1 14) = true) (h5 : (Cp p (Az true p)) = true) (h6 : (decide (p.fType = 1)) = false) (h19 : (decide (p.fType = 2)) = false) (h20 : (decide (p.fType = 3)) = false) (h26 : (decide (p.fType = 12)) = false) (h27 : (decide (p.fType = 13)) = false) (h28 : (decide (p.fType = 14)) = false) (h29 : (decide (p.fType = 8)) = true)  : ∀ (t pre : List WantV) (m : Nat) (i : Int) (i1 : Nat) (H : Ad), p.fWants = pre ++ t → i = ((pre.length : Nat) : Int) → t.length < m → Sep H [.blk i1 (Ar p) true] → Gd (· = some (.sc (.bool (t.all Bz && (B3 p.fId 1 65535 && B3 ((p.fWants.length : Nat) : Int) 1 4))))) (Lr (PR (n + 9) AV) (n + 9) (fun x H => Bf Au E0.tp 4 H x) m (.ptr i1 0) (.sc (.bool (B3 p.fId 1 65535))) (.sc (.int .i64 i)) H)
 | [], pre, m + 1, i, i1, H, he, hi, hm, s0 => by
  obtain rfl : pre = p.fWants := by simpa using he.symm
  have hl1 := hp.l1
  have hl2 := hp.l2
  have hl3 := hp.l3
  have hlen := hp.l1
  rw [Lr]
  try simp only [B6, Ba, A4, D5, Av, Bh, Pr.gT, Pr.gF, Pr.hT, Pr.hF, Pr.kT, Pr.kF, Bv, B5, Bu]
  refine Ab (o' := 22) rfl (Ap (c := C5 Bw p.fWants) s0 (.here) rfl (Cz (Dw (Ax (by simp [hi]) (Aa ((B3 p.fId 1 65535)) (fun h201 => ?_) (fun h201 => ?_))))))
  refine Ae h201 (Ab (o' := 22) rfl (Ae h201 (Ap (c := C5 Bw p.fWants) s0 (.here) rfl (Ae h201 (Cz (Ae h201 (Aq (v := (.bool (B3 ((p.fWants.length : Nat) : Int) 1 4))) s0 rfl (My .nil) (Gt (n + 8) _ ((p.fWants.length : Nat) : Int) 1 4) (B4 h201 (Ai rfl ?_)))))))))
  have e : ([].all Bz && (B3 p.fId 1 65535 && B3 ((p.fWants.length : Nat) : Int) 1 4)) = (B3 ((p.fWants.length : Nat) : Int) 1 4) := by
   simp only [zap, za6, Bz, Bs, h3, h5, h6, h19, h20, h26, h27, h28, h29, h201, Cw]
  rw [e]
  refine Ac h201 (Ac h201 (Ac h201 (Ac h201 (A7 h201 (Ai rfl ?_)))))
  have e : ([].all Bz && (B3 p.fId 1 65535 && B3 ((p.fWants.length : Nat) : Int) 1 4)) = false := by
   simp only [zap, za6, Bz, Bs, h3, h5, h6, h19, h20, h26, h27, h28, h29, h201, Cw]
  rw [e]
 | y :: t, pre, m + 1, i, i1, H, he, hi, hm, s0 => by
  have hlt : pre.length < p.fWants.length := by rw [he]; simp
  have hl1 := hp.l1
  have hl2 := hp.l2
  have hl3 := hp.l3
  have hlen := hp.l1
  rw [Lr]
  try simp only [B6, Ba, A4, D5, Av, Bh, Pr.gT, Pr.gF, Pr.hT, Pr.hF, Pr.kT, Pr.kF, Bv, B5, Bu]
  refine Ab (o' := 22) rfl (Ap (c := C5 Bw p.fWants) s0 (.here) rfl (Cz (Dw (As (by simp [hi]; omega) (Ab (o' := 22) rfl (Ap (c := C5 Bw p.fWants) s0 (.here) rfl (Mp hi Gu (by decide) he (Pv (Fg (c := .sc (.string y.fFilter)) rfl (Aq (v := (.bool (Cb y.fFilter))) s0 rfl (.cons .sc .nil) (Mk (n + 3) (by omega) y.fFilter (hp.w1 y (by rw [he]; simp)) (Kp (hp.w1 y (by rw [he]; simp)))) (C2 (Aa ((Cb y.fFilter)) (fun h201 => ?_) (fun h201 => ?_)))))))))))))
  refine Ae (nF h201) (Ab (o' := 22) rfl (Ae (nF h201) (Ap (c := C5 Bw p.fWants) s0 (.here) rfl (Ae (nF h201) (Ae (nF h201) (Mp hi Gu (by decide) he (Ae (nF h201) (Pv (Ae (nF h201) (Fg (c := si y.fQos) rfl (Ae (nF h201) (Aq (v := (.bool (B3 y.fQos 0 2))) s0 rfl (My .nil) (Gt (n + 8) _ y.fQos 0 2) (Ae (nF h201) (C2 (A7 (nF h201) (Aa ((B3 y.fQos 0 2)) (fun h202 => ?_) (fun h202 => ?_)))))))))))))))))
  refine Ax (nF h202) (B9 (by omega) (by omega) ?_)
  have e203 : ((y :: t).all Bz && (B3 p.fId 1 65535 && B3 ((p.fWants.length : Nat) : Int) 1 4)) = (t.all Bz && (B3 p.fId 1 65535 && B3 ((p.fWants.length : Nat) : Int) 1 4)) := by
   simp only [zap, Bz, Bs, h3, h5, h6, h19, h20, h26, h27, h28, h29, h201, h202, zaA, zaI, zaB, zaX, zbe, zbj, zaF, zaw, za0]
  rw [e203]
  exact R9 n hn p hp h3 h5 h6 h19 h20 h26 h27 h28 h29  t (pre ++ [y]) m _ i1 _ (by rw [he]; simp) (by rw [hi]; simp) (by simpa using hm) (by simpa only [za4, zaq, zaC] using (s0.sel (.cons (.here) .nil)))
  refine As (nT h202) (Ai rfl ?_)
  have e : ((y :: t).all Bz && (B3 p.fId 1 65535 && B3 ((p.fWants.length : Nat) : Int) 1 4)) = false := by
   simp only [zap, za6, Bz, Bs, h3, h5, h6, h19, h20, h26, h27, h28, h29, h201, h202, Cw]
  rw [e]
  refine Ac (nT h201) (Ac (nT h201) (Ac (nT h201) (Ac (nT h201) (Ac (nT h201) (Ac (nT h201) (Ac (nT h201) (Ac (nT h201) (B4 (nT h201) (As rfl (Ai rfl ?_))))))))))
  have e : ((y :: t).all Bz && (B3 p.fId 1 65535 && B3 ((p.fWants.length : Nat) : Int) 1 4)) = false := by
   simp only [zap, za6, Bz, Bs, h3, h5, h6, h19, h20, h26, h27, h28, h29, h201, Cw]
  rw [e]
theorem N8 (n : Nat) (hn : 1048576 < n) (p : PacketV) (hp : Hd p) (h3 : (B3 p.fType 1 14) = true) (h5 : (Cp p (Az true p)) = true) (h6 : (decide (p.fType = 1)) = false) (h19 : (decide (p.fType = 2)) = false) (h20 : (decide (p.fType = 3)) = false) (h26 : (decide (p.fType = 12)) = false) (h27 : (decide (p.fType = 13)) = false) (h28 : (decide (p.fType = 14)) = false) (h29 : (decide (p.fType = 8)) = false) (h30 : (decide (p.fType = 9)) = true)  : ∀ (t pre : List Int) (m : Nat) (i : Int) (i1 : Nat) (H : Ad), p.fCodes = pre ++ t → i = ((pre.length : Nat) : Int) → t.length < m → Sep H [.blk i1 (Ar p) true] → Gd (· = some (.sc (.bool (t.all Bs && (B3 p.fId 1 65535 && B3 ((p.fCodes.length : Nat) : Int) 1 4))))) (Ls (PR (n + 9) AV) (n + 9) (fun x H => Bf Au E0.tp 4 H x) m (.ptr i1 0) (.sc (.bool (B3 p.fId 1 65535))) (.sc (.int .i64 i)) H)
 | [], pre, m + 1, i, i1, H, he, hi, hm, s0 => by
  obtain rfl : pre = p.fCodes := by simpa using he.symm
  have hl1 := hp.l1
  have hl2 := hp.l2
  have hl3 := hp.l3
  have hlen := hp.l3
  rw [Ls]
  try simp only [B6, Ba, A4, D5, Av, Bh, Pr.gT, Pr.gF, Pr.hT, Pr.hF, Pr.kT, Pr.kF, Bv, B5, Bu]
  refine Ab (o' := 24) rfl (Ap (c := El p.fCodes) s0 (.here) rfl (Cz (Dw (Ax (by simp [hi]) (Aa ((B3 p.fId 1 65535)) (fun h201 => ?_) (fun h201 => ?_))))))
  refine Ae h201 (Ab (o' := 24) rfl (Ae h201 (Ap (c := El p.fCodes) s0 (.here) rfl (Ae h201 (Cz (Ae h201 (Aq (v := (.bool (B3 ((p.fCodes.length : Nat) : Int) 1 4))) s0 rfl (My .nil) (Gt (n + 8) _ ((p.fCodes.length : Nat) : Int) 1 4) (B4 h201 (Ai rfl ?_)))))))))
  have e : ([].all Bs && (B3 p.fId 1 65535 && B3 ((p.fCodes.length : Nat) : Int) 1 4)) = (B3 ((p.fCodes.length : Nat) : Int) 1 4) := by
   simp only [zap, za6, Bz, Bs, h3, h5, h6, h19, h20, h26, h27, h28, h29, h30, h201, Cw]
  rw [e]
  refine Ac h201 (Ac h201 (Ac h201 (Ac h201 (A7 h201 (Ai rfl ?_)))))
  have e : ([].all Bs && (B3 p.fId 1 65535 && B3 ((p.fCodes.length : Nat) : Int) 1 4)) = false := by
   simp only [zap, za6, Bz, Bs, h3, h5, h6, h19, h20, h26, h27, h28, h29, h30, h201, Cw]
  rw [e]
 | y :: t, pre, m + 1, i, i1, H, he, hi, hm, s0 => by
  have hlt : pre.length < p.fCodes.length := by rw [he]; simp
  have hl1 := hp.l1
  have hl2 := hp.l2
  have hl3 := hp.l3
  have hlen := hp.l3
  rw [Ls]
  try simp only [B6, Ba, A4, D5, Av, Bh, Pr.gT, Pr.gF, Pr.hT, Pr.hF, Pr.kT, Pr.kF, Bv, B5, Bu]
  refine Ab (o' := 24) rfl (Ap (c := El p.fCodes) s0 (.here) rfl (Cz (Dw (As (by simp [hi]; omega) (Ab (o' := 24) rfl (Ap (c := El p.fCodes) s0 (.here) rfl (J9 hi he (Fg (c := .sc (.int .i64 y)) rfl (Aq (v := (.bool (B3 y 0 2))) s0 rfl (My .nil) (Gt (n + 8) _ y 0 2) (C2 (Aa ((B3 y 0 2)) (fun h201 => ?_) (fun h201 => ?_))))))))))))
  refine Ac (nF h201) (Ac (nF h201) (Ac (nF h201) (Ac (nF h201) (Ac (nF h201) (Ac (nF h201) (A7 (nF h201) (Ax rfl (B9 (by omega) (by omega) ?_))))))))
  have e202 : ((y :: t).all Bs && (B3 p.fId 1 65535 && B3 ((p.fCodes.length : Nat) : Int) 1 4)) = (t.all Bs && (B3 p.fId 1 65535 && B3 ((p.fCodes.length : Nat) : Int) 1 4)) := by
   simp only [zap, Bz, Bs, h3, h5, h6, h19, h20, h26, h27, h28, h29, h30, h201, zaA, zaI, zaB, zaX, zbe, zbj, zaF, zaw, za0]
  rw [e202]
  exact N8 n hn p hp h3 h5 h6 h19 h20 h26 h27 h28 h29 h30  t (pre ++ [y]) m _ i1 _ (by rw [he]; simp) (by rw [hi]; simp) (by simpa using hm) (by simpa only [za4, zaq, zaC] using (s0.sel (.cons (.here) .nil)))
  refine Ae (nT h201) (Ab (o' := 24) rfl (Ae (nT h201) (Ap (c := El p.fCodes) s0 (.here) rfl (Ae (nT h201) (Ae (nT h201) (J9 hi he (Ae (nT h201) (Fg (c := si y) rfl (Ae (nT h201) (Mi (B4 (nT h201) (Aa ((decide (y = 128))) (fun h203 => ?_) (fun h203 => ?_)))))))))))))
  refine Ax (nF h203) (B9 (by omega) (by omega) ?_)
  have e204 : ((y :: t).all Bs && (B3 p.fId 1 65535 && B3 ((p.fCodes.length : Nat) : Int) 1 4)) = (t.all Bs && (B3 p.fId 1 65535 && B3 ((p.fCodes.length : Nat) : Int) 1 4)) := by
   simp only [zap, Bz, Bs, h3, h5, h6, h19, h20, h26, h27, h28, h29, h30, h201, h203, zaA, zaI, zaB, zaX, zbe, zbj, zaF, zaw, za0]
  rw [e204]
  exact N8 n hn p hp h3 h5 h6 h19 h20 h26 h27 h28 h29 h30  t (pre ++ [y]) m _ i1 _ (by rw [he]; simp) (by rw [hi]; simp) (by simpa using hm) (by simpa only [za4, zaq, zaC] using (s0.sel (.cons (.here) .nil)))
  refine As (nT h203) (Ai rfl ?_)
  have e : ((y :: t).all Bs && (B3 p.fId 1 65535 && B3 ((p.fCodes.length : Nat) : Int) 1 4)) = false := by
   simp only [zap, za6, Bz, Bs, h3, h5, h6, h19, h20, h26, h27, h28, h29, h30, h201, h203, Cw]
  rw [e]
theorem Sa (n : Nat) (hn : 1048576 < n) (p : PacketV) (hp : Hd p) (h3 : (B3 p.fType 1 14) = true) (h5 : (Cp p (Az true p)) = true) (h6 : (decide (p.fType = 1)) = false) (h19 : (decide (p.fType = 2)) = false) (h20 : (decide (p.fType = 3)) = false) (h26 : (decide (p.fType = 12)) = false) (h27 : (decide (p.fType = 13)) = false) (h28 : (decide (p.fType = 14)) = false) (h29 : (decide (p.fType = 8)) = false) (h30 : (decide (p.fType = 9)) = false) (h31 : (decide (p.fType = 10)) = true)  : ∀ (t pre : List ByteArray) (m : Nat) (i : Int) (i1 : Nat) (H : Ad), p.fNames = pre ++ t → i = ((pre.length : Nat) : Int) → t.length < m → Sep H [.blk i1 (Ar p) true] → Gd (· = some (.sc (.bool (t.all Cb && (B3 p.fId 1 65535 && B3 ((p.fNames.length : Nat) : Int) 1 4))))) (Lt (PR (n + 9) AV) (n + 9) (fun x H => Bf Au E0.tp 4 H x) m (.ptr i1 0) (.sc (.bool (B3 p.fId 1 65535))) (.sc (.int .i64 i)) H)
 | [], pre, m + 1, i, i1, H, he, hi, hm, s0 => by
  obtain rfl : pre = p.fNames := by simpa using he.symm
  have hl1 := hp.l1
  have hl2 := hp.l2
  have hl3 := hp.l3
  have hlen := hp.l2
  rw [Lt]
  try simp only [B6, Ba, A4, D5, Av, Bh, Pr.gT, Pr.gF, Pr.hT, Pr.hF, Pr.kT, Pr.kF, Bv, B5, Bu]
  refine Ab (o' := 23) rfl (Ap (c := En p.fNames) s0 (.here) rfl (Cz (Dw (Ax (by simp [hi]) (Aa ((B3 p.fId 1 65535)) (fun h201 => ?_) (fun h201 => ?_))))))
  refine Ae h201 (Ab (o' := 23) rfl (Ae h201 (Ap (c := En p.fNames) s0 (.here) rfl (Ae h201 (Cz (Ae h201 (Aq (v := (.bool (B3 ((p.fNames.length : Nat) : Int) 1 4))) s0 rfl (My .nil) (Gt (n + 8) _ ((p.fNames.length : Nat) : Int) 1 4) (B4 h201 (Ai rfl ?_)))))))))
  have e : ([].all Cb && (B3 p.fId 1 65535 && B3 ((p.fNames.length : Nat) : Int) 1 4)) = (B3 ((p.fNames.length : Nat) : Int) 1 4) := by
   simp only [zap, za6, Bz, Bs, h3, h5, h6, h19, h20, h26, h27, h28, h29, h30, h31, h201, Cw]
  rw [e]
  refine Ac h201 (Ac h201 (Ac h201 (Ac h201 (A7 h201 (Ai rfl ?_)))))
  have e : ([].all Cb && (B3 p.fId 1 65535 && B3 ((p.fNames.length : Nat) : Int) 1 4)) = false := by
   simp only [zap, za6, Bz, Bs, h3, h5, h6, h19, h20, h26, h27, h28, h29, h30, h31, h201, Cw]
  rw [e]
 | y :: t, pre, m + 1, i, i1, H, he, hi, hm, s0 => by
  have hlt : pre.length < p.fNames.length := by rw [he]; simp
  have hl1 := hp.l1
  have hl2 := hp.l2
  have hl3 := hp.l3
  have hlen := hp.l2
  rw [Lt]
  try simp only [B6, Ba, A4, D5, Av, Bh, Pr.gT, Pr.gF, Pr.hT, Pr.hF, Pr.kT, Pr.kF, Bv, B5, Bu]
  refine Ab (o' := 23) rfl (Ap (c := En p.fNames) s0 (.here) rfl (Cz (Dw (As (by simp [hi]; omega) (Ab (o' := 23) rfl (Ap (c := En p.fNames) s0 (.here) rfl (Nc hi he (Fg (c := .sc (.string y)) rfl (Aq (v := (.bool (Cb y))) s0 rfl (.cons .sc .nil) (Mk (n + 3) (by omega) y (hp.w2 y (by rw [he]; simp)) (Kp (hp.w2 y (by rw [he]; simp)))) (C2 (Aa ((Cb y)) (fun h201 => ?_) (fun h201 => ?_))))))))))))
  refine Ax (nF h201) (B9 (by omega) (by omega) ?_)
  have e202 : ((y :: t).all Cb && (B3 p.fId 1 65535 && B3 ((p.fNames.length : Nat) : Int) 1 4)) = (t.all Cb && (B3 p.fId 1 65535 && B3 ((p.fNames.length : Nat) : Int) 1 4)) := by
   simp only [zap, Bz, Bs, h3, h5, h6, h19, h20, h26, h27, h28, h29, h30, h31, h201, zaA, zaI, zaB, zaX, zbe, zbj, zaF, zaw, za0]
  rw [e202]
  exact Sa n hn p hp h3 h5 h6 h19 h20 h26 h27 h28 h29 h30 h31  t (pre ++ [y]) m _ i1 _ (by rw [he]; simp) (by rw [hi]; simp) (by simpa using hm) (by simpa only [za4, zaq, zaC] using (s0.sel (.cons (.here) .nil)))
  refine As (nT h201) (Ai rfl ?_)
  have e : ((y :: t).all Cb && (B3 p.fId 1 65535 && B3 ((p.fNames.length : Nat) : Int) 1 4)) = false := by
   simp only [zap, za6, Bz, Bs, h3, h5, h6, h19, h20, h26, h27, h28, h29, h30, h31, h201, Cw]
  rw [e]
theorem Qf (n : Nat) (hn : 1048576 < n) (p : PacketV) (hp : Hd p) (h3 : (B3 p.fType 1 14) = true) (h33 : (Cp p (Az true p)) = true) (h34 : (decide (p.fType = 1)) = false) (h47 : (decide (p.fType = 2)) = false) (h48 : (decide (p.fType = 3)) = false) (h54 : (decide (p.fType = 12)) = false) (h55 : (decide (p.fType = 13)) = false) (h56 : (decide (p.fType = 14)) = false) (h57 : (decide (p.fType = 8)) = true)  : ∀ (t pre : List WantV) (m : Nat) (i : Int) (i1 : Nat) (H : Ad), p.fWants = pre ++ t → i = ((pre.length : Nat) : Int) → t.length < m → Sep H [.blk i1 (Ar p) true] → Gd (· = some (.sc (.bool (t.all Bz && (B3 p.fId 1 65535 && B3 ((p.fWants.length : Nat) : Int) 1 4))))) (Lr (PR (n + 9) AV) (n + 9) (fun x H => Bf Au E0.tp 4 H x) m (.ptr i1 0) (.sc (.bool (B3 p.fId 1 65535))) (.sc (.int .i64 i)) H)
 | [], pre, m + 1, i, i1, H, he, hi, hm, s0 => by
  obtain rfl : pre = p.fWants := by simpa using he.symm
  have hl1 := hp.l1
  have hl2 := hp.l2
  have hl3 := hp.l3
  have hlen := hp.l1
  rw [Lr]
  try simp only [B6, Ba, A4, D5, Av, Bh, Pr.gT, Pr.gF, Pr.hT, Pr.hF, Pr.kT, Pr.kF, Bv, B5, Bu]
  refine Ab (o' := 22) rfl (Ap (c := C5 Bw p.fWants) s0 (.here) rfl (Cz (Dw (Ax (by simp [hi]) (Aa ((B3 p.fId 1 65535)) (fun h201 => ?_) (fun h201 => ?_))))))
  refine Ae h201 (Ab (o' := 22) rfl (Ae h201 (Ap (c := C5 Bw p.fWants) s0 (.here) rfl (Ae h201 (Cz (Ae h201 (Aq (v := (.bool (B3 ((p.fWants.length : Nat) : Int) 1 4))) s0 rfl (My .nil) (Gt (n + 8) _ ((p.fWants.length : Nat) : Int) 1 4) (B4 h201 (Ai rfl ?_)))))))))
  have e : ([].all Bz && (B3 p.fId 1 65535 && B3 ((p.fWants.length : Nat) : Int) 1 4)) = (B3 ((p.fWants.length : Nat) : Int) 1 4) := by
   simp only [zap, za6, Bz, Bs, h3, h33, h34, h47, h48, h54, h55, h56, h57, h201, Cw]
  rw [e]
  refine Ac h201 (Ac h201 (Ac h201 (Ac h201 (A7 h201 (Ai rfl ?_)))))
  have e : ([].all Bz && (B3 p.fId 1 65535 && B3 ((p.fWants.length : Nat) : Int) 1 4)) = false := by
   simp only [zap, za6, Bz, Bs, h3, h33, h34, h47, h48, h54, h55, h56, h57, h201, Cw]
  rw [e]
 | y :: t, pre, m + 1, i, i1, H, he, hi, hm, s0 => by
  have hlt : pre.length < p.fWants.length := by rw [he]; simp
  have hl1 := hp.l1
  have hl2 := hp.l2
  have hl3 := hp.l3
  have hlen := hp.l1
  rw [Lr]
  try simp only [B6, Ba, A4, D5, Av, Bh, Pr.gT, Pr.gF, Pr.hT, Pr.hF, Pr.kT, Pr.kF, Bv, B5, Bu]
  refine Ab (o' := 22) rfl (Ap (c := C5 Bw p.fWants) s0 (.here) rfl (Cz (Dw (As (by simp [hi]; omega) (Ab (o' := 22) rfl (Ap (c := C5 Bw p.fWants) s0 (.here) rfl (Mp hi Gu (by decide) he (Pv (Fg (c := .sc (.string y.fFilter)) rfl (Aq (v := (.bool (Cb y.fFilter))) s0 rfl (.cons .sc .nil) (Mk (n + 3) (by omega) y.fFilter (hp.w1 y (by rw [he]; simp)) (Kp (hp.w1 y (by rw [he]; simp)))) (C2 (Aa ((Cb y.fFilter)) (fun h201 => ?_) (fun h201 => ?_)))))))))))))
  refine Ae (nF h201) (Ab (o' := 22) rfl (Ae (nF h201) (Ap (c := C5 Bw p.fWants) s0 (.here) rfl (Ae (nF h201) (Ae (nF h201) (Mp hi Gu (by decide) he (Ae (nF h201) (Pv (Ae (nF h201) (Fg (c := si y.fQos) rfl (Ae (nF h201) (Aq (v := (.bool (B3 y.fQos 0 2))) s0 rfl (My .nil) (Gt (n + 8) _ y.fQos 0 2) (Ae (nF h201) (C2 (A7 (nF h201) (Aa ((B3 y.fQos 0 2)) (fun h202 => ?_) (fun h202 => ?_)))))))))))))))))
  refine Ax (nF h202) (B9 (by omega) (by omega) ?_)
  have e203 : ((y :: t).all Bz && (B3 p.fId 1 65535 && B3 ((p.fWants.length : Nat) : Int) 1 4)) = (t.all Bz && (B3 p.fId 1 65535 && B3 ((p.fWants.length : Nat) : Int) 1 4)) := by
   simp only [zap, Bz, Bs, h3, h33, h34, h47, h48, h54, h55, h56, h57, h201, h202, zaA, zaI, zaB, zaX, zbe, zbj, zaF, zaw, za0]
  rw [e203]
  exact Qf n hn p hp h3 h33 h34 h47 h48 h54 h55 h56 h57  t (pre ++ [y]) m _ i1 _ (by rw [he]; simp) (by rw [hi]; simp) (by simpa using hm) (by simpa only [za4, zaq, zaC] using (s0.sel (.cons (.here) .nil)))
  refine As (nT h202) (Ai rfl ?_)
  have e : ((y :: t).all Bz && (B3 p.fId 1 65535 && B3 ((p.fWants.length : Nat) : Int) 1 4)) = false := by
   simp only [zap, za6, Bz, Bs, h3, h33, h34, h47, h48, h54, h55, h56, h57, h201, h202, Cw]
  rw [e]
  refine Ac (nT h201) (Ac (nT h201) (Ac (nT h201) (Ac (nT h201) (Ac (nT h201) (Ac (nT h201) (Ac (nT h201) (Ac (nT h201) (B4 (nT h201) (As rfl (Ai rfl ?_))))))))))
  have e : ((y :: t).all Bz && (B3 p.fId 1 65535 && B3 ((p.fWants.length : Nat) : Int) 1 4)) = false := by
   simp only [zap, za6, Bz, Bs, h3, h33, h34, h47, h48, h54, h55, h56, h57, h201, Cw]
  rw [e]
theorem Mt (n : Nat) (hn : 1048576 < n) (p : PacketV) (hp : Hd p) (h3 : (B3 p.fType 1 14) = true) (h33 : (Cp p (Az true p)) = true) (h34 : (decide (p.fType = 1)) = false) (h47 : (decide (p.fType = 2)) = false) (h48 : (decide (p.fType = 3)) = false) (h54 : (decide (p.fType = 12)) = false) (h55 : (decide (p.fType = 13)) = false) (h56 : (decide (p.fType = 14)) = false) (h57 : (decide (p.fType = 8)) = false) (h58 : (decide (p.fType = 9)) = true)  : ∀ (t pre : List Int) (m : Nat) (i : Int) (i1 : Nat) (H : Ad), p.fCodes = pre ++ t → i = ((pre.length : Nat) : Int) → t.length < m → Sep H [.blk i1 (Ar p) true] → Gd (· = some (.sc (.bool (t.all Bs && (B3 p.fId 1 65535 && B3 ((p.fCodes.length : Nat) : Int) 1 4))))) (Ls (PR (n + 9) AV) (n + 9) (fun x H => Bf Au E0.tp 4 H x) m (.ptr i1 0) (.sc (.bool (B3 p.fId 1 65535))) (.sc (.int .i64 i)) H)
 | [], pre, m + 1, i, i1, H, he, hi, hm, s0 => by
  obtain rfl : pre = p.fCodes := by simpa using he.symm
  have hl1 := hp.l1
  have hl2 := hp.l2
  have hl3 := hp.l3
  have hlen := hp.l3
  rw [Ls]
  try simp only [B6, Ba, A4, D5, Av, Bh, Pr.gT, Pr.gF, Pr.hT, Pr.hF, Pr.kT, Pr.kF, Bv, B5, Bu]
  refine Ab (o' := 24) rfl (Ap (c := El p.fCodes) s0 (.here) rfl (Cz (Dw (Ax (by simp [hi]) (Aa ((B3 p.fId 1 65535)) (fun h201 => ?_) (fun h201 => ?_))))))
  refine Ae h201 (Ab (o' := 24) rfl (Ae h201 (Ap (c := El p.fCodes) s0 (.here) rfl (Ae h201 (Cz (Ae h201 (Aq (v := (.bool (B3 ((p.fCodes.length : Nat) : Int) 1 4))) s0 rfl (My .nil) (Gt (n + 8) _ ((p.fCodes.length : Nat) : Int) 1 4) (B4 h201 (Ai rfl ?_)))))))))
  have e : ([].all Bs && (B3 p.fId 1 65535 && B3 ((p.fCodes.length : Nat) : Int) 1 4)) = (B3 ((p.fCodes.length : Nat) : Int) 1 4) := by
   simp only [zap, za6, Bz, Bs, h3, h33, h34, h47, h48, h54, h55, h56, h57, h58, h201, Cw]
  rw [e]
  refine Ac h201 (Ac h201 (Ac h201 (Ac h201 (A7 h201 (Ai rfl ?_)))))
  have e : ([].all Bs && (B3 p.fId 1 65535 && B3 ((p.fCodes.length : Nat) : Int) 1 4)) = false := by
   simp only [zap, za6, Bz, Bs, h3, h33, h34, h47, h48, h54, h55, h56, h57, h58, h201, Cw]
  rw [e]
 | y :: t, pre, m + 1, i, i1, H, he, hi, hm, s0 => by
  have hlt : pre.length < p.fCodes.length := by rw [he]; simp
  have hl1 := hp.l1
  have hl2 := hp.l2
  have hl3 := hp.l3
  have hlen := hp.l3
  rw [Ls]
  try simp only [B6, Ba, A4, D5, Av, Bh, Pr.gT, Pr.gF, Pr.hT, Pr.hF, Pr.kT, Pr.kF, Bv, B5, Bu]
  refine Ab (o' := 24) rfl (Ap (c := El p.fCodes) s0 (.here) rfl (Cz (Dw (As (by simp [hi]; omega) (Ab (o' := 24) rfl (Ap (c := El p.fCodes) s0 (.here) rfl (J9 hi he (Fg (c := .sc (.int .i64 y)) rfl (Aq (v := (.bool (B3 y 0 2))) s0 rfl (My .nil) (Gt (n + 8) _ y 0 2) (C2 (Aa ((B3 y 0 2)) (fun h201 => ?_) (fun h201 => ?_))))))))))))
  refine Ac (nF h201) (Ac (nF h201) (Ac (nF h201) (Ac (nF h201) (Ac (nF h201) (Ac (nF h201) (A7 (nF h201) (Ax rfl (B9 (by omega) (by omega) ?_))))))))
  have e202 : ((y :: t).all Bs && (B3 p.fId 1 65535 && B3 ((p.fCodes.length : Nat) : Int) 1 4)) = (t.all Bs && (B3 p.fId 1 65535 && B3 ((p.fCodes.length : Nat) : Int) 1 4)) := by
   simp only [zap, Bz, Bs, h3, h33, h34, h47, h48, h54, h55, h56, h57, h58, h201, zaA, zaI, zaB, zaX, zbe, zbj, zaF, zaw, za0]
  rw [e202]
  exact Mt n hn p hp h3 h33 h34 h47 h48 h54 h55 h56 h57 h58  t (pre ++ [y]) m _ i1 _ (by rw [he]; simp) (by rw [hi]; simp) (by simpa using hm) (by simpa only [za4, zaq, zaC] using (s0.sel (.cons (.here) .nil)))
  refine Ae (nT h201) (Ab (o' := 24) rfl (Ae (nT h201) (Ap (c := El p.fCodes) s0 (.here) rfl (Ae (nT h201) (Ae (nT h201) (J9 hi he (Ae (nT h201) (Fg (c := si y) rfl (Ae (nT h201) (Mi (B4 (nT h201) (Aa ((decide (y = 128))) (fun h203 => ?_) (fun h203 => ?_)))))))))))))
  refine Ax (nF h203) (B9 (by omega) (by omega) ?_)
  have e204 : ((y :: t).all Bs && (B3 p.fId 1 65535 && B3 ((p.fCodes.length : Nat) : Int) 1 4)) = (t.all Bs && (B3 p.fId 1 65535 && B3 ((p.fCodes.length : Nat) : Int) 1 4)) := by
   simp only [zap, Bz, Bs, h3, h33, h34, h47, h48, h54, h55, h56, h57, h58, h201, h203, zaA, zaI, zaB, zaX, zbe, zbj, zaF, zaw, za0]
  rw [e204]
  exact Mt n hn p hp h3 h33 h34 h47 h48 h54 h55 h56 h57 h58  t (pre ++ [y]) m _ i1 _ (by rw [he]; simp) (by rw [hi]; simp) (by simpa using hm) (by simpa only [za4, zaq, zaC] using (s0.sel (.cons (.here) .nil)))
  refine As (nT h203) (Ai rfl ?_)
  have e : ((y :: t).all Bs && (B3 p.fId 1 65535 && B3 ((p.fCodes.length : Nat) : Int) 1 4)) = false := by
   simp only [zap, za6, Bz, Bs, h3, h33, h34, h47, h48, h54, h55, h56, h57, h58, h201, h203, Cw]
  rw [e]
theorem Qg (n : Nat) (hn : 1048576 < n) (p : PacketV) (hp : Hd p) (h3 : (B3 p.fType 1 14) = true) (h33 : (Cp p (Az true p)) = true) (h34 : (decide (p.fType = 1)) = false) (h47 : (decide (p.fType = 2)) = false) (h48 : (decide (p.fType = 3)) = false) (h54 : (decide (p.fType = 12)) = false) (h55 : (decide (p.fType = 13)) = false) (h56 : (decide (p.fType = 14)) = false) (h57 : (decide (p.fType = 8)) = false) (h58 : (decide (p.fType = 9)) = false) (h59 : (decide (p.fType = 10)) = true)  : ∀ (t pre : List ByteArray) (m : Nat) (i : Int) (i1 : Nat) (H : Ad), p.fNames = pre ++ t → i = ((pre.length : Nat) : Int) → t.length < m → Sep H [.blk i1 (Ar p) true] → Gd (· = some (.sc (.bool (t.all Cb && (B3 p.fId 1 65535 && B3 ((p.fNames.length : Nat) : Int) 1 4))))) (Lt (PR (n + 9) AV) (n + 9) (fun x H => Bf Au E0.tp 4 H x) m (.ptr i1 0) (.sc (.bool (B3 p.fId 1 65535))) (.sc (.int .i64 i)) H)
 | [], pre, m + 1, i, i1, H, he, hi, hm, s0 => by
  obtain rfl : pre = p.fNames := by simpa using he.symm
  have hl1 := hp.l1
  have hl2 := hp.l2
  have hl3 := hp.l3
  have hlen := hp.l2
  rw [Lt]
  try simp only [B6, Ba, A4, D5, Av, Bh, Pr.gT, Pr.gF, Pr.hT, Pr.hF, Pr.kT, Pr.kF, Bv, B5, Bu]
  refine Ab (o' := 23) rfl (Ap (c := En p.fNames) s0 (.here) rfl (Cz (Dw (Ax (by simp [hi]) (Aa ((B3 p.fId 1 65535)) (fun h201 => ?_) (fun h201 => ?_))))))
  refine Ae h201 (Ab (o' := 23) rfl (Ae h201 (Ap (c := En p.fNames) s0 (.here) rfl (Ae h201 (Cz (Ae h201 (Aq (v := (.bool (B3 ((p.fNames.length : Nat) : Int) 1 4))) s0 rfl (My .nil) (Gt (n + 8) _ ((p.fNames.length : Nat) : Int) 1 4) (B4 h201 (Ai rfl ?_)))))))))
  have e : ([].all Cb && (B3 p.fId 1 65535 && B3 ((p.fNames.length : Nat) : Int) 1 4)) = (B3 ((p.fNames.length : Nat) : Int) 1 4) := by
   simp only [zap, za6, Bz, Bs, h3, h33, h34, h47, h48, h54, h55, h56, h57, h58, h59, h201, Cw]
  rw [e]
  refine Ac h201 (Ac h201 (Ac h201 (Ac h201 (A7 h201 (Ai rfl ?_)))))
  have e : ([].all Cb && (B3 p.fId 1 65535 && B3 ((p.fNames.length : Nat) : Int) 1 4)) = false := by
   simp only [zap, za6, Bz, Bs, h3, h33, h34, h47, h48, h54, h55, h56, h57, h58, h59, h201, Cw]
  rw [e]
 | y :: t, pre, m + 1, i, i1, H, he, hi, hm, s0 => by
  have hlt : pre.length < p.fNames.length := by rw [he]; simp
  have hl1 := hp.l1
  have hl2 := hp.l2
  have hl3 := hp.l3
  have hlen := hp.l2
  rw [Lt]
  try simp only [B6, Ba, A4, D5, Av, Bh, Pr.gT, Pr.gF, Pr.hT, Pr.hF, Pr.kT, Pr.kF, Bv, B5, Bu]
  refine Ab (o' := 23) rfl (Ap (c := En p.fNames) s0 (.here) rfl (Cz (Dw (As (by simp [hi]; omega) (Ab (o' := 23) rfl (Ap (c := En p.fNames) s0 (.here) rfl (Nc hi he (Fg (c := .sc (.string y)) rfl (Aq (v := (.bool (Cb y))) s0 rfl (.cons .sc .nil) (Mk (n + 3) (by omega) y (hp.w2 y (by rw [he]; simp)) (Kp (hp.w2 y (by rw [he]; simp)))) (C2 (Aa ((Cb y)) (fun h201 => ?_) (fun h201 => ?_))))))))))))
  refine Ax (nF h201) (B9 (by omega) (by omega) ?_)
  have e202 : ((y :: t).all Cb && (B3 p.fId 1 65535 && B3 ((p.fNames.length : Nat) : Int) 1 4)) = (t.all Cb && (B3 p.fId 1 65535 && B3 ((p.fNames.length : Nat) : Int) 1 4)) := by
   simp only [zap, Bz, Bs, h3, h33, h34, h47, h48, h54, h55, h56, h57, h58, h59, h201, zaA, zaI, zaB, zaX, zbe, zbj, zaF, zaw, za0]
  rw [e202]
  exact Qg n hn p hp h3 h33 h34 h47 h48 h54 h55 h56 h57 h58 h59  t (pre ++ [y]) m _ i1 _ (by rw [he]; simp) (by rw [hi]; simp) (by simpa using hm) (by simpa only [za4, zaq, zaC] using (s0.sel (.cons (.here) .nil)))
  refine As (nT h201) (Ai rfl ?_)
  have e : ((y :: t).all Cb && (B3 p.fId 1 65535 && B3 ((p.fNames.length : Nat) : Int) 1 4)) = false := by
   simp only [zap, za6, Bz, Bs, h3, h33, h34, h47, h48, h54, h55, h56, h57, h58, h59, h201, Cw]
  rw [e]
theorem Aec (n : Nat) (hn : 1048576 < n) (p : PacketV) (hp : Hd p) : Dd E0 (n + 10) 4 64 [.agg (Ar p)] = some (.sc (.bool (Aj p))) := by
 rw [Bd, Akt, f64]
 refine C6 (G := (· = some (sb (Aj p)))) ?_
 have hl1 := hp.l1
 have hl2 := hp.l2
 have hl3 := hp.l3
 try simp only [Gw, B6, Ba, A4, D5, Av, Bh, Pr.gT, Pr.gF, Pr.hT, Pr.hF, Pr.kT, Pr.kF, Bv, B5]
 have s0 : Sep [] [] := Cx
 refine Od s0 (G6 (Cy _)) fun i1 H s2 => Ab (o' := 0) rfl (Ap (c := si p.fType) s2 (.here) rfl (Aq (v := (.bool (B3 p.fType 1 14))) s2 rfl (My .nil) (Gt (n + 8) _ p.fType 1 14) (C2 (Aa ((B3 p.fType 1 14)) (fun h3 => ?_) (fun h3 => ?_)))))
 refine Ae (nF h3) (At s2 (.here) rfl (Gd.bothE ?_ ?_))
 refine Ae (nF h3) (At s2 (.here) rfl (Ae (nF h3) (J6 rfl rfl (Wk (n + 8) (by omega) p s2 fun Rs4 H hRs4 s4 => Ae (nF h3) (Aq (v := (.bool (Cp p (Az true p)))) s4 rfl (.aggF (Cy _) (.agg (hRs4 _) .nil)) (Oj (n + 7) (by omega) _ p (Az true p) hp.l1 hp.l2 hp.l3) (Ae (nF h3) (C2 (A7 (nF h3) (Aa ((Cp p (Az true p))) (fun h5 => ?_) (fun h5 => ?_))))))))))
 refine Ax (nF h5) (Ab (o' := 4) rfl (Ap (c := si p.fId) s4 (.here) rfl (Aq (v := (.bool (B3 p.fId 1 65535))) s4 rfl (My .nil) (Gt (n + 8) _ p.fId 1 65535) (Ab (o' := 0) rfl (Ap (c := si p.fType) s4 (.here) rfl (Be (Aa ((decide (p.fType = 1))) (fun h6 => ?_) (fun h6 => ?_))))))))
 refine As h6 (Ab (o' := 11) rfl (Ap (c := sb p.fHasWill) s4 (.here) rfl (Aa (p.fHasWill) (fun h7 => ?_) (fun h7 => ?_))))
 refine Ae h7 (Ab (o' := 12) rfl (Ae h7 (Ap (c := ss p.fWTopic) s4 (.here) rfl (Ae h7 (Aq (v := (.bool (Dl p.fWTopic))) s4 rfl (.cons .sc .nil) (Ka (n + 4) (by omega) _ p.fWTopic hp.t3) (Ae h7 (C2 (Ae h7 (Aa ((Dl p.fWTopic)) (fun h8 => ?_) (fun h8 => ?_))))))))))
 refine Ae (nF h8) (Ab (o' := 13) rfl (Ae (nF h8) (Ap (c := Ag p.fWBody) s4 (.here) rfl (Ae (nF h8) (Cz (Ae (nF h8) (Er (Ae h7 (A7 (nF h8) (Ae h7 (Aa ((decide (40 < ((p.fWBody.size : Nat) : Int)))) (fun h9 => ?_) (fun h9 => ?_))))))))))))
 refine Ac h9 (Ac h9 (Ac h9 (Ac h9 (Ae h7 (B4 h9 (B4 h7 (As rfl (Ai rfl ?_))))))))
 have e : Aj p = false := by
  clear s0 s2 s4
  try simp only [Cm] at h6 h9
  unfold Aj Ch
  (simp only [h3, h5, h7, h8, Cw]; simp [h6, h9]; omega)
 rw [e]
 refine Ae h9 (Ab (o' := 14) rfl (Ae h9 (Ap (c := si p.fWQos) s4 (.here) rfl (Ae h9 (Aq (v := (.bool (B3 p.fWQos 0 2))) s4 rfl (My .nil) (Gt (n + 8) _ p.fWQos 0 2) (Ae h9 (C2 (Ae h7 (A7 h9 (B4 h7 (Aa ((B3 p.fWQos 0 2)) (fun h10 => ?_) (fun h10 => ?_))))))))))))
 refine Ax (nF h10) (Ab (o' := 8) rfl (Ap (c := si p.fLevel) s4 (.here) rfl (Aq (v := (.bool (B3 p.fLevel 0 255))) s4 rfl (My .nil) (Gt (n + 8) _ p.fLevel 0 255) (Aa ((B3 p.fLevel 0 255)) (fun h11 => ?_) (fun h11 => ?_)))))
 refine Ae h11 (Ab (o' := 7) rfl (Ae h11 (Ap (c := ss p.fClient) s4 (.here) rfl (Ae h11 (Aq (v := (.bool (Bi p.fClient))) s4 rfl (.cons .sc .nil) (Gk (n + 5) (by omega) _ p.fClient) (B4 h11 (Aa ((Bi p.fClient)) (fun h12 => ?_) (fun h12 => ?_))))))))
 refine Ae h12 (Ab (o' := 10) rfl (Ae h12 (Ap (c := si p.fKeep) s4 (.here) rfl (Ae h12 (Aq (v := (.bool (B3 p.fKeep 0 65535))) s4 rfl (My .nil) (Gt (n + 8) _ p.fKeep 0 65535) (B4 h12 (Aa ((B3 p.fKeep 0 65535)) (fun h13 => ?_) (fun h13 => ?_))))))))
 refine Ae h13 (Ab (o' := 17) rfl (Ae h13 (Ap (c := ss p.fUser) s4 (.here) rfl (Ae h13 (Aq (v := (.bool (Bi p.fUser))) s4 rfl (.cons .sc .nil) (Gk (n + 5) (by omega) _ p.fUser) (B4 h13 (Aa ((Bi p.fUser)) (fun h14 => ?_) (fun h14 => ?_))))))))
 refine Ae h14 (Ab (o' := 19) rfl (Ae h14 (Ap (c := Ag p.fPass) s4 (.here) rfl (Ae h14 (Cz (Ae h14 (Ku (B4 h14 (Ai rfl ?_)))))))))
 have e : Aj p = (decide (((p.fPass.size : Nat) : Int) ≤ 60)) := by
  try simp only [Cm] at h6 h9
  unfold Aj Ch
  (simp only [h3, h5, h7, h8, h10, h11, h12, h13, h14, Cw]; simp [h6, h9]; done)
 rw [e]
 refine Ac h14 (Ac h14 (Ac h14 (Ac h14 (A7 h14 (Ai rfl ?_)))))
 have e : Aj p = false := by
  try simp only [Cm] at h6 h9
  unfold Aj Ch
  (simp only [h3, h5, h7, h8, h10, h11, h12, h13, h14, Cw]; simp [h6, h9]; done)
 rw [e]
 refine Ac h13 (Ac h13 (Ac h13 (A7 h13 (Ac rfl (Ac rfl (Ac rfl (Ac rfl (A7 rfl (Ai rfl ?_)))))))))
 have e : Aj p = false := by
  try simp only [Cm] at h6 h9
  unfold Aj Ch
  (simp only [h3, h5, h7, h8, h10, h11, h12, h13, Cw]; simp [h6, h9]; done)
 rw [e]
 refine Ac h12 (Ac h12 (Ac h12 (A7 h12 (Ac rfl (Ac rfl (Ac rfl (A7 rfl (Ac rfl (Ac rfl (Ac rfl (Ac rfl (A7 rfl (Ai rfl ?_)))))))))))))
 have e : Aj p = false := by
  try simp only [Cm] at h6 h9
  unfold Aj Ch
  (simp only [h3, h5, h7, h8, h10, h11, h12, Cw]; simp [h6, h9]; done)
 rw [e]
 refine Ac h11 (Ac h11 (Ac h11 (A7 h11 (Ac rfl (Ac rfl (Ac rfl (A7 rfl (Ac rfl (Ac rfl (Ac rfl (A7 rfl (Ac rfl (Ac rfl (Ac rfl (Ac rfl (A7 rfl (Ai rfl ?_)))))))))))))))))
 have e : Aj p = false := by
  try simp only [Cm] at h6 h9
  unfold Aj Ch
  (simp only [h3, h5, h7, h8, h10, h11, Cw]; simp [h6, h9]; done)
 rw [e]
 refine As (nT h10) (Ai rfl ?_)
 have e : Aj p = false := by
  try simp only [Cm] at h6 h9
  unfold Aj Ch
  (simp only [h3, h5, h7, h8, h10, Cw]; simp [h6, h9]; done)
 rw [e]
 refine Ac (nT h8) (Ac (nT h8) (Ac (nT h8) (Ac (nT h8) (Ae h7 (B4 (nT h8) (Ae h7 (Ac rfl (Ac rfl (Ac rfl (Ac rfl (Ae h7 (B4 rfl (B4 h7 (As rfl (Ai rfl ?_)))))))))))))))
 have e : Aj p = false := by
  try simp only [Cm] at h6
  unfold Aj Ch
  (simp only [h3, h5, h7, h8, Cw]; simp [h6]; done)
 rw [e]
 refine Ac h7 (Ac h7 (Ac h7 (Ac h7 (Ac h7 (D1 (D1 (D1 (D1 (Ac h7 (Ac h7 (D1 (D1 (D1 (D1 (Ac h7 (A7 h7 (Ax rfl (Ab (o' := 8) rfl (Ap (c := si p.fLevel) s4 (.here) rfl (Aq (v := (.bool (B3 p.fLevel 0 255))) s4 rfl (My .nil) (Gt (n + 8) _ p.fLevel 0 255) (Aa ((B3 p.fLevel 0 255)) (fun h15 => ?_) (fun h15 => ?_))))))))))))))))))))))
 refine Ae h15 (Ab (o' := 7) rfl (Ae h15 (Ap (c := ss p.fClient) s4 (.here) rfl (Ae h15 (Aq (v := (.bool (Bi p.fClient))) s4 rfl (.cons .sc .nil) (Gk (n + 5) (by omega) _ p.fClient) (B4 h15 (Aa ((Bi p.fClient)) (fun h16 => ?_) (fun h16 => ?_))))))))
 refine Ae h16 (Ab (o' := 10) rfl (Ae h16 (Ap (c := si p.fKeep) s4 (.here) rfl (Ae h16 (Aq (v := (.bool (B3 p.fKeep 0 65535))) s4 rfl (My .nil) (Gt (n + 8) _ p.fKeep 0 65535) (B4 h16 (Aa ((B3 p.fKeep 0 65535)) (fun h17 => ?_) (fun h17 => ?_))))))))
 refine Ae h17 (Ab (o' := 17) rfl (Ae h17 (Ap (c := ss p.fUser) s4 (.here) rfl (Ae h17 (Aq (v := (.bool (Bi p.fUser))) s4 rfl (.cons .sc .nil) (Gk (n + 5) (by omega) _ p.fUser) (B4 h17 (Aa ((Bi p.fUser)) (fun h18 => ?_) (fun h18 => ?_))))))))
 refine Ae h18 (Ab (o' := 19) rfl (Ae h18 (Ap (c := Ag p.fPass) s4 (.here) rfl (Ae h18 (Cz (Ae h18 (Ku (B4 h18 (Ai rfl ?_)))))))))
 have e : Aj p = (decide (((p.fPass.size : Nat) : Int) ≤ 60)) := by
  try simp only [Cm] at h6
  unfold Aj Ch
  (simp only [h3, h5, h7, h15, h16, h17, h18, Cw]; simp [h6]; done)
 rw [e]
 refine Ac h18 (Ac h18 (Ac h18 (Ac h18 (A7 h18 (Ai rfl ?_)))))
 have e : Aj p = false := by
  try simp only [Cm] at h6
  unfold Aj Ch
  (simp only [h3, h5, h7, h15, h16, h17, h18, Cw]; simp [h6]; done)
 rw [e]
 refine Ac h17 (Ac h17 (Ac h17 (A7 h17 (Ac rfl (Ac rfl (Ac rfl (Ac rfl (A7 rfl (Ai rfl ?_)))))))))
 have e : Aj p = false := by
  try simp only [Cm] at h6
  unfold Aj Ch
  (simp only [h3, h5, h7, h15, h16, h17, Cw]; simp [h6]; done)
 rw [e]
 refine Ac h16 (Ac h16 (Ac h16 (A7 h16 (Ac rfl (Ac rfl (Ac rfl (A7 rfl (Ac rfl (Ac rfl (Ac rfl (Ac rfl (A7 rfl (Ai rfl ?_)))))))))))))
 have e : Aj p = false := by
  try simp only [Cm] at h6
  unfold Aj Ch
  (simp only [h3, h5, h7, h15, h16, Cw]; simp [h6]; done)
 rw [e]
 refine Ac h15 (Ac h15 (Ac h15 (A7 h15 (Ac rfl (Ac rfl (Ac rfl (A7 rfl (Ac rfl (Ac rfl (Ac rfl (A7 rfl (Ac rfl (Ac rfl (Ac rfl (Ac rfl (A7 rfl (Ai rfl ?_)))))))))))))))))
 have e : Aj p = false := by
  try simp only [Cm] at h6
  unfold Aj Ch
  (simp only [h3, h5, h7, h15, Cw]; simp [h6]; done)
 rw [e]
 refine Ax h6 (Be (Aa ((decide (p.fType = 2))) (fun h19 => ?_) (fun h19 => ?_)))
 refine As h19 (Ab (o' := 20) rfl (Ap (c := si p.fCode) s4 (.here) rfl (Aq (v := (.bool (B3 p.fCode 0 5))) s4 rfl (My .nil) (Gt (n + 8) _ p.fCode 0 5) (Ai rfl ?_))))
 have e : Aj p = (B3 p.fCode 0 5) := by
  try simp only [Cm] at h6 h19
  unfold Aj Ch
  (simp only [h3, h5, Cw]; simp [h6, h19]; done)
 rw [e]
 refine Ax h19 (Be (Aa ((decide (p.fType = 3))) (fun h20 => ?_) (fun h20 => ?_)))
 refine As h20 (Ab (o' := 2) rfl (Ap (c := si p.fQos) s4 (.here) rfl (Aq (v := (.bool (B3 p.fQos 0 2))) s4 rfl (My .nil) (Gt (n + 8) _ p.fQos 0 2) (Aa ((B3 p.fQos 0 2)) (fun h21 => ?_) (fun h21 => ?_)))))
 refine Ae h21 (Ab (o' := 2) rfl (Ae h21 (Ap (c := si p.fQos) s4 (.here) rfl (Ae h21 (Be (Ae h21 (Aa ((decide (p.fQos = 0))) (fun h22 => ?_) (fun h22 => ?_))))))))
 refine Ac h22 (Ae h21 (B4 h22 (B4 h21 (Ae rfl (Ab (o' := 5) rfl (Ae rfl (Ap (c := ss p.fTopic) s4 (.here) rfl (Ae rfl (Aq (v := (.bool (Dl p.fTopic))) s4 rfl (.cons .sc .nil) (Ka (n + 4) (by omega) _ p.fTopic hp.t1) (B4 rfl (Aa ((Dl p.fTopic)) (fun h23 => ?_) (fun h23 => ?_))))))))))))
 refine Ae h23 (Ab (o' := 6) rfl (Ae h23 (Ap (c := Ag p.fBody) s4 (.here) rfl (Ae h23 (Cz (Ae h23 (Ku (B4 h23 (Ai rfl ?_)))))))))
 have e : Aj p = (decide (((p.fBody.size : Nat) : Int) ≤ 40)) := by
  try simp only [Cm] at h6 h19 h20 h22
  unfold Aj Ch
  (simp only [h3, h5, h21, h23, Cw]; simp [h6, h19, h20, h22]; done)
 rw [e]
 refine Ac h23 (Ac h23 (Ac h23 (Ac h23 (A7 h23 (Ai rfl ?_)))))
 have e : Aj p = false := by
  try simp only [Cm] at h6 h19 h20 h22
  unfold Aj Ch
  (simp only [h3, h5, h21, h23, Cw]; simp [h6, h19, h20, h22]; done)
 rw [e]
 refine Ae h22 (Ae h21 (A7 h22 (B4 h21 (Aa ((B3 p.fId 1 65535)) (fun h24 => ?_) (fun h24 => ?_)))))
 refine Ae h24 (Ab (o' := 5) rfl (Ae h24 (Ap (c := ss p.fTopic) s4 (.here) rfl (Ae h24 (Aq (v := (.bool (Dl p.fTopic))) s4 rfl (.cons .sc .nil) (Ka (n + 4) (by omega) _ p.fTopic hp.t1) (B4 h24 (Aa ((Dl p.fTopic)) (fun h25 => ?_) (fun h25 => ?_))))))))
 refine Ae h25 (Ab (o' := 6) rfl (Ae h25 (Ap (c := Ag p.fBody) s4 (.here) rfl (Ae h25 (Cz (Ae h25 (Ku (B4 h25 (Ai rfl ?_)))))))))
 have e : Aj p = (decide (((p.fBody.size : Nat) : Int) ≤ 40)) := by
  try simp only [Cm] at h6 h19 h20 h22
  unfold Aj Ch
  (simp only [h3, h5, h21, h24, h25, Cw]; simp [h6, h19, h20, h22]; done)
 rw [e]
 refine Ac h25 (Ac h25 (Ac h25 (Ac h25 (A7 h25 (Ai rfl ?_)))))
 have e : Aj p = false := by
  try simp only [Cm] at h6 h19 h20 h22
  unfold Aj Ch
  (simp only [h3, h5, h21, h24, h25, Cw]; simp [h6, h19, h20, h22]; done)
 rw [e]
 refine Ac h24 (Ac h24 (Ac h24 (A7 h24 (Ac rfl (Ac rfl (Ac rfl (Ac rfl (A7 rfl (Ai rfl ?_)))))))))
 have e : Aj p = false := by
  try simp only [Cm] at h6 h19 h20 h22
  unfold Aj Ch
  (simp only [h3, h5, h21, h24, Cw]; simp [h6, h19, h20, h22]; done)
 rw [e]
 refine Ac h21 (Ac h21 (Ac h21 (Ac h21 (D1 (Ac h21 (A7 h21 (Ac rfl (Ac rfl (Ac rfl (A7 rfl (Ac rfl (Ac rfl (Ac rfl (Ac rfl (A7 rfl (Ai rfl ?_))))))))))))))))
 have e : Aj p = false := by
  try simp only [Cm] at h6 h19 h20
  unfold Aj Ch
  (simp only [h3, h5, h21, Cw]; simp [h6, h19, h20]; done)
 rw [e]
 refine Ax h20 (Be (Di (Aa ((decide (p.fType = 12))) (fun h26 => ?_) (fun h26 => ?_))))
 refine As h26 (As h26 (Ai rfl ?_))
 have e : Aj p = true := by
  try simp only [Cm] at h6 h19 h20 h26
  unfold Aj Ch
  (simp only [h3, h5, Cw]; simp [h6, h19, h20, h26]; done)
 rw [e]
 refine Ax h26 (Be (Aa ((decide (p.fType = 13))) (fun h27 => ?_) (fun h27 => ?_)))
 refine As h27 (As h27 (Ai rfl ?_))
 have e : Aj p = true := by
  try simp only [Cm] at h6 h19 h20 h26 h27
  unfold Aj Ch
  (simp only [h3, h5, Cw]; simp [h6, h19, h20, h26, h27]; done)
 rw [e]
 refine Ax h27 (Be (Aa ((decide (p.fType = 14))) (fun h28 => ?_) (fun h28 => ?_)))
 refine As h28 (Ai rfl ?_)
 have e : Aj p = true := by
  try simp only [Cm] at h6 h19 h20 h26 h27 h28
  unfold Aj Ch
  (simp only [h3, h5, Cw]; simp [h6, h19, h20, h26, h27, h28]; done)
 rw [e]
 refine Ax h28 (Be (Aa ((decide (p.fType = 8))) (fun h29 => ?_) (fun h29 => ?_)))
 refine As h29 ?_
 have hv : Aj p = (p.fWants.all Bz && (B3 p.fId 1 65535 && B3 ((p.fWants.length : Nat) : Int) 1 4)) := by
  try simp only [Cm] at h6 h19 h20 h26 h27 h28 h29
  unfold Aj Ch
  (simp only [h3, h5, Cw]; simp [h6, h19, h20, h26, h27, h28, h29]; done)
 rw [hv]
 exact R9 n hn p hp h3 h5 h6 h19 h20 h26 h27 h28 h29  p.fWants [] _ 0 i1 _ rfl rfl (by omega) s4
 refine Ax h29 (Be (Aa ((decide (p.fType = 9))) (fun h30 => ?_) (fun h30 => ?_)))
 refine As h30 ?_
 have hv : Aj p = (p.fCodes.all Bs && (B3 p.fId 1 65535 && B3 ((p.fCodes.length : Nat) : Int) 1 4)) := by
  try simp only [Cm] at h6 h19 h20 h26 h27 h28 h29 h30
  unfold Aj Ch
  (simp only [h3, h5, Cw]; simp [h6, h19, h20, h26, h27, h28, h29, h30]; done)
 rw [hv]
 exact N8 n hn p hp h3 h5 h6 h19 h20 h26 h27 h28 h29 h30  p.fCodes [] _ 0 i1 _ rfl rfl (by omega) s4
 refine Ax h30 (Be (Aa ((decide (p.fType = 10))) (fun h31 => ?_) (fun h31 => ?_)))
 refine As h31 ?_
 have hv : Aj p = (p.fNames.all Cb && (B3 p.fId 1 65535 && B3 ((p.fNames.length : Nat) : Int) 1 4)) := by
  try simp only [Cm] at h6 h19 h20 h26 h27 h28 h29 h30 h31
  unfold Aj Ch
  (simp only [h3, h5, Cw]; simp [h6, h19, h20, h26, h27, h28, h29, h30, h31]; done)
 rw [hv]
 exact Sa n hn p hp h3 h5 h6 h19 h20 h26 h27 h28 h29 h30 h31  p.fNames [] _ 0 i1 _ rfl rfl (by omega) s4
 refine Ax h31 (Ai rfl ?_)
 have e : Aj p = (B3 p.fId 1 65535) := by
  try simp only [Cm] at h6 h19 h20 h26 h27 h28 h29 h30 h31
  unfold Aj Ch
  (simp only [h3, h5, Cw]; simp [h6, h19, h20, h26, h27, h28, h29, h30, h31]; done)
 rw [e]
 refine As (nT h5) (Ai rfl ?_)
 have e : Aj p = false := by
  unfold Aj Ch
  (simp only [h3, h5, Cw]; done)
 rw [e]
 refine Ae (nF h3) (J6 rfl rfl (Wk (n + 8) (by omega) p s2 fun Rs32 H hRs32 s32 => Ae (nF h3) (At s32 (.here) rfl (Ae (nF h3) (Aq (v := (.bool (Cp p (Az true p)))) s32 rfl (.aggF (Cy _) (.agg (hRs32 _) .nil)) (Oj (n + 7) (by omega) _ p (Az true p) hp.l1 hp.l2 hp.l3) (Ae (nF h3) (C2 (A7 (nF h3) (Aa ((Cp p (Az true p))) (fun h33 => ?_) (fun h33 => ?_))))))))))
 refine Ax (nF h33) (Ab (o' := 4) rfl (Ap (c := si p.fId) s32 (.here) rfl (Aq (v := (.bool (B3 p.fId 1 65535))) s32 rfl (My .nil) (Gt (n + 8) _ p.fId 1 65535) (Ab (o' := 0) rfl (Ap (c := si p.fType) s32 (.here) rfl (Be (Aa ((decide (p.fType = 1))) (fun h34 => ?_) (fun h34 => ?_))))))))
 refine As h34 (Ab (o' := 11) rfl (Ap (c := sb p.fHasWill) s32 (.here) rfl (Aa (p.fHasWill) (fun h35 => ?_) (fun h35 => ?_))))
 refine Ae h35 (Ab (o' := 12) rfl (Ae h35 (Ap (c := ss p.fWTopic) s32 (.here) rfl (Ae h35 (Aq (v := (.bool (Dl p.fWTopic))) s32 rfl (.cons .sc .nil) (Ka (n + 4) (by omega) _ p.fWTopic hp.t3) (Ae h35 (C2 (Ae h35 (Aa ((Dl p.fWTopic)) (fun h36 => ?_) (fun h36 => ?_))))))))))
 refine Ae (nF h36) (Ab (o' := 13) rfl (Ae (nF h36) (Ap (c := Ag p.fWBody) s32 (.here) rfl (Ae (nF h36) (Cz (Ae (nF h36) (Er (Ae h35 (A7 (nF h36) (Ae h35 (Aa ((decide (40 < ((p.fWBody.size : Nat) : Int)))) (fun h37 => ?_) (fun h37 => ?_))))))))))))
 refine Ac h37 (Ac h37 (Ac h37 (Ac h37 (Ae h35 (B4 h37 (B4 h35 (As rfl (Ai rfl ?_))))))))
 have e : Aj p = false := by
  clear s0 s2 s32
  try simp only [Cm] at h34 h37
  unfold Aj Ch
  (simp only [h3, h33, h35, h36, Cw]; simp [h34, h37]; omega)
 rw [e]
 refine Ae h37 (Ab (o' := 14) rfl (Ae h37 (Ap (c := si p.fWQos) s32 (.here) rfl (Ae h37 (Aq (v := (.bool (B3 p.fWQos 0 2))) s32 rfl (My .nil) (Gt (n + 8) _ p.fWQos 0 2) (Ae h37 (C2 (Ae h35 (A7 h37 (B4 h35 (Aa ((B3 p.fWQos 0 2)) (fun h38 => ?_) (fun h38 => ?_))))))))))))
 refine Ax (nF h38) (Ab (o' := 8) rfl (Ap (c := si p.fLevel) s32 (.here) rfl (Aq (v := (.bool (B3 p.fLevel 0 255))) s32 rfl (My .nil) (Gt (n + 8) _ p.fLevel 0 255) (Aa ((B3 p.fLevel 0 255)) (fun h39 => ?_) (fun h39 => ?_)))))
 refine Ae h39 (Ab (o' := 7) rfl (Ae h39 (Ap (c := ss p.fClient) s32 (.here) rfl (Ae h39 (Aq (v := (.bool (Bi p.fClient))) s32 rfl (.cons .sc .nil) (Gk (n + 5) (by omega) _ p.fClient) (B4 h39 (Aa ((Bi p.fClient)) (fun h40 => ?_) (fun h40 => ?_))))))))
 refine Ae h40 (Ab (o' := 10) rfl (Ae h40 (Ap (c := si p.fKeep) s32 (.here) rfl (Ae h40 (Aq (v := (.bool (B3 p.fKeep 0 65535))) s32 rfl (My .nil) (Gt (n + 8) _ p.fKeep 0 65535) (B4 h40 (Aa ((B3 p.fKeep 0 65535)) (fun h41 => ?_) (fun h41 => ?_))))))))
 refine Ae h41 (Ab (o' := 17) rfl (Ae h41 (Ap (c := ss p.fUser) s32 (.here) rfl (Ae h41 (Aq (v := (.bool (Bi p.fUser))) s32 rfl (.cons .sc .nil) (Gk (n + 5) (by omega) _ p.fUser) (B4 h41 (Aa ((Bi p.fUser)) (fun h42 => ?_) (fun h42 => ?_))))))))
 refine Ae h42 (Ab (o' := 19) rfl (Ae h42 (Ap (c := Ag p.fPass) s32 (.here) rfl (Ae h42 (Cz (Ae h42 (Ku (B4 h42 (Ai rfl ?_)))))))))
 have e : Aj p = (decide (((p.fPass.size : Nat) : Int) ≤ 60)) := by
  try simp only [Cm] at h34 h37
  unfold Aj Ch
  (simp only [h3, h33, h35, h36, h38, h39, h40, h41, h42, Cw]; simp [h34, h37]; done)
 rw [e]
 refine Ac h42 (Ac h42 (Ac h42 (Ac h42 (A7 h42 (Ai rfl ?_)))))
 have e : Aj p = false := by
  try simp only [Cm] at h34 h37
  unfold Aj Ch
  (simp only [h3, h33, h35, h36, h38, h39, h40, h41, h42, Cw]; simp [h34, h37]; done)
 rw [e]
 refine Ac h41 (Ac h41 (Ac h41 (A7 h41 (Ac rfl (Ac rfl (Ac rfl (Ac rfl (A7 rfl (Ai rfl ?_)))))))))
 have e : Aj p = false := by
  try simp only [Cm] at h34 h37
  unfold Aj Ch
  (simp only [h3, h33, h35, h36, h38, h39, h40, h41, Cw]; simp [h34, h37]; done)
 rw [e]
 refine Ac h40 (Ac h40 (Ac h40 (A7 h40 (Ac rfl (Ac rfl (Ac rfl (A7 rfl (Ac rfl (Ac rfl (Ac rfl (Ac rfl (A7 rfl (Ai rfl ?_)))))))))))))
 have e : Aj p = false := by
  try simp only [Cm] at h34 h37
  unfold Aj Ch
  (simp only [h3, h33, h35, h36, h38, h39, h40, Cw]; simp [h34, h37]; done)
 rw [e]
 refine Ac h39 (Ac h39 (Ac h39 (A7 h39 (Ac rfl (Ac rfl (Ac rfl (A7 rfl (Ac rfl (Ac rfl (Ac rfl (A7 rfl (Ac rfl (Ac rfl (Ac rfl (Ac rfl (A7 rfl (Ai rfl ?_)))))))))))))))))
 have e : Aj p = false := by
  try simp only [Cm] at h34 h37
  unfold Aj Ch
  (simp only [h3, h33, h35, h36, h38, h39, Cw]; simp [h34, h37]; done)
 rw [e]
 refine As (nT h38) (Ai rfl ?_)
 have e : Aj p = false := by
  try simp only [Cm] at h34 h37
  unfold Aj Ch
  (simp only [h3, h33, h35, h36, h38, Cw]; simp [h34, h37]; done)
 rw [e]
 refine Ac (nT h36) (Ac (nT h36) (Ac (nT h36) (Ac (nT h36) (Ae h35 (B4 (nT h36) (Ae h35 (Ac rfl (Ac rfl (Ac rfl (Ac rfl (Ae h35 (B4 rfl (B4 h35 (As rfl (Ai rfl ?_)))))))))))))))
 have e : Aj p = false := by
  try simp only [Cm] at h34
  unfold Aj Ch
  (simp only [h3, h33, h35, h36, Cw]; simp [h34]; done)
 rw [e]
 refine Ac h35 (Ac h35 (Ac h35 (Ac h35 (Ac h35 (D1 (D1 (D1 (D1 (Ac h35 (Ac h35 (D1 (D1 (D1 (D1 (Ac h35 (A7 h35 (Ax rfl (Ab (o' := 8) rfl (Ap (c := si p.fLevel) s32 (.here) rfl (Aq (v := (.bool (B3 p.fLevel 0 255))) s32 rfl (My .nil) (Gt (n + 8) _ p.fLevel 0 255) (Aa ((B3 p.fLevel 0 255)) (fun h43 => ?_) (fun h43 => ?_))))))))))))))))))))))
 refine Ae h43 (Ab (o' := 7) rfl (Ae h43 (Ap (c := ss p.fClient) s32 (.here) rfl (Ae h43 (Aq (v := (.bool (Bi p.fClient))) s32 rfl (.cons .sc .nil) (Gk (n + 5) (by omega) _ p.fClient) (B4 h43 (Aa ((Bi p.fClient)) (fun h44 => ?_) (fun h44 => ?_))))))))
 refine Ae h44 (Ab (o' := 10) rfl (Ae h44 (Ap (c := si p.fKeep) s32 (.here) rfl (Ae h44 (Aq (v := (.bool (B3 p.fKeep 0 65535))) s32 rfl (My .nil) (Gt (n + 8) _ p.fKeep 0 65535) (B4 h44 (Aa ((B3 p.fKeep 0 65535)) (fun h45 => ?_) (fun h45 => ?_))))))))
 refine Ae h45 (Ab (o' := 17) rfl (Ae h45 (Ap (c := ss p.fUser) s32 (.here) rfl (Ae h45 (Aq (v := (.bool (Bi p.fUser))) s32 rfl (.cons .sc .nil) (Gk (n + 5) (by omega) _ p.fUser) (B4 h45 (Aa ((Bi p.fUser)) (fun h46 => ?_) (fun h46 => ?_))))))))
 refine Ae h46 (Ab (o' := 19) rfl (Ae h46 (Ap (c := Ag p.fPass) s32 (.here) rfl (Ae h46 (Cz (Ae h46 (Ku (B4 h46 (Ai rfl ?_)))))))))
 have e : Aj p = (decide (((p.fPass.size : Nat) : Int) ≤ 60)) := by
  try simp only [Cm] at h34
  unfold Aj Ch
  (simp only [h3, h33, h35, h43, h44, h45, h46, Cw]; simp [h34]; done)
 rw [e]
 refine Ac h46 (Ac h46 (Ac h46 (Ac h46 (A7 h46 (Ai rfl ?_)))))
 have e : Aj p = false := by
  try simp only [Cm] at h34
  unfold Aj Ch
  (simp only [h3, h33, h35, h43, h44, h45, h46, Cw]; simp [h34]; done)
 rw [e]
 refine Ac h45 (Ac h45 (Ac h45 (A7 h45 (Ac rfl (Ac rfl (Ac rfl (Ac rfl (A7 rfl (Ai rfl ?_)))))))))
 have e : Aj p = false := by
  try simp only [Cm] at h34
  unfold Aj Ch
  (simp only [h3, h33, h35, h43, h44, h45, Cw]; simp [h34]; done)
 rw [e]
 refine Ac h44 (Ac h44 (Ac h44 (A7 h44 (Ac rfl (Ac rfl (Ac rfl (A7 rfl (Ac rfl (Ac rfl (Ac rfl (Ac rfl (A7 rfl (Ai rfl ?_)))))))))))))
 have e : Aj p = false := by
  try simp only [Cm] at h34
  unfold Aj Ch
  (simp only [h3, h33, h35, h43, h44, Cw]; simp [h34]; done)
 rw [e]
 refine Ac h43 (Ac h43 (Ac h43 (A7 h43 (Ac rfl (Ac rfl (Ac rfl (A7 rfl (Ac rfl (Ac rfl (Ac rfl (A7 rfl (Ac rfl (Ac rfl (Ac rfl (Ac rfl (A7 rfl (Ai rfl ?_)))))))))))))))))
 have e : Aj p = false := by
  try simp only [Cm] at h34
  unfold Aj Ch
  (simp only [h3, h33, h35, h43, Cw]; simp [h34]; done)
 rw [e]
 refine Ax h34 (Be (Aa ((decide (p.fType = 2))) (fun h47 => ?_) (fun h47 => ?_)))
 refine As h47 (Ab (o' := 20) rfl (Ap (c := si p.fCode) s32 (.here) rfl (Aq (v := (.bool (B3 p.fCode 0 5))) s32 rfl (My .nil) (Gt (n + 8) _ p.fCode 0 5) (Ai rfl ?_))))
 have e : Aj p = (B3 p.fCode 0 5) := by
  try simp only [Cm] at h34 h47
  unfold Aj Ch
  (simp only [h3, h33, Cw]; simp [h34, h47]; done)
 rw [e]
 refine Ax h47 (Be (Aa ((decide (p.fType = 3))) (fun h48 => ?_) (fun h48 => ?_)))
 refine As h48 (Ab (o' := 2) rfl (Ap (c := si p.fQos) s32 (.here) rfl (Aq (v := (.bool (B3 p.fQos 0 2))) s32 rfl (My .nil) (Gt (n + 8) _ p.fQos 0 2) (Aa ((B3 p.fQos 0 2)) (fun h49 => ?_) (fun h49 => ?_)))))
 refine Ae h49 (Ab (o' := 2) rfl (Ae h49 (Ap (c := si p.fQos) s32 (.here) rfl (Ae h49 (Be (Ae h49 (Aa ((decide (p.fQos = 0))) (fun h50 => ?_) (fun h50 => ?_))))))))
 refine Ac h50 (Ae h49 (B4 h50 (B4 h49 (Ae rfl (Ab (o' := 5) rfl (Ae rfl (Ap (c := ss p.fTopic) s32 (.here) rfl (Ae rfl (Aq (v := (.bool (Dl p.fTopic))) s32 rfl (.cons .sc .nil) (Ka (n + 4) (by omega) _ p.fTopic hp.t1) (B4 rfl (Aa ((Dl p.fTopic)) (fun h51 => ?_) (fun h51 => ?_))))))))))))
 refine Ae h51 (Ab (o' := 6) rfl (Ae h51 (Ap (c := Ag p.fBody) s32 (.here) rfl (Ae h51 (Cz (Ae h51 (Ku (B4 h51 (Ai rfl ?_)))))))))
 have e : Aj p = (decide (((p.fBody.size : Nat) : Int) ≤ 40)) := by
  try simp only [Cm] at h34 h47 h48 h50
  unfold Aj Ch
  (simp only [h3, h33, h49, h51, Cw]; simp [h34, h47, h48, h50]; done)
 rw [e]
 refine Ac h51 (Ac h51 (Ac h51 (Ac h51 (A7 h51 (Ai rfl ?_)))))
 have e : Aj p = false := by
  try simp only [Cm] at h34 h47 h48 h50
  unfold Aj Ch
  (simp only [h3, h33, h49, h51, Cw]; simp [h34, h47, h48, h50]; done)
 rw [e]
 refine Ae h50 (Ae h49 (A7 h50 (B4 h49 (Aa ((B3 p.fId 1 65535)) (fun h52 => ?_) (fun h52 => ?_)))))
 refine Ae h52 (Ab (o' := 5) rfl (Ae h52 (Ap (c := ss p.fTopic) s32 (.here) rfl (Ae h52 (Aq (v := (.bool (Dl p.fTopic))) s32 rfl (.cons .sc .nil) (Ka (n + 4) (by omega) _ p.fTopic hp.t1) (B4 h52 (Aa ((Dl p.fTopic)) (fun h53 => ?_) (fun h53 => ?_))))))))
 refine Ae h53 (Ab (o' := 6) rfl (Ae h53 (Ap (c := Ag p.fBody) s32 (.here) rfl (Ae h53 (Cz (Ae h53 (Ku (B4 h53 (Ai rfl ?_)))))))))
 have e : Aj p = (decide (((p.fBody.size : Nat) : Int) ≤ 40)) := by
  try simp only [Cm] at h34 h47 h48 h50
  unfold Aj Ch
  (simp only [h3, h33, h49, h52, h53, Cw]; simp [h34, h47, h48, h50]; done)
 rw [e]
 refine Ac h53 (Ac h53 (Ac h53 (Ac h53 (A7 h53 (Ai rfl ?_)))))
 have e : Aj p = false := by
  try simp only [Cm] at h34 h47 h48 h50
  unfold Aj Ch
  (simp only [h3, h33, h49, h52, h53, Cw]; simp [h34, h47, h48, h50]; done)
 rw [e]
 refine Ac h52 (Ac h52 (Ac h52 (A7 h52 (Ac rfl (Ac rfl (Ac rfl (Ac rfl (A7 rfl (Ai rfl ?_)))))))))
 have e : Aj p = false := by
  try simp only [Cm] at h34 h47 h48 h50
  unfold Aj Ch
  (simp only [h3, h33, h49, h52, Cw]; simp [h34, h47, h48, h50]; done)
 rw [e]
 refine Ac h49 (Ac h49 (Ac h49 (Ac h49 (D1 (Ac h49 (A7 h49 (Ac rfl (Ac rfl (Ac rfl (A7 rfl (Ac rfl (Ac rfl (Ac rfl (Ac rfl (A7 rfl (Ai rfl ?_))))))))))))))))
 have e : Aj p = false := by
  try simp only [Cm] at h34 h47 h48
  unfold Aj Ch
  (simp only [h3, h33, h49, Cw]; simp [h34, h47, h48]; done)
 rw [e]
 refine Ax h48 (Be (Di (Aa ((decide (p.fType = 12))) (fun h54 => ?_) (fun h54 => ?_))))
 refine As h54 (As h54 (Ai rfl ?_))
 have e : Aj p = true := by
  try simp only [Cm] at h34 h47 h48 h54
  unfold Aj Ch
  (simp only [h3, h33, Cw]; simp [h34, h47, h48, h54]; done)
 rw [e]
 refine Ax h54 (Be (Aa ((decide (p.fType = 13))) (fun h55 => ?_) (fun h55 => ?_)))
 refine As h55 (As h55 (Ai rfl ?_))
 have e : Aj p = true := by
  try simp only [Cm] at h34 h47 h48 h54 h55
  unfold Aj Ch
  (simp only [h3, h33, Cw]; simp [h34, h47, h48, h54, h55]; done)
 rw [e]
 refine Ax h55 (Be (Aa ((decide (p.fType = 14))) (fun h56 => ?_) (fun h56 => ?_)))
 refine As h56 (Ai rfl ?_)
 have e : Aj p = true := by
  try simp only [Cm] at h34 h47 h48 h54 h55 h56
  unfold Aj Ch
  (simp only [h3, h33, Cw]; simp [h34, h47, h48, h54, h55, h56]; done)
 rw [e]
 refine Ax h56 (Be (Aa ((decide (p.fType = 8))) (fun h57 => ?_) (fun h57 => ?_)))
 refine As h57 ?_
 have hv : Aj p = (p.fWants.all Bz && (B3 p.fId 1 65535 && B3 ((p.fWants.length : Nat) : Int) 1 4)) := by
  try simp only [Cm] at h34 h47 h48 h54 h55 h56 h57
  unfold Aj Ch
  (simp only [h3, h33, Cw]; simp [h34, h47, h48, h54, h55, h56, h57]; done)
 rw [hv]
 exact Qf n hn p hp h3 h33 h34 h47 h48 h54 h55 h56 h57  p.fWants [] _ 0 i1 _ rfl rfl (by omega) s32
 refine Ax h57 (Be (Aa ((decide (p.fType = 9))) (fun h58 => ?_) (fun h58 => ?_)))
 refine As h58 ?_
 have hv : Aj p = (p.fCodes.all Bs && (B3 p.fId 1 65535 && B3 ((p.fCodes.length : Nat) : Int) 1 4)) := by
  try simp only [Cm] at h34 h47 h48 h54 h55 h56 h57 h58
  unfold Aj Ch
  (simp only [h3, h33, Cw]; simp [h34, h47, h48, h54, h55, h56, h57, h58]; done)
 rw [hv]
 exact Mt n hn p hp h3 h33 h34 h47 h48 h54 h55 h56 h57 h58  p.fCodes [] _ 0 i1 _ rfl rfl (by omega) s32
 refine Ax h58 (Be (Aa ((decide (p.fType = 10))) (fun h59 => ?_) (fun h59 => ?_)))
 refine As h59 ?_
 have hv : Aj p = (p.fNames.all Cb && (B3 p.fId 1 65535 && B3 ((p.fNames.length : Nat) : Int) 1 4)) := by
  try simp only [Cm] at h34 h47 h48 h54 h55 h56 h57 h58 h59
  unfold Aj Ch
  (simp only [h3, h33, Cw]; simp [h34, h47, h48, h54, h55, h56, h57, h58, h59]; done)
 rw [hv]
 exact Qg n hn p hp h3 h33 h34 h47 h48 h54 h55 h56 h57 h58 h59  p.fNames [] _ 0 i1 _ rfl rfl (by omega) s32
 refine Ax h59 (Ai rfl ?_)
 have e : Aj p = (B3 p.fId 1 65535) := by
  try simp only [Cm] at h34 h47 h48 h54 h55 h56 h57 h58 h59
  unfold Aj Ch
  (simp only [h3, h33, Cw]; simp [h34, h47, h48, h54, h55, h56, h57, h58, h59]; done)
 rw [e]
 refine As (nT h33) (Ai rfl ?_)
 have e : Aj p = false := by
  unfold Aj Ch
  (simp only [h3, h33, Cw]; done)
 rw [e]
 refine Ac (nT h3) (Gd.bothE ?_ ?_)
 refine Ac (nT h3) (Ac (nT h3) (Ac (nT h3) (Ac (nT h3) (B4 (nT h3) (As rfl (Ai rfl ?_))))))
 have e : Aj p = false := by
  unfold Aj Ch
  (simp only [h3, Cw]; done)
 rw [e]
 refine Ac (nT h3) (Ac (nT h3) (Ac (nT h3) (Ac (nT h3) (B4 (nT h3) (As rfl (Ai rfl ?_))))))
 have e : Aj p = false := by
  unfold Aj Ch
  (simp only [h3, Cw]; done)
 rw [e]
theorem J4 {α : Type} {e : α → α → Bool} {a : List α} (h : Hg e a [] = true) : a = [] := by
 cases a with
 | nil => rfl
 | cons x l => simp [Hg] at h
theorem Ale (p : PacketV) : Aj p = Ah p := by
 unfold Aj Ah
 cases hi : B3 p.fType 1 14
 rfl
 simp only [zaA]
 have hi2 : 1 ≤ p.fType ∧ p.fType ≤ 14 := by simpa [B3] using hi
 by_cases h2 : p.fType = 2
 have e1 : Az true p = { Ce p.fType with fCode := p.fCode, fPresent := p.fPresent && decide (p.fCode = 0) } := by unfold Az; simp [h2]
 have e2 : Az false p = { Ce p.fType with fCode := p.fCode, fPresent := p.fPresent } := by unfold Az; simp [h2]
 have k1 : Ch p = B3 p.fCode 0 5 := by unfold Ch; simp [h2]
 have k2 : Bx p = (B3 p.fCode 0 5 && (!p.fPresent || decide (p.fCode = 0))) := by unfold Bx; simp [h2]
 rw [e1, e2, k1, k2]
 cases hp : p.fPresent
 simp
 by_cases hc : p.fCode = 0
 simp [hc]
 have : Cp p { Ce p.fType with fCode := p.fCode, fPresent := true && decide (p.fCode = 0) } = false := by
  unfold Cp Ha
  simp [hp, hc]
 rw [this]
 simp [hc]
 have hn : Az true p = Az false p := by unfold Az; simp [h2]
 rw [hn]
 cases hs : Cp p (Az false p)
 rfl
 simp only [zaA]
 have hl : L4 p (Az false p) = true := by
  unfold Cp at hs
  rw [zag] at hs
  exact hs.1
 unfold L4 at hl
 simp only [zag] at hl
 obtain ⟨⟨l1, l2⟩, l3⟩ := hl
 by_cases h1 : p.fType = 1
 unfold Ch Bx Ca
 simp only [h1, if_true]
 generalize decide (((p.fWBody.size : Nat) : Int) ≤ 40) = b1
 generalize decide (((p.fPass.size : Nat) : Int) ≤ 60) = b2
 cases p.fHasWill <;> cases Dl p.fWTopic <;> cases B3 p.fLevel 0 255 <;> cases Bi p.fClient <;> cases B3 p.fKeep 0 65535 <;> cases Bi p.fUser <;> cases B3 p.fWQos 0 2 <;> cases b1 <;> cases b2 <;> rfl
 by_cases h3 : p.fType = 3
 unfold Ch Bx
 simp only [h3, if_true, show ¬ (3 : Int) = 1 by decide, show ¬ (3 : Int) = 2 by decide, if_false]
 generalize decide (p.fQos = 0) = b1
 generalize decide (((p.fBody.size : Nat) : Int) ≤ 40) = b2
 cases B3 p.fQos 0 2 <;> cases Dl p.fTopic <;> cases B3 p.fId 1 65535 <;> cases b1 <;> cases b2 <;> rfl
 by_cases h8 : p.fType = 8
 have f2 : (Az false p).fNames = [] := by unfold Az; simp [h8, Ce]
 have f3 : (Az false p).fCodes = [] := by unfold Az; simp [h8, Ce]
 rw [f2] at l2
 rw [f3] at l3
 unfold Ch Bx Fb Iz Jp Gf
 rw [J4 l2, J4 l3]
 simp only [h8, if_true, if_false]
 cases p.fWants.all Bz <;> cases B3 p.fId 1 65535 <;> simp
 by_cases h9 : p.fType = 9
 have f1 : (Az false p).fWants = [] := by unfold Az; simp [h9, Ce]
 have f2 : (Az false p).fNames = [] := by unfold Az; simp [h9, Ce]
 rw [f1] at l1
 rw [f2] at l2
 unfold Ch Bx Fb Iz Jp Gf
 rw [J4 l1, J4 l2]
 simp only [h9, if_true, if_false]
 cases p.fCodes.all Bs <;> cases B3 p.fId 1 65535 <;> simp
 by_cases h10 : p.fType = 10
 have f1 : (Az false p).fWants = [] := by unfold Az; simp [h10, Ce]
 have f3 : (Az false p).fCodes = [] := by unfold Az; simp [h10, Ce]
 rw [f1] at l1
 rw [f3] at l3
 unfold Ch Bx Fb Iz Jp Gf
 rw [J4 l1, J4 l3]
 simp only [h10, if_true, if_false]
 cases p.fNames.all Cb <;> cases B3 p.fId 1 65535 <;> simp
 unfold Ch Bx
 by_cases h12 : p.fType = 12 ∨ p.fType = 13 ∨ p.fType = 14
 rw [if_neg h1, if_neg h2, if_neg h3, if_pos h12, if_neg h1, if_neg h2, if_neg h3, if_neg (by omega), if_neg (by omega)]
 rw [if_neg h1, if_neg h2, if_neg h3, if_neg h12, if_neg h8, if_neg h9, if_neg h10, if_neg h1, if_neg h2, if_neg h3, if_pos (by omega)]
theorem S7 (n : Nat) (hn : 1048576 < n) (p : PacketV) (hp : Hd p) : Dd E0 (n + 10) 4 64 [.agg (Ar p)] = some (.sc (.bool (Ah p))) := by
 rw [← Ale]
 exact Aec n hn p hp
end
section
open Go
section
variable {β : Type} {n : Nat} {H : Ad} {L L' L1 L2 : List Ck} {G : Option β → Prop} {K : AV → Option β} {KH : KO β}
theorem Ma (n : Int) : bits .and .i64 n 255 = n % 256 := by
 have h255 : (BitVec.ofInt 64 255).toNat = 2 ^ 8 - 1 := by decide
 have key : (BitVec.ofInt 64 n &&& BitVec.ofInt 64 255).toNat = (n % ((2 ^ 64 : Nat) : Int)).toNat % 2 ^ 8 := by
  rw [BitVec.toNat_and, BitVec.toNat_ofInt, h255, Nat.and_two_pow_sub_one_eq_mod]
 show IntKind.i64.wrap ((BitVec.ofInt 64 n &&& BitVec.ofInt 64 255).toNat : Nat) = n % 256
 rw [key, IntKind.wrap_i64]
 omega
theorem Nh (n : Int) (h0 : 0 ≤ n) (h1 : n < 2 ^ 63) : IntKind.i64.wrap n = n := by rw [IntKind.wrap_i64]; omega
theorem Ug (i : Nat) (x y : Int) (hx0 : 0 ≤ x) (hx : x % 2 ^ i = 0) (hx1 : x < 9223372036854775808) (hy0 : 0 ≤ y) (hy : y < 2 ^ i) (hy1 : y < 9223372036854775808) : bits .or .i64 x y = x + y := bits_join .i64 63 (by decide) Nh i x y hx0 hx (by omega) hy0 hy (by omega)
theorem Alc (i : Nat) (x y : Int) (hx0 : 0 ≤ x) (hx : x % 2 ^ i = 0) (hx1 : x < 9223372036854775808) (hy0 : 0 ≤ y) (hy : y < 2 ^ i) (hy1 : y < 9223372036854775808) : bits .or .i64 y x = y + x := by
 have h := Ug i x y hx0 hx hx1 hy0 hy hy1
 obtain ⟨a, rfl⟩ := zbo hx0
 obtain ⟨b, rfl⟩ := zbo hy0
 rw [(bits_nat .i64 63 (by decide) Nh a b (by omega) (by omega)).2] at h
 rw [(bits_nat .i64 63 (by decide) Nh b a (by omega) (by omega)).2, Nat.or_comm, h, zbK]
theorem AdZ {x y : Int} (hx0 : 0 ≤ x) (hx1 : x < 9223372036854775808) (hy0 : 0 ≤ y) (hy1 : y < 9223372036854775808) : 0 ≤ bits .or .i64 x y ∧ bits .or .i64 x y < 9223372036854775808 := by
 obtain ⟨a, rfl⟩ := zbo hx0
 obtain ⟨b, rfl⟩ := zbo hy0
 rw [(bits_nat .i64 63 (by decide) Nh a b (by omega) (by omega)).2]
 have := Nat.or_lt_two_pow (x := a) (y := b) (n := 63) (by omega) (by omega)
 omega
theorem Oq {x : Int} (h0 : 0 ≤ x) (h1 : x < 256) : bits .and .i64 x 127 = x % 128 := bits_mask .i64 63 (by decide) Nh 7 (by decide) x h0 (by omega)
theorem Tn {kb : IntKind} {a b : Int} (c : Int) (hc : (2 : Int) ^ b.toNat = c) (h0 : 0 ≤ b ∧ b ≤ 64) (h : Gd G (K (.sc (.int .i64 (a / c))))) : Gd G (Cs .shr (.sc (.int .i64 a)) (.sc (.int kb b)) fun t => K t) := by
 refine Ei ?_ h
 subst hc
 show (shI .shr .i64 a b).bind _ = _
 unfold shI
 rw [if_pos (show 0 ≤ b ∧ b ≤ ((IntKind.i64.bits : Nat) : Int) from h0)]
 rfl
theorem AfZ {kb : IntKind} {a b : Int} (c : Int) (hc : (2 : Int) ^ b.toNat = c) (h0 : 0 ≤ b ∧ b ≤ 64) (h1 : -9223372036854775808 ≤ a * c) (h2 : a * c ≤ 9223372036854775807) (h : Gd G (K (.sc (.int .i64 (a * c))))) : Gd G (Cs .shl (.sc (.int .i64 a)) (.sc (.int kb b)) fun t => K t) := by
 refine Ei ?_ h
 subst hc
 show (shI .shl .i64 a b).bind _ = _
 unfold shI
 rw [if_pos (show 0 ≤ b ∧ b ≤ ((IntKind.i64.bits : Nat) : Int) from h0)]
 show K (.sc (.int .i64 (IntKind.i64.wrap (a * 2 ^ b.toNat)))) = _
 rw [H9 _ h1 h2]
theorem Gq {a b c : Int} (hc : bits .and .i64 a b = c) (h : Gd G (K (.sc (.int .i64 c)))) : Gd G (Cs .and (.sc (.int .i64 a)) (.sc (.int .i64 b)) fun t => K t) := by
 subst hc
 exact h
theorem AkP {a b c : Int} (hc : bits .or .i64 a b = c) (h : Gd G (K (.sc (.int .i64 c)))) : Gd G (Cs .or (.sc (.int .i64 a)) (.sc (.int .i64 b)) fun t => K t) := by
 subst hc
 exact h
theorem O1 {a b : Int} (h0 : 0 ≤ a) (h1 : a ≤ 9223372036854775807) (hb : 0 < b) (h : Gd G (K (.sc (.int .i64 (a / b))))) : Gd G (Cs .quo (.sc (.int .i64 a)) (.sc (.int .i64 b)) fun t => K t) := by
 refine Ei ?_ h
 have e : Aep .quo .i64 a b = some (.int .i64 (a / b)) := by
  show (if b = 0 then none else some (Value.int .i64 (IntKind.i64.wrap (a.tdiv b)))) = _
  rw [if_neg (by omega), Int.tdiv_eq_ediv_of_nonneg h0]
  have h2 := Int.ediv_nonneg h0 (Int.le_of_lt hb)
  have h3 := Int.ediv_le_self b h0
  rw [H9 _ (by omega) (by omega)]
 show (Aep .quo .i64 a b).bind _ = _
 rw [e]
 rfl
theorem Kt {a : Int} (h0 : 0 ≤ a) (h1 : a < 256) (h : Gd G (K (.sc (.int .i64 a)))) : Gd G (W8 .i64 (.sc (.int .u8 a)) fun t => K t) := Fy (H9 _ (by omega) (by omega)) h
theorem Yx {m : Nat} {cells r : List AV} {i : Int} (h0 : 0 ≤ i ∧ i < (m : Nat)) (h1 : i.toNat * 1 < cells.length) (hr : cells.drop (i.toNat * 1) = r) (h : Gd G (K (.rp r))) : Gd G (D7 1 (.ro m cells) (.sc (.int .i64 i)) fun t => K t) := by
 refine Ei ?_ h
 subst hr
 show (if 0 ≤ i ∧ i < (m : Nat) then (if i.toNat * 1 < cells.length then K (.rp (cells.drop (i.toNat * 1))) else none) else none) = _
 rw [if_pos h0, if_pos h1]
theorem Ny {α : Sort _} {γ : Type} {G : Option γ → Prop} {x : α} {f : α → Option γ} (P : α → Prop) (hx : P x) (h : ∀ j, P j → Gd G (f j)) : Gd G (E8 x f) := h x hx
theorem O0 {ty : Nat} {f : FuncId} {args : List AV} (hh : E0.hm f = true) (he : E0.ext f = none) (h : Gd G (Ej E0 n β f args H fun x H => KH x H)) : Gd G ((PR n β).call ty (.fn f [] []) args H fun x H => KH x H) := J6 hh he (by rw [zan]; exact h)
theorem AcH (s : ByteArray) {a b : Nat} (hab : a ≤ b) (hb : b ≤ s.size) : Ag (s.extract a b) = .ro (b - a) (((Bl s).drop a).take (b - a)) := by
 have e1 : (s.extract a b).size = b - a := by rw [zat]; omega
 show AV.ro (s.extract a b).size (Bl (s.extract a b)) = _
 rw [e1]
 congr 1
 unfold Bl
 rw [ByteArray.data_extract, Array.toList_extract, List.extract_eq_take_drop, List.map_take, List.map_drop]
theorem Gs {s : ByteArray} {lo hi : Option AV} (a b : Int) (hlo : Oc lo 0 = some a) (hhi : Oc hi (s.size : Nat) = some b) (h0 : 0 ≤ a) (hab : a ≤ b) (hb : b ≤ (s.size : Nat)) (h : Gd G (K (Ag (s.extract a.toNat b.toNat)))) : Gd G (S1 1 (Ag s) lo hi fun t => K t) := by
 refine Ei ?_ h
 rw [AcH s (by omega) (by omega)]
 have e : (b - a).toNat = b.toNat - a.toNat := by omega
 have hl : Ju (Ag s) = some s.size := rfl
 unfold S1
 rw [hl, zac, hlo, zac, hhi, zac, if_pos ⟨h0, hab, hb⟩]
 show K (.ro (b - a).toNat (((Bl s).drop (a.toNat * 1)).take ((b - a).toNat * 1))) = _
 rw [zbx, zbx, e]
theorem Th : ∀ (l : List UInt8), (l.map fun b => AV.sc (.int .u8 b.toNat)).mapM Kn = some l
 | [] => rfl
 | b :: l => by
  have e : Kn (su b.toNat) = some b := by
   show some (UInt8.ofNat ((b.toNat : Nat) : Int).toNat) = _
   rw [zbq, UInt8.ofNat_toNat]
  rw [zaq, zaG, e, Th l]
  rfl
theorem W4 (s : ByteArray) : Ec H 1 (Ag s) = some (Bl s) := by
 show (if (Bl s).length = s.size * 1 then some (Bl s) else none) = _
 rw [if_pos (by rw [Fa]; omega)]
theorem Aa3 {x : AV} {ty : Nat} {s : ByteArray} (hs : Sep H L) (hty : ∃ i j, Au ty = some i ∧ Au i.elem = some j ∧ j.size = 1 ∧ j.cty = [5]) (hp : Pk L (.own x ty (Ag s)) L1) : Ec H 1 x = some (Bl s) ∧ Ju x = some s.size := by
 obtain ⟨I, hI, hn⟩ := hs
 obtain ⟨raw, J, R, X, q1, q2, q3, q4, q5, q6, q7⟩ := AaD (cb := Bl s) hty hp (Kl s) I hI
 have := (V8 q5 (Kl s)).1
 subst this
 exact ⟨q2, q1⟩
theorem Ahl (s : ByteArray) : (⟨s.data.toList.toArray⟩ : ByteArray) = s := by
 cases s
 rfl
theorem Mo {x : AV} {ty : Nat} {s : ByteArray} (hs : Sep H L) (hty : ∃ i j, Au ty = some i ∧ Au i.elem = some j ∧ j.size = 1 ∧ j.cty = [5]) (hp : Pk L (.own x ty (Ag s)) L1) (h : Gd G (K (.sc (.string s)))) : Gd G (Ph x H fun t => K t) := by
 refine Ei ?_ h
 have e : (Bl s).mapM Kn = some s.data.toList := Th _
 unfold Ph
 rw [(Aa3 hs hty hp).1, zac, e, zac, Ahl]
theorem AkO {s : ByteArray} (hs : Sep H L) (hb : s.size ≤ 140737488355328) (h : ∀ i H', Sep H' (.blk i (Bl s) false :: L) → Gd G (KH (.sl i 0 s.size 1) H')) : Gd G (X2 (.sc (.string s)) H fun x H => KH x H) := by
 refine Ei (b := Hm s.size 1 (Bl s) false H fun x H => KH x H) ?_ (Co hs h)
 show (if s.size ≤ 140737488355328 then _ else _) = _
 rw [if_pos hb]
theorem AgR {d : Nat} : ∀ {l : List AV}, l.all Ol = true → VwL L (d + 1) l l
 | [], _ => .nil
 | x :: l, h => by
  rw [zap, zag] at h
  cases x with
  | sc v => exact .cons .sc (AgR h.2)
  | _ => simp [Ol] at h
theorem vwB {d : Nat} {s : ByteArray} : VwL L (d + 1) (Bl s) (Bl s) := AgR (Kl s)
theorem AlU {s : ByteArray} : (Bl s).length = s.size * 1 := by rw [Fa, zbx]
theorem AcG (s t : ByteArray) : Ag (s ++ t) = .ro (s.size + t.size) (Bl s ++ Bl t) := by
 show AV.ro (s ++ t).size (Bl (s ++ t)) = _
 rw [zak]
 congr 1
 unfold Bl
 rw [zbw, Array.toList_append, za4]
theorem Rf {ty : Nat} {x y : AV} {s t : ByteArray} (hs : Sep H L) (hty : ∃ i j, Au ty = some i ∧ Au i.elem = some j ∧ j.size = 1 ∧ j.cty = [5]) (hx : Pk L (.own x ty (Ag s)) L1) (hy : Src H L1 1 [5] y t.size (Bl t) L2) (hb : s.size + t.size ≤ 140737488355328)
  (h : ∀ x' H', Bn x' = true → Sep H' (.own x' ty (Ag (s ++ t)) :: L2) → Gd G (KH x' H')) : Gd G (L7 1 1 x y H fun x H => KH x H) := by
 rw [AcG] at h
 exact Aal hs hty hx hy (Rv (by rw [Acv (w := 1) rfl, Fa, zbx]) (Kl t)) (by omega) h
theorem Ui {s : ByteArray} : Src H L 1 [5] (Ag s) s.size (Bl s) L := AgH rfl AlU (Kl s)
theorem Ain {ty : Nat} {x : AV} {s t : ByteArray} (hs : Sep H L) (hty : ∃ i j, Au ty = some i ∧ Au i.elem = some j ∧ j.size = 1 ∧ j.cty = [5]) (hx : Pk L (.own x ty (Ag s)) L1) (hb : s.size + t.size ≤ 140737488355328)
  (h : ∀ x' H', Bn x' = true → Sep H' (.own x' ty (Ag (s ++ t)) :: L1) → Gd G (KH x' H')) : Gd G (X1 1 x (ss t) H fun x H => KH x H) := by
 refine Ei (b := L7 1 1 x (Ag t) H fun x H => KH x H) ?_ (Rf hs hty hx Ui hb h)
 have e1 : Ju (Ag t) = some t.size := rfl
 have e2 : asS (ss t) = some t := rfl
 unfold X1 L7
 rw [e1, e2, W4]
 simp only [zac, Yk, if_true]
theorem Ub {ty : Nat} {x : AV} {s : ByteArray} {i : Nat} {z w : Int} {a : Bool} (hs : Sep H L) (hx : Pk L (.own x ty (Ag s)) L1) (hp : Pk L1 (.blk i [.sc (.int .u8 z), .sc (.int .u8 w)] a) L2) (hty : ∃ i j, Au ty = some i ∧ Au i.elem = some j ∧ j.size = 1 ∧ j.cty = [5]) (hb : (0 ≤ z ∧ z < 256) ∧ (0 ≤ w ∧ w < 256) ∧ s.size + 2 ≤ 140737488355328)
  (h : ∀ x' H', Bn x' = true → Sep H' (.own x' ty (Ag (A9 (A9 s z) w)) :: L2) → Gd G (KH x' H')) : Gd G (L7 1 1 x (.sl i 0 2 1) H fun x H => KH x H) := by
 have e1 : (zaj 2 [5]).flatten = [5, 5] := rfl
 have e3 : Bl (A9 s z) = Bl s ++ [su z] := by
  have := H3 s z hb.1.1 hb.1.2
  exact (AV.ro.inj this).2
 rw [H3 _ w hb.2.1.1 hb.2.1.2, Ay, e3, zaf] at h
 exact Aal (m := 2) (cb := [.sc (.int .u8 z), .sc (.int .u8 w)]) hs hty hx (Zf hp rfl rfl (by rw [e1]; exact .sc (.sc .nil)) (by rw [e1]; exact ⟨trivial, trivial, trivial⟩)) (by rw [e1]; exact ⟨trivial, trivial, trivial⟩) (by omega) fun x' H' lx hs' => h x' H' lx hs'
theorem Sep.closeB2 {i : Nat} {z w : Int} (hs : Sep H L) (hp : Pk L (.blk i [.sc (.int .u8 z), .sc (.int .u8 w)] true) L1) (hz : (0 ≤ z ∧ z < 256) ∧ 0 ≤ w ∧ w < 256) : Sep H (.own (.sl i 0 2 1) 22 (Ag (A9 (A9 ⟨#[]⟩ z) w)) :: L1) := by
 have e3 : Bl (A9 ⟨#[]⟩ z) = Bl ⟨#[]⟩ ++ [su z] := (AV.ro.inj (H3 ⟨#[]⟩ z hz.1.1 hz.1.2)).2
 rw [H3 _ w hz.2.1 hz.2.2, Ay, e3]
 exact Sep.closeR (pre := []) (post := []) (cells := [su z, su w]) (sz := 1) (m := 2) ⟨_, _, rfl, rfl, rfl, rfl⟩ (hs.pick hp) rfl rfl
end
theorem Ai8 {β : Type} {r : Option β} {m : Nat} {cells : List AV} {A K : Option β} (hA : A = r) (h : m ≤ 1048576 → K = r) : (Jo (.ro m cells) fun t => Cs .gtr t (.sc (.int .i64 1048576)) fun t' => Em t' A K) = r := by
 change Gd (· = r) _
 refine Cz (Er ?_)
 by_cases hm : (1048576 : Int) < m
 refine As (decide_eq_true hm) hA
 refine Ax (decide_eq_false hm) (h (by omega))
end
section
open Go
abbrev bs0 : ByteArray := ⟨#[]⟩
def Ao (b : ByteArray) (n : Int) : ByteArray := A9 (A9 b (n / 256 % 256 % 256)) (n % 256 % 256)
def C7 (b x : ByteArray) : ByteArray := if decide (60 < ((x.size : Nat) : Int)) then b else Ao b ((x.size : Nat) : Int) ++ x
def An (b s : ByteArray) : ByteArray := if Bi s then Ao b ((s.size : Nat) : Int) ++ s else b
def Kv : Nat → ByteArray → Int → ByteArray
  | 0, b, n => b
  | f + 1, b, n => if 127 < n then Kv f (A9 b ((n % 128 + 128) % 256)) (n / 128) else A9 b (n % 256)
def Dg (b : ByteArray) (n : Int) : ByteArray := if B3 n 0 268435455 then Kv 4 b n else b
def Bb (b : Bool) (n : Int) : Int := if b then n else 0
def Eb (p : PacketV) : Int := Bb p.fClean 2 + Bb p.fHasWill 4 + 8 * p.fWQos + Bb p.fWRetain 32 + Bb p.fHasPass 64 + Bb p.fHasUser 128
def C4 (p : PacketV) : Int :=
  if p.fType = 3 then 16 * p.fType + Bb p.fDup 8 + 2 * p.fQos + Bb p.fRetain 1
  else if p.fType = 6 ∨ p.fType = 8 ∨ p.fType = 10 then 16 * p.fType + 2
  else 16 * p.fType
def mqtt : ByteArray := ⟨#[77, 81, 84, 84]⟩
def Gy (p : PacketV) : ByteArray := An (Ao (A9 (A9 (An bs0 mqtt) (p.fLevel % 256)) (Eb p % 256)) p.fKeep) p.fClient
def E9 (p : PacketV) (b : ByteArray) : ByteArray := if p.fHasWill then C7 (An b p.fWTopic) p.fWBody else b
def D4 (p : PacketV) (b : ByteArray) : ByteArray := if p.fHasUser then An b p.fUser else b
def Dc (p : PacketV) (b : ByteArray) : ByteArray := if p.fHasPass then C7 b p.fPass else b
def Fc (p : PacketV) : ByteArray := Dc p (D4 p (E9 p (Gy p)))
def Bo (b : ByteArray) (l : List WantV) : ByteArray := l.foldl (fun b w => A9 (An b w.fFilter) (w.fQos % 256)) b
def Ds (b : ByteArray) (l : List Int) : ByteArray := l.foldl (fun b c => A9 b (c % 256)) b
def Fi (b : ByteArray) (l : List ByteArray) : ByteArray := l.foldl An b
def H8 (p : PacketV) (b : ByteArray) : ByteArray := Fi (Ds (Bo b p.fWants) p.fCodes) p.fNames
def G1 (p : PacketV) : ByteArray := (if 0 < p.fQos then Ao (An bs0 p.fTopic) p.fId else An bs0 p.fTopic) ++ p.fBody
def Db (p : PacketV) : ByteArray :=
  if p.fType = 1 then Fc p
  else if p.fType = 2 then A9 (A9 bs0 (Bb p.fPresent 1 % 256)) (p.fCode % 256)
  else if p.fType = 3 then G1 p
  else if p.fType = 12 ∨ p.fType = 13 ∨ p.fType = 14 then bs0
  else H8 p (Ao bs0 p.fId)
def Jq (p : PacketV) : ByteArray := Dg (A9 bs0 (C4 p % 256)) (((Db p).size : Nat) : Int) ++ Db p
def F7 (p : PacketV) : ByteArray := if Ah p then Jq p else bs0
theorem Aw (b : ByteArray) (n : Int) : (Ao b n).size = b.size + 2 := by simp only [Ao, Ay]
theorem Ig (b x : ByteArray) : (C7 b x).size ≤ b.size + 62 := by
  unfold C7
  split
  · omega
  · rename_i h
    rw [zak, Aw]
    simp only [decide_eq_true_eq] at h
    omega
theorem Fq {s : ByteArray} (h : Bi s = true) : s.size ≤ 60 := by
  unfold Bi at h
  rw [zag] at h
  exact of_decide_eq_true h.1
theorem Cv (b s : ByteArray) : (An b s).size ≤ b.size + 62 := by
  unfold An
  split
  · rename_i h
    have := Fq h
    rw [zak, Aw]
    omega
  · omega
theorem E1 : ∀ (l : List WantV) (b : ByteArray), (Bo b l).size ≤ b.size + 63 * l.length
  | [], b => zam _
  | w :: l, b => by
    have h1 := E1 l (A9 (An b w.fFilter) (w.fQos % 256))
    have h2 := Cv b w.fFilter
    rw [Ay] at h1
    simp only [zao]
    exact za5 h1 (by omega)
theorem Ez : ∀ (l : List Int) (b : ByteArray), (Ds b l).size ≤ b.size + l.length
  | [], b => zam _
  | c :: l, b => by
    have h1 := Ez l (A9 b (c % 256))
    rw [Ay] at h1
    simp only [zao]
    exact za5 h1 (by omega)
theorem Lk : ∀ (l : List ByteArray) (b : ByteArray), (Fi b l).size ≤ b.size + 62 * l.length
  | [], b => zam _
  | s :: l, b => by
    have h1 := Lk l (An b s)
    have h2 := Cv b s
    simp only [zao]
    exact za5 h1 (by omega)
theorem Aar : ∀ (f : Nat) (b : ByteArray) (n : Int), (Kv f b n).size ≤ b.size + f
  | 0, b, n => zam _
  | f + 1, b, n => by
    unfold Kv
    split
    · have := Aar f (A9 b ((n % 128 + 128) % 256)) (n / 128)
      rw [Ay] at this
      omega
    · rw [Ay]
      omega
theorem Wv (b : ByteArray) (n : Int) : (Dg b n).size ≤ b.size + 4 := by
  unfold Dg
  split
  · exact Aar 4 b n
  · omega
def Bq (B : ByteArray) (a : Int) : Int × Int × Bool := if a < 0 ∨ ((B.size : Nat) : Int) - 2 < a then (0, 0, false) else (A5 B a * 256 + A5 B (a + 1), a + 2, true)
def Bk (B : ByteArray) (a : Int) : ByteArray × Int × Bool :=
  if (Bq B a).2.2 = false ∨ 60 < (Bq B a).1 ∨ ((B.size : Nat) : Int) - (Bq B a).2.1 < (Bq B a).1 then (bs0, 0, false)
  else (B.extract (Bq B a).2.1.toNat ((Bq B a).2.1 + (Bq B a).1).toNat, (Bq B a).2.1 + (Bq B a).1, true)
def Cc (B : ByteArray) (a : Int) : ByteArray × Int × Bool := if (Bk B a).2.2 && Bi (Bk B a).1 then Bk B a else (bs0, 0, false)
theorem F5 {B : ByteArray} {a w x : Int} {o : Bool} (h : Bq B a = (w, x, o)) : 0 ≤ w ∧ w < 65536 ∧ 0 ≤ x ∧ x ≤ ((B.size : Nat) : Int) ∧ (o = true → x = a + 2 ∧ 0 ≤ a) := by
  unfold Bq at h
  have h1 := Ef B a
  have h2 := Ef B (a + 1)
  split at h <;> cases h <;> refine ⟨by omega, by omega, by omega, by omega, fun _ => ?_⟩
  · rename_i h; cases h
  · omega
theorem Fo {B v : ByteArray} {a x : Int} {o : Bool} (h : Bk B a = (v, x, o)) : v.size ≤ 60 ∧ 0 ≤ x ∧ x ≤ ((B.size : Nat) : Int) ∧ (o = true → a + 2 ≤ x ∧ 0 ≤ a) := by
  unfold Bk at h
  obtain ⟨w, y, q, e⟩ : ∃ w y q, Bq B a = (w, y, q) := ⟨_, _, _, rfl⟩
  have hb := F5 e
  rw [e] at h
  split at h
  · cases h
    exact ⟨by decide, by omega, by omega, fun h => by cases h⟩
  · rename_i hn
    simp only [not_or, Int.not_lt] at hn
    cases h
    have h5 := hb.2.2.2.2 (by simpa using hn.1)
    refine ⟨?_, by show 0 ≤ y + w; omega, by show y + w ≤ _; omega, fun _ => ⟨by show a + 2 ≤ y + w; omega, h5.2⟩⟩
    rw [zat]
    show min (y + w).toNat B.size - y.toNat ≤ 60
    omega
theorem Gv {B v : ByteArray} {a x : Int} {o : Bool} (h : Cc B a = (v, x, o)) : v.size ≤ 60 ∧ 0 ≤ x ∧ x ≤ ((B.size : Nat) : Int) ∧ (o = true → a + 2 ≤ x ∧ 0 ≤ a) := by
  unfold Cc at h
  split at h
  · exact Fo h
  · cases h
    exact ⟨by decide, by omega, by omega, fun h => by cases h⟩
abbrev Sc := Int × Bool
def Lc (B : ByteArray) (s : Sc) : Int × Sc := if s.2 || decide (((B.size : Nat) : Int) ≤ s.1) then (0, s.1, true) else (A5 B s.1, s.1 + 1, s.2)
def Hn (B : ByteArray) (s : Sc) : Int × Sc := if s.2 || !(Bq B s.1).2.2 then (0, s.1, true) else ((Bq B s.1).1, (Bq B s.1).2.1, s.2)
def Ey (B : ByteArray) (s : Sc) : ByteArray × Sc := if s.2 || !(Bk B s.1).2.2 then (bs0, s.1, true) else ((Bk B s.1).1, (Bk B s.1).2.1, s.2)
theorem P8 {B : ByteArray} {a b v : Int} {p q : Bool} (h : Lc B (a, p) = (v, b, q)) (h0 : 0 ≤ a) (h1 : a ≤ ((B.size : Nat) : Int)) : (0 ≤ v ∧ v < 256) ∧ 0 ≤ b ∧ b ≤ ((B.size : Nat) : Int) := by
  unfold Lc at h
  have := Ef B a
  split at h
  · cases h
    exact ⟨by omega, h0, h1⟩
  · rename_i hn
    simp only [zaN, not_or, decide_eq_true_eq, Int.not_le] at hn
    cases h
    exact ⟨this, by omega, by omega⟩
theorem Ta {B : ByteArray} {a b v : Int} {p q : Bool} (h : Hn B (a, p) = (v, b, q)) (h0 : 0 ≤ a) (h1 : a ≤ ((B.size : Nat) : Int)) : (0 ≤ v ∧ v < 65536) ∧ 0 ≤ b ∧ b ≤ ((B.size : Nat) : Int) := by
  unfold Hn at h
  obtain ⟨w, y, o, e⟩ : ∃ w y o, Bq B a = (w, y, o) := ⟨_, _, _, rfl⟩
  have hb := F5 e
  rw [show (a, p).1 = a from rfl, e] at h
  split at h <;> cases h
  · omega
  · show (0 ≤ w ∧ w < 65536) ∧ 0 ≤ y ∧ y ≤ _
    omega
theorem Fl {B v : ByteArray} {a b : Int} {p q : Bool} (h : Ey B (a, p) = (v, b, q)) (h0 : 0 ≤ a) (h1 : a ≤ ((B.size : Nat) : Int)) : v.size ≤ 60 ∧ 0 ≤ b ∧ b ≤ ((B.size : Nat) : Int) := by
  unfold Ey at h
  obtain ⟨w, y, o, e⟩ : ∃ w y o, Bk B a = (w, y, o) := ⟨_, _, _, rfl⟩
  have hb := Fo e
  rw [show (a, p).1 = a from rfl, e] at h
  split at h <;> cases h
  · exact ⟨by decide, h0, h1⟩
  · exact ⟨hb.1, hb.2.1, hb.2.2.1⟩
def Eg (B : ByteArray) (a : Int) : Nat → Int → Int → Int × Int × Int
  | 0, _, _ => (0, 0, 2)
  | f + 1, i, n =>
    if ((B.size : Nat) : Int) ≤ a + i then (0, 0, 1)
    else if A5 B (a + i) < 128 then (if 0 < i ∧ A5 B (a + i) = 0 then (0, 0, 2) else (bits .or .i64 n (bits .and .i64 (A5 B (a + i)) 127 * 2 ^ (7 * i).toNat), a + i + 1, 0))
    else Eg B a f (i + 1) (bits .or .i64 n (bits .and .i64 (A5 B (a + i)) 127 * 2 ^ (7 * i).toNat))
def C9 (B : ByteArray) (a : Int) : Int × Int × Int := if a < 0 ∨ ((B.size : Nat) : Int) < a then (0, 0, 2) else Eg B a 4 0 0
def Gp (f m : Int) : Bool := !decide (bits .and .i64 f m = 0)
def Fm (B : ByteArray) : PacketV :=
  let r0 := Ey B (0, false)
  let r1 := Lc B r0.2
  let r2 := Lc B r1.2
  let r3 := Hn B r2.2
  let r4 := Ey B r3.2
  let q5 := if Gp r2.1 4 then Ey B r4.2 else (bs0, r4.2)
  let q6 := if Gp r2.1 4 then Ey B q5.2 else (bs0, q5.2)
  let q7 := if Gp r2.1 128 then Ey B q6.2 else (bs0, q6.2)
  let q8 := if Gp r2.1 64 then Ey B q7.2 else (bs0, q7.2)
  { Ce 1 with fLevel := r1.1, fKeep := r3.1, fClient := r4.1, fClean := Gp r2.1 2, fHasWill := Gp r2.1 4, fHasPass := Gp r2.1 64, fHasUser := Gp r2.1 128, fWQos := if Gp r2.1 4 then bits .and .i64 (r2.1 / 8) 3 else 0, fWRetain := if Gp r2.1 4 then Gp r2.1 32 else false, fWTopic := q5.1, fWBody := q6.1, fUser := q7.1, fPass := q8.1 }
def Cj (t : Int) (B : ByteArray) : Nat → Sc → List WantV → List Int → List ByteArray → List WantV × List Int × List ByteArray
  | 0, _, ws, cs, ns => (ws, cs, ns)
  | f + 1, s, ws, cs, ns =>
    if (!s.2 && decide (s.1 < ((B.size : Nat) : Int))) && decide (((ws.length : Nat) : Int) + ((cs.length : Nat) : Int) + ((ns.length : Nat) : Int) ≤ 4) then
      (if t = 8 then Cj t B f (Lc B (Ey B s).2).2 (ws ++ [⟨(Ey B s).1, (Lc B (Ey B s).2).1⟩]) cs ns
      else if t = 9 then Cj t B f (Lc B s).2 ws (cs ++ [(Lc B s).1]) ns
      else if t = 10 then Cj t B f (Ey B s).2 ws cs (ns ++ [(Ey B s).1])
      else Cj t B f (s.1, true) ws cs ns)
    else (ws, cs, ns)
def Dt (first : Int) (B : ByteArray) : PacketV :=
  let t := first / 16
  if t = 1 then Fm B
  else if t = 2 then { Ce t with fPresent := decide ((Lc B (0, false)).1 = 1), fCode := (Lc B (Lc B (0, false)).2).1 }
  else if t = 3 then
    (let r := Ey B (0, false)
     let w := if 0 < bits .and .i64 (first / 2) 3 then Hn B r.2 else (0, r.2)
     { Ce t with fDup := Gp first 8, fQos := bits .and .i64 (first / 2) 3, fRetain := Gp first 1, fTopic := r.1, fId := w.1, fBody := if w.2.2 then bs0 else B.extract w.2.1.toNat B.size })
  else if t = 12 ∨ t = 13 ∨ t = 14 then Ce t
  else { Ce t with fId := (Hn B (0, false)).1, fWants := (Cj t B 8 (Hn B (0, false)).2 [] [] []).1, fCodes := (Cj t B 8 (Hn B (0, false)).2 [] [] []).2.1, fNames := (Cj t B 8 (Hn B (0, false)).2 [] [] []).2.2 }
def Ea (first : Int) : Bool :=
  if first / 16 = 3 then (!decide (bits .and .i64 (first % 16 / 2) 3 = 3) && (decide (0 < bits .and .i64 (first % 16 / 2) 3) || decide (bits .and .i64 (first % 16) 8 = 0)))
  else if first / 16 = 6 ∨ first / 16 = 8 ∨ first / 16 = 10 then decide (first % 16 = 2)
  else B3 (first / 16) 1 14 && decide (first % 16 = 0)
def Fj (first : Int) : Bool :=
  if first / 16 = 0 ∨ first / 16 = 15 then false
  else if first / 16 = 3 then (decide (first % 16 / 2 % 4 < 3) && (decide (0 < first % 16 / 2 % 4) || decide (first % 16 < 8)))
  else if first / 16 = 6 ∨ first / 16 = 8 ∨ first / 16 = 10 then decide (first % 16 = 2)
  else decide (first % 16 = 0)
theorem AdO : ∀ X : Fin 256, Fj ((X.val : Nat) : Int) = Ea ((X.val : Nat) : Int) := by decide +kernel
theorem AfT {f : Int} (h0 : 0 ≤ f) (h1 : f < 256) : Fj f = Ea f := by
  obtain ⟨k, rfl⟩ := zbo h0
  exact AdO ⟨k, by omega⟩
theorem Wi {x i : Int} (hx : 0 ≤ x ∧ x ≤ 127) (hi : 0 ≤ i ∧ i ≤ 3) : 0 ≤ x * 2 ^ (7 * i).toNat ∧ x * 2 ^ (7 * i).toNat ≤ 268435456 := by
  have : i = 0 ∨ i = 1 ∨ i = 2 ∨ i = 3 := by omega
  rcases this with rfl | rfl | rfl | rfl <;> simp <;> omega
theorem Aat (B : ByteArray) (a : Int) (ha : 0 ≤ a) : ∀ (f : Nat) (i z : Int), 0 ≤ i → i + f = 4 → (0 ≤ z ∧ z < 9223372036854775808) → (Eg B a f i z).2.2 = 0 → (0 ≤ (Eg B a f i z).1 ∧ (Eg B a f i z).1 < 9223372036854775808) ∧ a ≤ (Eg B a f i z).2.1 ∧ (Eg B a f i z).2.1 ≤ ((B.size : Nat) : Int)
  | 0, i, z, _, _, _, h => by simp [Eg] at h
  | f + 1, i, z, h0, h1, hz, h => by
    rw [Eg] at h ⊢
    have hb := Ef B (a + i)
    have hs := Wi (x := bits .and .i64 (A5 B (a + i)) 127) (i := i) (by rw [Oq hb.1 hb.2]; omega) (by omega)
    have ho := AdZ (x := z) (y := bits .and .i64 (A5 B (a + i)) 127 * 2 ^ (7 * i).toNat) hz.1 hz.2 hs.1 (by omega)
    split at h
    · simp at h
    rename_i h2
    rw [if_neg h2]
    split at h
    · rename_i h3
      rw [if_pos h3]
      split at h
      · simp at h
      rename_i h4
      rw [if_neg h4]
      exact ⟨ho, by show a ≤ a + i + 1; omega, by show a + i + 1 ≤ _; omega⟩
    · rename_i h3
      rw [if_neg h3]
      exact Aat B a ha f (i + 1) _ (by omega) (by omega) ho h
theorem Qy {B : ByteArray} {a : Int} (h : (C9 B a).2.2 = 0) : (0 ≤ (C9 B a).1 ∧ (C9 B a).1 < 9223372036854775808) ∧ a ≤ (C9 B a).2.1 ∧ (C9 B a).2.1 ≤ ((B.size : Nat) : Int) := by
  unfold C9 at h ⊢
  split at h
  · simp at h
  rename_i h2
  rw [if_neg h2]
  exact Aat B a (by omega) 4 0 0 (by omega) (by omega) (by omega) h
def Hp (p : PacketV) (q5 q6 q7 q8 : ByteArray × Int × Bool) : PacketV :=
  if !q5.2.2 || !q6.2.2 then Ce 0 else if !q7.2.2 then Ce 0 else if !q8.2.2 then Ce 0 else { p with fWTopic := q5.1, fWBody := q6.1, fUser := q7.1, fPass := q8.1 }
def Ep (c : Bool) (x : Int → ByteArray × Int × Bool) (a : Int) : ByteArray × Int × Bool := if c then x a else (bs0, a, true)
def Hq (B : ByteArray) (f : Int) (p : PacketV) (a : Int) : PacketV :=
  Hp p (Ep (decide (0 < bits .and .i64 f 4)) (Cc B) a)
    (Ep (decide (0 < bits .and .i64 f 4)) (Bk B) (Ep (decide (0 < bits .and .i64 f 4)) (Cc B) a).2.1)
    (Ep (decide (0 < bits .and .i64 f 128)) (Cc B) (Ep (decide (0 < bits .and .i64 f 4)) (Bk B) (Ep (decide (0 < bits .and .i64 f 4)) (Cc B) a).2.1).2.1)
    (Ep (decide (0 < bits .and .i64 f 64)) (Bk B) (Ep (decide (0 < bits .and .i64 f 128)) (Cc B) (Ep (decide (0 < bits .and .i64 f 4)) (Bk B) (Ep (decide (0 < bits .and .i64 f 4)) (Cc B) a).2.1).2.1).2.1)
def F9 (B : ByteArray) (f l k : Int) (c : ByteArray) : PacketV := { Ce 1 with fLevel := l, fClean := decide (0 < bits .and .i64 f 2), fHasWill := decide (0 < bits .and .i64 f 4), fWQos := bits .and .i64 (f / 8) 3, fWRetain := decide (0 < bits .and .i64 f 32), fHasPass := decide (0 < bits .and .i64 f 64), fHasUser := decide (0 < bits .and .i64 f 128), fKeep := k, fClient := c }
def Hr (B : ByteArray) (a : Int) (r3 : Int × Int × Bool) (r4 : ByteArray × Int × Bool) : PacketV :=
  if !r3.2.2 || !r4.2.2 then Ce 0 else Hq B (A5 B (a + 1)) (F9 B (A5 B (a + 1)) (A5 B a) r3.1 r4.1) r4.2.1
def Hx (B : ByteArray) (r0 : ByteArray × Int × Bool) : PacketV :=
  if !r0.2.2 || (!(r0.1.toList == mqtt.toList) || decide (((B.size : Nat) : Int) - 2 < r0.2.1)) then Ce 0 else Hr B r0.2.1 (Bq B (r0.2.1 + 2)) (Cc B (Bq B (r0.2.1 + 2)).2.1)
def A0 (B : ByteArray) : PacketV := Hx B (Cc B 0)
def Ld (first : Int) : Int := bits .and .i64 (first / 2) 3
def Ge (B : ByteArray) : Nat → Int → List Int → List Int
  | 0, _, cs => cs
  | f + 1, a, cs => if a < ((B.size : Nat) : Int) then Ge B f (a + 1) (cs ++ [A5 B a]) else cs
def C8 (t : Int) (B : ByteArray) : Nat → Int → List WantV → List ByteArray → Option (List WantV × List ByteArray)
  | 0, _, ws, ns => some (ws, ns)
  | f + 1, a, ws, ns =>
    if decide (a < ((B.size : Nat) : Int)) && (decide (t = 8) || decide (t = 10)) then
      (if (Cc B a).2.2 then
        (if t = 10 then C8 t B f (Cc B a).2.1 ws (ns ++ [(Cc B a).1])
        else if (Cc B a).2.1 = ((B.size : Nat) : Int) then none
        else C8 t B f ((Cc B a).2.1 + 1) (ws ++ [⟨(Cc B a).1, A5 B (Cc B a).2.1⟩]) ns)
      else none)
    else some (ws, ns)
def L5 (t id : Int) (cs : List Int) : Option (List WantV × List ByteArray) → PacketV
  | none => Ce 0
  | some r => { Ce t with fId := id, fCodes := cs, fWants := r.1, fNames := r.2 }
def Hy (first : Int) (B : ByteArray) (c : ByteArray) (w : Int × Int × Bool) : PacketV :=
  if !w.2.2 then Ce 0 else { Ce (first / 16) with fDup := decide (0 < bits .and .i64 first 8), fQos := Ld first, fRetain := decide (0 < bits .and .i64 first 1), fTopic := c, fId := w.1, fBody := B.extract w.2.1.toNat B.size }
def Fv (t : Int) (B : ByteArray) (w : Int × Int × Bool) : PacketV :=
  if !w.2.2 then Ce 0 else L5 t w.1 (if t = 9 then Ge B (B.size + 1) w.2.1 [] else []) (C8 t B (B.size + 1) w.2.1 [] [])
def Dr (first : Int) (B : ByteArray) : PacketV :=
  if first / 16 = 1 then A0 B
  else if first / 16 = 2 ∧ ((B.size : Nat) : Int) = 2 then { Ce (first / 16) with fPresent := A5 B 0 == 1, fCode := A5 B 1 }
  else if first / 16 = 3 then (if !(Cc B 0).2.2 then Ce 0 else Hy first B (Cc B 0).1 (if 0 < Ld first then Bq B (Cc B 0).2.1 else (0, (Cc B 0).2.1, true)))
  else Fv (first / 16) B (if first / 16 < 12 then Bq B 0 else (0, 0, true))
end
section
open Go
theorem Qa {a b : ByteArray} (h : (a.toList == b.toList) = true) : a = b := eqB.1 h
theorem AbS {α : Type} {e : α → α → Bool} (he : ∀ x y, e x y = true → x = y) : ∀ (a b : List α), a.length = b.length → Jt e a b = true → a = b
 | [], [], _, _ => rfl
 | x :: a, y :: b, h, h2 => by
  rw [Jt] at h2
  split at h2
  case isFalse => cases h2
  rw [he x y (by assumption), AbS he a b (by simpa using h) h2]
 | [], _ :: _, h, _ => by simp at h
 | _ :: _, [], h, _ => by simp at h
theorem Sj {α : Type} {e : α → α → Bool} (he : ∀ x y, e x y = true → x = y) {a b : List α} (h : Hg e a b = true) : a = b := by
 unfold Hg at h
 split at h
 exact AbS he a b (by assumption) h
 cases h
theorem AiU {a b : PacketV} (h : Cp a b = true) : a = b := by
 unfold Cp L4 Ha at h
 simp only [zag] at h
 obtain ⟨⟨⟨k1, k2⟩, k3⟩, h⟩ := h
 obtain ⟨⟨⟨⟨⟨⟨⟨⟨⟨⟨⟨⟨⟨⟨⟨⟨⟨⟨⟨⟨⟨h1, h2⟩, h3⟩, h4⟩, h5⟩, h6⟩, h7⟩, h8⟩, h9⟩, h10⟩, h11⟩, h12⟩, h13⟩, h14⟩, h15⟩, h16⟩, h17⟩, h18⟩, h19⟩, h20⟩, h21⟩, h22⟩ := h
 have w1 := Sj (fun x y e => by
  unfold J5 at e
  rw [zag] at e
  cases x
  cases y
  simp only [WantV.mk.injEq]
  exact ⟨Qa e.1, by simpa using e.2⟩) k1
 have w2 := Sj (fun x y e => Qa e) k2
 have w3 := Sj (fun x y e => by simpa [eqI] using e) k3
 cases a
 cases b
 simp only [PacketV.mk.injEq]
 exact ⟨by simpa using h1, by simpa using h2, by simpa using h3, by simpa using h4, by simpa using h5, Qa h6, Qa h7, Qa h8, by simpa using h9, by simpa using h10, by simpa using h11, by simpa using h12, Qa h13, Qa h14, by simpa using h15, by simpa using h16, by simpa using h17, Qa h18, by simpa using h19, Qa h20, by simpa using h21, by simpa using h22, w1, w2, w3⟩
theorem G9 {p : PacketV} (h : Ah p = true) : (1 ≤ p.fType ∧ p.fType ≤ 14) ∧ p = Az false p ∧ Bx p = true := by
 unfold Ah at h
 simp only [zag] at h
 refine ⟨by simpa [B3] using h.1, AiU h.2.1, h.2.2⟩
structure PkF (p : PacketV) : Prop where
 ty : 1 ≤ p.fType ∧ p.fType ≤ 14
 q : 0 ≤ p.fQos ∧ p.fQos ≤ 2
 wq : 0 ≤ p.fWQos ∧ p.fWQos ≤ 2
 i : 0 ≤ p.fId ∧ p.fId ≤ 65535
theorem G4 {x a b : Int} : B3 x a b = true ↔ a ≤ x ∧ x ≤ b := by simp [B3]
theorem Lw {p : PacketV} (h : Ah p = true) : (p.fType ≠ 3 → p.fQos = 0) ∧ (p.fType ≠ 1 → p.fWQos = 0) ∧ (p.fHasWill = false → p.fWQos = 0) ∧ (p.fQos = 0 → p.fType = 3 → p.fId = 0) ∧ (p.fType = 1 ∨ p.fType = 2 ∨ 12 ≤ p.fType → p.fId = 0) ∧ (p.fType ≠ 8 → p.fWants = []) ∧ (p.fType ≠ 9 → p.fCodes = []) ∧ (p.fType ≠ 10 → p.fNames = []) := by
 obtain ⟨ht, hn, hk⟩ := G9 h
 have q1 := congrArg PacketV.fQos hn
 have q2 := congrArg PacketV.fWQos hn
 have q3 := congrArg PacketV.fId hn
 have q4 := congrArg PacketV.fWants hn
 have q5 := congrArg PacketV.fCodes hn
 have q6 := congrArg PacketV.fNames hn
 clear hn hk h
 unfold Az D2 D3 at q1 q2 q3 q4 q5 q6
 refine ⟨fun e => ?_, fun e => ?_, fun e => ?_, fun e e2 => ?_, fun e => ?_, fun e => ?_, fun e => ?_, fun e => ?_⟩
 ·rw [q1]; (repeat' split) <;> (rfl)
 ·rw [q2]; (repeat' split) <;> first | rfl | (exfalso; omega)
 ·rw [q2, e]; (repeat' split) <;> first | rfl | contradiction
 ·rw [q3]; (repeat' split) <;> first | rfl | (exfalso; omega)
 ·rw [q3]; (repeat' split) <;> first | rfl | (exfalso; omega)
 ·rw [q4]; (repeat' split) <;> (rfl)
 ·rw [q5]; (repeat' split) <;> (rfl)
 ·rw [q6]; (repeat' split) <;> (rfl)
theorem I9 {p : PacketV} (h : Ah p = true) : PkF p := by
 obtain ⟨ht, hn, hk⟩ := G9 h
 obtain ⟨k1, k2, k3, k4, k5, _⟩ := Lw h
 unfold Bx at hk
 refine ⟨ht, ?_, ?_, ?_⟩
 by_cases h3 : p.fType = 3
 rw [if_neg (by omega), if_neg (by omega), if_pos h3] at hk
 simp only [zag, G4] at hk
 exact hk.1
 rw [k1 h3]
 decide
 by_cases h1 : p.fType = 1
 rw [if_pos h1] at hk
 unfold Ca at hk
 cases hw : p.fHasWill
 rw [k3 hw]
 decide
 simp only [hw, zag, G4, zaw, zaB] at hk
 exact hk.2.2.2.1.2.2
 rw [k2 h1]
 decide
 by_cases h5 : p.fType = 1 ∨ p.fType = 2 ∨ 12 ≤ p.fType
 rw [k5 h5]
 decide
 by_cases h3 : p.fType = 3
 by_cases hq : p.fQos = 0
 rw [k4 hq h3]
 decide
 rw [if_neg (by omega), if_neg (by omega), if_pos h3] at hk
 simp only [zag, G4, zaN, decide_eq_true_eq] at hk
 omega
 rw [if_neg (by omega), if_neg (by omega), if_neg h3] at hk
 by_cases h4 : p.fType = 4 ∨ p.fType = 5 ∨ p.fType = 6 ∨ p.fType = 7 ∨ p.fType = 11
 rw [if_pos h4, G4] at hk
 omega
 rw [if_neg h4, if_pos (by omega)] at hk
 simp only [zag, G4] at hk
 omega
end
section
open Go
theorem Oa (B : ByteArray) (a : Int) : (Bk B a).1.size ≤ 60 := by
 obtain ⟨v, x, o, e⟩ : ∃ v x o, Bk B a = (v, x, o) := ⟨_, _, _, rfl⟩
 rw [e]
 exact (Fo e).1
theorem T3 (B : ByteArray) (a : Int) : (Cc B a).1.size ≤ 60 := by
 unfold Cc
 split
 exact Oa B a
 decide
theorem Wu (B : ByteArray) (s : Sc) : (Ey B s).1.size ≤ 60 := by
 unfold Ey
 split
 exact zay _
 exact Oa B s.1
structure PkB (k : Nat) (p : PacketV) : Prop where
 t1 : p.fTopic.size ≤ 60
 t2 : p.fClient.size ≤ 60
 t3 : p.fWTopic.size ≤ 60
 t4 : p.fUser.size ≤ 60
 b1 : p.fWBody.size ≤ 60
 b2 : p.fPass.size ≤ 60
 b3 : p.fBody.size ≤ k
 l1 : p.fWants.length ≤ k
 l2 : p.fNames.length ≤ k
 l3 : p.fCodes.length ≤ k
 w1 : ∀ y ∈ p.fWants, y.fFilter.size ≤ 60
 w2 : ∀ y ∈ p.fNames, y.size ≤ 60
theorem PkB.hyp {k : Nat} {p : PacketV} (h : PkB k p) (hk : k ≤ 1048576) : Hd p := by
 obtain ⟨t1, t2, t3, t4, b1, b2, b3, l1, l2, l3, w1, w2⟩ := h
 exact ⟨by omega, by omega, by omega, by omega, by omega, by omega, by omega, fun y hy => za5 (w1 y hy) (by decide), fun y hy => za5 (w2 y hy) (by decide)⟩
theorem Im (k : Nat) (t : Int) : PkB k (Ce t) := ⟨zay _, zay _, zay _, zay _, zay _, zay _, zay _, zay _, zay _, zay _, fun y hy => (nomatch hy), fun y hy => (nomatch hy)⟩
theorem Y0 {c : Prop} [Decidable c] {x y : ByteArray × Sc} (hx : x.1.size ≤ 60) (hy : y.1.size ≤ 60) : (if c then x else y).1.size ≤ 60 := by
 split
 exact hx
 exact hy
theorem M9 (t : Int) (B : ByteArray) : ∀ (f : Nat) (s : Sc) (ws : List WantV) (cs : List Int) (ns : List ByteArray), ws.length + cs.length + ns.length ≤ 5 → (∀ y ∈ ws, y.fFilter.size ≤ 60) → (∀ y ∈ ns, y.size ≤ 60) → ((Cj t B f s ws cs ns).1.length ≤ 5 ∧ (Cj t B f s ws cs ns).2.1.length ≤ 5 ∧ (Cj t B f s ws cs ns).2.2.length ≤ 5) ∧ (∀ y ∈ (Cj t B f s ws cs ns).1, y.fFilter.size ≤ 60) ∧ ∀ y ∈ (Cj t B f s ws cs ns).2.2, y.size ≤ 60
 | 0, s, ws, cs, ns, hl, h1, h2 => ⟨⟨by show ws.length ≤ 5; omega, by show cs.length ≤ 5; omega, by show ns.length ≤ 5; omega⟩, h1, h2⟩
 | f + 1, s, ws, cs, ns, hl, h1, h2 => by
  rw [Cj]
  split
  rename_i hc
  simp only [zag, decide_eq_true_eq] at hc
  have hb := Wu B s
  split
  refine M9 t B f _ _ _ _ (by simp only [zae, zas]; omega) (fun y hy => ?_) h2
  rcases zaR.1 hy with hy | hy
  exact h1 y hy
  rw [zbl.1 hy]
  exact hb
  split
  exact M9 t B f _ _ _ _ (by simp only [zae, zas]; omega) h1 h2
  split
  refine M9 t B f _ _ _ _ (by simp only [zae, zas]; omega) h1 (fun y hy => ?_)
  rcases zaR.1 hy with hy | hy
  exact h2 y hy
  rw [zbl.1 hy]
  exact hb
  exact M9 t B f _ _ _ _ hl h1 h2
  exact ⟨⟨by show ws.length ≤ 5; omega, by show cs.length ≤ 5; omega, by show ns.length ≤ 5; omega⟩, h1, h2⟩
theorem Ag8 (first : Int) (B : ByteArray) {k : Nat} (hk : B.size ≤ k) : PkB (k + 5) (Dt first B) := by
 have h0 : (0 : Nat) ≤ 60 := zay _
 have hb := Wu B
 unfold Dt
 dsimp only
 split
 unfold Fm
 dsimp only
 exact ⟨h0, hb _, Y0 (hb _) h0, Y0 (hb _) h0, Y0 (hb _) h0, Y0 (hb _) h0, zay _, zay _, zay _, zay _, fun y hy => (nomatch hy), fun y hy => (nomatch hy)⟩
 split
 exact ⟨h0, h0, h0, h0, h0, h0, zay _, zay _, zay _, zay _, fun y hy => (nomatch hy), fun y hy => (nomatch hy)⟩
 split
 have hB : ∀ (x : Bool) (i : Nat), (if x = true then bs0 else B.extract i B.size).size ≤ k + 5 := fun x i => by
  split
  exact zay _
  rw [zat]
  omega
 exact ⟨hb _, h0, h0, h0, h0, h0, hB _ _, zay _, zay _, zay _, fun y hy => (nomatch hy), fun y hy => (nomatch hy)⟩
 split
 exact Im _ _
 have h := M9 (first / 16) B 8 (Hn B (0, false)).2 [] [] [] (by decide) (fun y hy => nomatch hy) (fun y hy => nomatch hy)
 exact ⟨h0, h0, h0, h0, h0, h0, zay _, by show (Cj _ _ _ _ _ _ _).1.length ≤ _; omega, by show (Cj _ _ _ _ _ _ _).2.2.length ≤ _; omega, by show (Cj _ _ _ _ _ _ _).2.1.length ≤ _; omega, h.2.1, h.2.2⟩
theorem X9 (B : ByteArray) : ∀ (f : Nat) (a : Int) (cs : List Int), (Ge B f a cs).length ≤ cs.length + f
 | 0, a, cs => zam _
 | f + 1, a, cs => by
  rw [Ge]
  split
  have := X9 B f (a + 1) (cs ++ [A5 B a])
  simp only [zae, zas] at this
  omega
  omega
theorem S2 (t : Int) (B : ByteArray) : ∀ (f : Nat) (a : Int) (ws : List WantV) (ns : List ByteArray) (r : List WantV × List ByteArray), (∀ y ∈ ws, y.fFilter.size ≤ 60) → (∀ y ∈ ns, y.size ≤ 60) → C8 t B f a ws ns = some r → (r.1.length + r.2.length ≤ ws.length + ns.length + f) ∧ (∀ y ∈ r.1, y.fFilter.size ≤ 60) ∧ ∀ y ∈ r.2, y.size ≤ 60
 | 0, a, ws, ns, r, h1, h2, h => by
  cases h
  exact ⟨zam _, h1, h2⟩
 | f + 1, a, ws, ns, r, h1, h2, h => by
  have hb := T3 B a
  rw [C8] at h
  split at h
  split at h
  split at h
  have := S2 t B f _ _ _ r h1 (fun y hy => by
   rcases zaR.1 hy with hy | hy
   exact h2 y hy
   rw [zbl.1 hy]
   exact hb) h
  simp only [zae, zas] at this
  exact ⟨by omega, this.2⟩
  split at h
  cases h
  have := S2 t B f _ _ _ r (fun y hy => by
   rcases zaR.1 hy with hy | hy
   exact h1 y hy
   rw [zbl.1 hy]
   exact hb) h2 h
  simp only [zae, zas] at this
  exact ⟨by omega, this.2⟩
  cases h
  cases h
  exact ⟨by show ws.length + ns.length ≤ _; omega, h1, h2⟩
theorem AkL (t id : Int) (cs : List Int) (k : Nat) (hc : cs.length ≤ k) (o : Option (List WantV × List ByteArray)) (ho : ∀ r, o = some r → (r.1.length + r.2.length ≤ k) ∧ (∀ y ∈ r.1, y.fFilter.size ≤ 60) ∧ ∀ y ∈ r.2, y.size ≤ 60) : PkB k (L5 t id cs o) := by
 have h0 : (0 : Nat) ≤ 60 := zay _
 cases o with
 | none => exact Im _ _
 | some r =>
  obtain ⟨h1, h2, h3⟩ := ho r rfl
  exact ⟨h0, h0, h0, h0, h0, h0, zay _, by show r.1.length ≤ k; omega, by show r.2.length ≤ k; omega, hc, h2, h3⟩
theorem Pq {c : Bool} {x : Int → ByteArray × Int × Bool} (hx : ∀ a, (x a).1.size ≤ 60) (a : Int) : (Ep c x a).1.size ≤ 60 := by
 unfold Ep
 split
 exact hx a
 exact zay _
theorem Ahj {k : Nat} {p : PacketV} {q5 q6 q7 q8 : ByteArray × Int × Bool} (h : PkB k p) (h5 : q5.1.size ≤ 60) (h6 : q6.1.size ≤ 60) (h7 : q7.1.size ≤ 60) (h8 : q8.1.size ≤ 60) : PkB k (Hp p q5 q6 q7 q8) := by
 unfold Hp
 split
 exact Im _ _
 split
 exact Im _ _
 split
 exact Im _ _
 exact ⟨h.t1, h.t2, h5, h7, h6, h8, h.b3, h.l1, h.l2, h.l3, h.w1, h.w2⟩
theorem Ahk (first : Int) (B c : ByteArray) (w : Int × Int × Bool) {k : Nat} (hc : c.size ≤ 60) (hk : B.size ≤ k) : PkB (k + 5) (Hy first B c w) := by
 have h0 : (0 : Nat) ≤ 60 := zay _
 unfold Hy
 split
 exact Im _ _
 refine ⟨hc, h0, h0, h0, h0, h0, ?_, zay _, zay _, zay _, fun y hy => (nomatch hy), fun y hy => (nomatch hy)⟩
 show (B.extract _ _).size ≤ _
 rw [zat]
 omega
theorem Aex (t : Int) (B : ByteArray) (w : Int × Int × Bool) {k : Nat} (hk : B.size ≤ k) : PkB (k + 5) (Fv t B w) := by
 unfold Fv
 split
 exact Im _ _
 refine AkL _ _ _ _ ?_ _ fun r hr => ?_
 split
 have := X9 B (B.size + 1) w.2.1 []
 simp only [zav] at this
 omega
 exact zay _
 have := S2 _ B (B.size + 1) _ [] [] r (fun y hy => nomatch hy) (fun y hy => nomatch hy) hr
 simp only [zav] at this
 exact ⟨by omega, this.2⟩
theorem AjJ (first : Int) (B : ByteArray) {k : Nat} (hk : B.size ≤ k) : PkB (k + 5) (Dr first B) := by
 have h0 : (0 : Nat) ≤ 60 := zay _
 have hb := T3 B
 have hb2 := Oa B
 unfold Dr
 split
 unfold A0 Hx Hr Hq
 split
 exact Im _ _
 split
 exact Im _ _
 exact Ahj ⟨h0, hb _, h0, h0, h0, h0, zay _, zay _, zay _, zay _, fun y hy => (nomatch hy), fun y hy => (nomatch hy)⟩ (Pq hb _) (Pq hb2 _) (Pq hb _) (Pq hb2 _)
 split
 exact ⟨h0, h0, h0, h0, h0, h0, zay _, zay _, zay _, zay _, fun y hy => (nomatch hy), fun y hy => (nomatch hy)⟩
 split
 split
 exact Im _ _
 exact Ahk _ _ _ _ (hb _) hk
 exact Aex _ _ _ hk
theorem AbM {α : Type} {w : α → Nat} {k : Nat} : ∀ (l : List α), (∀ z ∈ l, w z ≤ k) → wtL w l ≤ l.length * (k + 1)
 | [], _ => zay _
 | x :: l, h => by
  have h1 := h x (zax ..)
  have h2 := AbM l fun z hz => h z (zau _ hz)
  show 1 + w x + wtL w l ≤ (l.length + 1) * (k + 1)
  rw [zbH]
  omega
theorem PkB.wt {k : Nat} {p : PacketV} (h : PkB k p) (hk : k ≤ 400) : Ga p ≤ 60000 := by
 obtain ⟨t1, t2, t3, t4, b1, b2, b3, l1, l2, l3, w1, w2⟩ := h
 have e1 := AbM (w := Kd) (k := 60) p.fWants fun z hz => by
  have := w1 z hz
  unfold Kd
  omega
 have e2 := AbM (w := zbD) (k := 60) p.fNames w2
 unfold Ga
 omega
end
section
open Go
abbrev bl (B : ByteArray) : List UInt8 := B.data.toList
def u8 (z : Int) : UInt8 := UInt8.ofNat z.toNat
theorem Lb {z : Int} (h0 : 0 ≤ z) (h1 : z < 256) : (((u8 z).toNat : Nat) : Int) = z := by
 unfold u8
 rw [UInt8.toNat_ofNat']
 omega
theorem Ix (b : ByteArray) (z : Int) : bl (A9 b z) = bl b ++ [u8 z] := by
 unfold bl A9 u8
 rw [zbE, Array.toList_push]
theorem Yh (a b : ByteArray) : bl (a ++ b) = bl a ++ bl b := by
 unfold bl
 rw [zbw, Array.toList_append]
theorem J2 (B : ByteArray) : (bl B).length = B.size := by
 simp [bl]
theorem AaR {a b : ByteArray} (h : bl a = bl b) : a = b := ByteArray.ext (zbd h)
theorem Yi (B : ByteArray) (i j : Nat) : bl (B.extract i j) = ((bl B).drop i).take (j - i) := by
 unfold bl
 rw [ByteArray.data_extract, Array.toList_extract, List.extract_eq_take_drop]
def Pn (n : Int) : List UInt8 := [u8 (n / 256 % 256 % 256), u8 (n % 256 % 256)]
theorem Q4 (b : ByteArray) (n : Int) : bl (Ao b n) = bl b ++ Pn n := by
 unfold Ao Pn
 rw [Ix, Ix, zaf]
 rfl
def Ik (s : ByteArray) : List UInt8 := Pn ((s.size : Nat) : Int) ++ bl s
theorem Mb {s : ByteArray} (h : Bi s = true) (b : ByteArray) : bl (An b s) = bl b ++ Ik s := by
 unfold An Ik
 rw [if_pos h, Yh, Q4, zaf]
theorem Zv {s : ByteArray} (h : s.size ≤ 60) (b : ByteArray) : bl (C7 b s) = bl b ++ Ik s := by
 unfold C7 Ik
 rw [if_neg (by simp; omega), Yh, Q4, zaf]
def Sf (B : ByteArray) (a : Int) (l : List UInt8) : Prop := 0 ≤ a ∧ a ≤ ((B.size : Nat) : Int) ∧ (bl B).drop a.toNat = l
theorem Sf.len {B : ByteArray} {a : Int} {l : List UInt8} (h : Sf B a l) : a + l.length = ((B.size : Nat) : Int) := by
 obtain ⟨h0, h1, rfl⟩ := h
 rw [List.length_drop, J2]
 omega
theorem Sf.head {B : ByteArray} {a : Int} {x : UInt8} {l : List UInt8} (h : Sf B a (x :: l)) : A5 B a = ((x.toNat : Nat) : Int) ∧ a < ((B.size : Nat) : Int) ∧ Sf B (a + 1) l := by
 have hl := h.len
 obtain ⟨h0, h1, h2⟩ := h
 simp only [zao] at hl
 refine ⟨?_, by omega, by omega, by omega, ?_⟩
 have e : (bl B)[a.toNat]? = some x := by
  have := congrArg (fun l => l[0]?) h2
  simpa using this
 unfold A5
 rw [zbt, e]
 rfl
 rw [show (a + 1).toNat = a.toNat + 1 by omega, ← zbp, h2]
 rfl
theorem Sf.skip {B : ByteArray} {a : Int} {x l : List UInt8} (h : Sf B a (x ++ l)) : Sf B (a + x.length) l := by
 have hl := h.len
 obtain ⟨h0, h1, h2⟩ := h
 simp only [zae] at hl
 refine ⟨by omega, by omega, ?_⟩
 rw [show (a + (x.length : Int)).toNat = a.toNat + x.length by omega, ← zbp, h2, List.drop_left]
theorem Wg (B : ByteArray) {l : List UInt8} (h : bl B = l) : Sf B 0 l := ⟨by omega, by omega, by simpa using h⟩
theorem Sf.nil {B : ByteArray} {a : Int} (h : Sf B a []) : a = ((B.size : Nat) : Int) := by
 have := h.len
 simpa using this
theorem Qx {B : ByteArray} {a z : Int} {l : List UInt8} (h : Sf B a (u8 z :: l)) (h0 : 0 ≤ z) (h1 : z < 256) : Lc B (a, false) = (z, a + 1, false) ∧ Sf B (a + 1) l := by
 obtain ⟨e1, e2, e3⟩ := h.head
 refine ⟨?_, e3⟩
 unfold Lc
 rw [Lb h0 h1] at e1
 rw [if_neg (by simp; omega), e1]
theorem P4 {B : ByteArray} {a n : Int} {l : List UInt8} (h : Sf B a (Pn n ++ l)) (h0 : 0 ≤ n) (h1 : n < 65536) : Bq B a = (n, a + 2, true) ∧ Sf B (a + 2) l := by
 have h' : Sf B a (u8 (n / 256 % 256 % 256) :: u8 (n % 256 % 256) :: l) := h
 obtain ⟨e1, e2, e3⟩ := h'.head
 obtain ⟨f1, f2, f3⟩ := e3.head
 rw [Lb (by omega) (by omega)] at e1 f1
 refine ⟨?_, by rw [show a + 2 = a + 1 + 1 by omega]; exact f3⟩
 unfold Bq
 rw [if_neg (by have := h.1; omega), e1, f1]
 congr 1
 omega
theorem Km {B s : ByteArray} {a : Int} {l : List UInt8} (h : Sf B a (Ik s ++ l)) (hs : s.size ≤ 60) : Bk B a = (s, a + 2 + s.size, true) ∧ Sf B (a + 2 + s.size) l := by
 have h' : Sf B a (Pn ((s.size : Nat) : Int) ++ (bl s ++ l)) := by
  unfold Ik at h
  rwa [zaf] at h
 obtain ⟨e1, e2⟩ := P4 h' (by omega) (by omega)
 have e3 := e2.skip
 rw [J2] at e3
 refine ⟨?_, e3⟩
 have hl := e3.len
 have h0 := h.1
 unfold Bk
 rw [e1]
 show (if true = false ∨ 60 < ((s.size : Nat) : Int) ∨ ((B.size : Nat) : Int) - (a + 2) < ((s.size : Nat) : Int) then _ else _) = _
 rw [if_neg (by simp; omega)]
 congr 1
 apply AaR
 show bl (B.extract (a + 2).toNat (a + 2 + ((s.size : Nat) : Int)).toNat) = _
 rw [Yi, e2.2.2, show (a + 2 + ((s.size : Nat) : Int)).toNat - (a + 2).toNat = (bl s).length by rw [J2]; omega, List.take_left]
theorem N7 {B s : ByteArray} {a : Int} {l : List UInt8} (h : Sf B a (Ik s ++ l)) (hs : Bi s = true) : Cc B a = (s, a + 2 + s.size, true) ∧ Sf B (a + 2 + s.size) l := by
 obtain ⟨e1, e2⟩ := Km h (Fq hs)
 refine ⟨?_, e2⟩
 unfold Cc
 rw [e1]
 show (if true && Bi s then _ else _) = _
 rw [hs]
 rfl
theorem Wh {B : ByteArray} {a n : Int} {l : List UInt8} (h : Sf B a (Pn n ++ l)) (h0 : 0 ≤ n) (h1 : n < 65536) : Hn B (a, false) = (n, a + 2, false) := by
 unfold Hn
 rw [show (a, false).1 = a from rfl, (P4 h h0 h1).1]
 rfl
theorem Li {B s : ByteArray} {a : Int} {l : List UInt8} (h : Sf B a (Ik s ++ l)) (hs : s.size ≤ 60) : Ey B (a, false) = (s, a + 2 + s.size, false) := by
 unfold Ey
 rw [show (a, false).1 = a from rfl, (Km h hs).1]
 rfl
theorem Ac4 {B s : ByteArray} {a : Int} (h : Sf B a (bl s)) : B.extract a.toNat B.size = s := by
 apply AaR
 rw [Yi, h.2.2]
 have := h.len
 have := h.1
 rw [J2] at *
 rw [List.take_of_length_le (by rw [J2]; omega)]
theorem Wq {s : ByteArray} (h : Dl s = true) : Bi s = true := by
 unfold Dl at h
 simp only [zag] at h
 simp [h]
theorem Tk {s : ByteArray} (h : Cb s = true) : Bi s = true := by
 unfold Cb F4 at h
 simp only [zag] at h
 exact h.2.1
theorem Rd {p : PacketV} (h : Ah p = true) : (0 ≤ C4 p ∧ C4 p < 256) ∧ C4 p / 16 = p.fType := by
 obtain ⟨ht, hq, _, _⟩ := I9 h
 have h1 : ∀ b, 0 ≤ Bb b 8 ∧ Bb b 8 ≤ 8 := fun b => by cases b <;> decide
 have h2 : ∀ b, 0 ≤ Bb b 1 ∧ Bb b 1 ≤ 1 := fun b => by cases b <;> decide
 have a := h1 p.fDup
 have b := h2 p.fRetain
 unfold C4
 (repeat' split) <;> omega
theorem AdP : ∀ (c w r s u : Bool) (q : Fin 3), let f : Int := Bb c 2 + Bb w 4 + 8 * ((q.val : Nat) : Int) + Bb r 32 + Bb s 64 + Bb u 128; ((0 ≤ f ∧ f < 256) ∧ Gp f 2 = c ∧ Gp f 4 = w ∧ bits .and .i64 (f / 8) 3 = ((q.val : Nat) : Int) ∧ Gp f 32 = r ∧ Gp f 64 = s ∧ Gp f 128 = u) ∧ decide (0 < bits .and .i64 f 2) = c ∧ decide (0 < bits .and .i64 f 4) = w ∧ decide (0 < bits .and .i64 f 32) = r ∧ decide (0 < bits .and .i64 f 64) = s ∧ decide (0 < bits .and .i64 f 128) = u := by decide +kernel
theorem AlK {p : PacketV} (hq : 0 ≤ p.fWQos ∧ p.fWQos ≤ 2) : ((0 ≤ Eb p ∧ Eb p < 256) ∧ Gp (Eb p) 2 = p.fClean ∧ Gp (Eb p) 4 = p.fHasWill ∧ bits .and .i64 (Eb p / 8) 3 = p.fWQos ∧ Gp (Eb p) 32 = p.fWRetain ∧ Gp (Eb p) 64 = p.fHasPass ∧ Gp (Eb p) 128 = p.fHasUser) ∧ decide (0 < bits .and .i64 (Eb p) 2) = p.fClean ∧ decide (0 < bits .and .i64 (Eb p) 4) = p.fHasWill ∧ decide (0 < bits .and .i64 (Eb p) 32) = p.fWRetain ∧ decide (0 < bits .and .i64 (Eb p) 64) = p.fHasPass ∧ decide (0 < bits .and .i64 (Eb p) 128) = p.fHasUser := by
 have h := AdP p.fClean p.fHasWill p.fWRetain p.fHasPass p.fHasUser ⟨p.fWQos.toNat, by omega⟩
 have e : ((p.fWQos.toNat : Nat) : Int) = p.fWQos := by omega
 simp only [e] at h
 exact h
theorem AiO : ∀ (d r : Bool) (q : Fin 3), let f : Int := 48 + Bb d 8 + 2 * ((q.val : Nat) : Int) + Bb r 1; (Gp f 8 = d ∧ bits .and .i64 (f / 2) 3 = ((q.val : Nat) : Int) ∧ Gp f 1 = r) ∧ decide (0 < bits .and .i64 f 8) = d ∧ decide (0 < bits .and .i64 f 1) = r := by decide +kernel
def Ij (c : Bool) (l : List UInt8) : List UInt8 := if c then l else []
theorem Ahf {p : PacketV} (hc : Bi p.fClient = true) (hw : p.fHasWill = true → Bi p.fWTopic = true ∧ p.fWBody.size ≤ 60) (hu : Bi p.fUser = true) (hp : p.fPass.size ≤ 60) :
  bl (Fc p) = Ik mqtt ++ (u8 (p.fLevel % 256) :: u8 (Eb p % 256) :: (Pn p.fKeep ++ (Ik p.fClient ++ (Ij p.fHasWill (Ik p.fWTopic ++ Ik p.fWBody) ++ (Ij p.fHasUser (Ik p.fUser) ++ Ij p.fHasPass (Ik p.fPass)))))) := by
 have h3 : ∀ b, bl (Dc p b) = bl b ++ Ij p.fHasPass (Ik p.fPass) := fun b => by
  unfold Dc Ij
  split
  exact Zv hp b
  simp
 have h2 : ∀ b, bl (D4 p b) = bl b ++ Ij p.fHasUser (Ik p.fUser) := fun b => by
  unfold D4 Ij
  split
  exact Mb hu b
  simp
 have h1 : ∀ b, bl (E9 p b) = bl b ++ Ij p.fHasWill (Ik p.fWTopic ++ Ik p.fWBody) := fun b => by
  unfold E9 Ij
  split
  rename_i h
  rw [Zv (hw h).2, Mb (hw h).1, zaf]
  simp
 unfold Fc Gy
 rw [h3, h2, h1, Mb hc, Q4, Ix, Ix, Mb (by decide +kernel)]
 simp only [zaf, zal, zaz]
 rfl
theorem Ie {B : ByteArray} {a : Int} {c : Bool} {x l : List UInt8} (h : Sf B a (Ij c x ++ l)) : (c = true → Sf B a (x ++ l)) ∧ (c = false → Sf B a l) := by
 unfold Ij at h
 constructor <;> intro hc <;> simpa [hc] using h
end
section
open Go
theorem Us {p : PacketV} (h : Ah p = true) (h1 : p.fType = 1) : (Bi p.fClient = true ∧ (p.fHasWill = true → Bi p.fWTopic = true ∧ p.fWBody.size ≤ 60) ∧ Bi p.fUser = true ∧ p.fPass.size ≤ 60) ∧ (0 ≤ p.fLevel ∧ p.fLevel ≤ 255) ∧ (0 ≤ p.fKeep ∧ p.fKeep ≤ 65535) := by
 obtain ⟨_, _, hk⟩ := G9 h
 unfold Bx at hk
 rw [if_pos h1] at hk
 unfold Ca at hk
 simp only [zag, G4, decide_eq_true_eq, zaN] at hk
 obtain ⟨k1, k2, k3, k4, k5, k6⟩ := hk
 refine ⟨⟨k2, fun hw => ?_, k5, by omega⟩, k1, k3⟩
 rcases k4 with k4 | k4
 rw [hw] at k4
 cases k4
 exact ⟨Wq k4.1, by omega⟩
theorem AbV {p : PacketV} (h : Ah p = true) (h1 : p.fType = 1) : p = { Ce 1 with fLevel := p.fLevel, fKeep := p.fKeep, fClient := p.fClient, fClean := p.fClean, fHasWill := p.fHasWill, fHasPass := p.fHasPass, fHasUser := p.fHasUser, fWQos := p.fWQos, fWRetain := p.fWRetain, fWTopic := p.fWTopic, fWBody := p.fWBody, fUser := p.fUser, fPass := p.fPass } ∧ (p.fHasWill = false → p.fWTopic = bs0 ∧ p.fWBody = bs0 ∧ p.fWRetain = false ∧ p.fWQos = 0) ∧ (p.fHasUser = false → p.fUser = bs0 ∧ p.fHasPass = false) ∧ (p.fHasPass = false → p.fPass = bs0) := by
 obtain ⟨_, hn, _⟩ := G9 h
 clear h
 unfold Az at hn
 rw [if_pos h1] at hn
 obtain ⟨a1, a2, a3, a4, a5, a6, a7, a8, a9, a10, a11, a12, a13, a14, a15, a16, a17, a18, a19, a20, a21, a22, a23, a24, a25⟩ := p
 dsimp only at hn h1 ⊢
 subst h1
 cases a12 <;> cases a17 <;> cases a19 <;> simp only [D2, D3, Ce, if_true, if_false, zaa, PacketV.mk.injEq, true_and, and_true, false_and, and_false, reduceCtorEq] at hn <;> simp [Ce, hn]
theorem Ag1 (c : Bool) (x y : List UInt8) : Ij c (x ++ y) = Ij c x ++ Ij c y := by cases c <;> rfl
theorem P1 {B s : ByteArray} {a : Int} {c : Bool} {l : List UInt8} (h : Sf B a (Ij c (Ik s) ++ l)) (hs : s.size ≤ 60) (hz : c = false → s = bs0) : ∃ a', (if c then Ey B (a, false) else (bs0, (a, false))) = (s, a', false) ∧ Sf B a' l := by
 cases c with
 | true => exact ⟨_, Li ((Ie h).1 rfl) hs, (Km ((Ie h).1 rfl) hs).2⟩
 | false => exact ⟨a, by rw [hz rfl]; rfl, (Ie h).2 rfl⟩
theorem V6 {B s : ByteArray} {a : Int} {c : Bool} {l : List UInt8} (h : Sf B a (Ij c (Ik s) ++ l)) (hs : s.size ≤ 60) (hz : c = false → s = bs0) : ∃ a', Ep c (Bk B) a = (s, a', true) ∧ Sf B a' l := by
 cases c with
 | true => exact ⟨_, (Km ((Ie h).1 rfl) hs).1, (Km ((Ie h).1 rfl) hs).2⟩
 | false => exact ⟨a, by rw [hz rfl]; rfl, (Ie h).2 rfl⟩
theorem Xx {B s : ByteArray} {a : Int} {c : Bool} {l : List UInt8} (h : Sf B a (Ij c (Ik s) ++ l)) (hs : c = true → Bi s = true) (hz : c = false → s = bs0) : ∃ a', Ep c (Cc B) a = (s, a', true) ∧ Sf B a' l := by
 cases c with
 | true => exact ⟨_, (N7 ((Ie h).1 rfl) (hs rfl)).1, (N7 ((Ie h).1 rfl) (hs rfl)).2⟩
 | false => exact ⟨a, by rw [hz rfl]; rfl, (Ie h).2 rfl⟩
theorem Ag2 (c : Bool) (x : List UInt8) : Ij c x = Ij c x ++ [] := (zan _).symm
theorem AaW {p : PacketV} (h : Ah p = true) (h1 : p.fType = 1) : p.fWTopic.size ≤ 60 ∧ p.fWBody.size ≤ 60 ∧ p.fUser.size ≤ 60 ∧ p.fPass.size ≤ 60 := by
 obtain ⟨⟨c1, c2, c3, c4⟩, _⟩ := Us h h1
 obtain ⟨_, hz, _⟩ := AbV h h1
 cases hw : p.fHasWill
 rw [(hz hw).1, (hz hw).2.1]
 exact ⟨by decide, by decide, Fq c3, c4⟩
 exact ⟨Fq (c2 hw).1, (c2 hw).2, Fq c3, c4⟩
theorem AiP {p : PacketV} (h : Ah p = true) (h1 : p.fType = 1) : Fm (Fc p) = p ∧ A0 (Fc p) = p := by
 obtain ⟨⟨c1, c2, c3, c4⟩, c5, c6⟩ := Us h h1
 obtain ⟨z0, z1, z2, z3⟩ := AbV h h1
 obtain ⟨y1, y2, y3, y4⟩ := AaW h h1
 obtain ⟨⟨f0, f1, f2, f3, f4, f5, f6⟩, g1, g2, g4, g5, g6⟩ := AlK (I9 h).wq
 have s0 := Wg (Fc p) (Ahf c1 c2 c3 c4)
 have e0 := Li s0 (by decide)
 have k0 := (N7 s0 (by decide +kernel)).1
 have s1 := (Km s0 (by decide)).2
 generalize ha : (0 + 2 + ((mqtt.size : Nat) : Int)) = a at e0 k0 s1
 obtain ⟨e1, s2⟩ := Qx s1 (by omega) (by omega)
 obtain ⟨e2, s3⟩ := Qx s2 (by omega) (by omega)
 have hb1 := s1.head.1
 have hb2 := s2.head.1
 have hlt := s2.head.2.1
 rw [Lb (by omega) (by omega)] at hb1 hb2
 have e3 := Wh s3 c6.1 (by omega)
 obtain ⟨k3, s4⟩ := P4 s3 c6.1 (by omega)
 have e4 := Li s4 (Fq c1)
 obtain ⟨k4, s5⟩ := N7 s4 c1
 rw [Ag1, zaf] at s5
 rw [Ag2 p.fHasPass] at s5
 have fl : Eb p % 256 = Eb p := by omega
 have ll : p.fLevel % 256 = p.fLevel := by omega
 rw [fl] at e2 hb2
 rw [ll] at e1 hb1
 have hz1 : p.fHasUser = false → p.fUser = bs0 := fun e => (z2 e).1
 constructor
 obtain ⟨a5, e5, s6⟩ := P1 s5 y1 (fun e => (z1 e).1)
 obtain ⟨a6, e6, s7⟩ := P1 s6 y2 (fun e => (z1 e).2.1)
 obtain ⟨a7, e7, s8⟩ := P1 s7 y3 hz1
 obtain ⟨a8, e8, s9⟩ := P1 s8 y4 z3
 unfold Fm
 simp only [e0, e1, e2, e3, e4, f1, f2, f3, f4, f5, f6, e5, e6, e7, e8]
 have w1 : (if p.fHasWill = true then p.fWQos else 0) = p.fWQos := by
  split
  rfl
  rename_i hw
  exact ((z1 (by simpa using hw)).2.2.2).symm
 have w2 : (if p.fHasWill = true then p.fWRetain else false) = p.fWRetain := by
  split
  rfl
  rename_i hw
  exact ((z1 (by simpa using hw)).2.2.1).symm
 rw [w1, w2]
 exact z0.symm
 obtain ⟨a5, e5, s6⟩ := Xx s5 (fun e => (c2 e).1) (fun e => (z1 e).1)
 obtain ⟨a6, e6, s7⟩ := V6 s6 y2 (fun e => (z1 e).2.1)
 obtain ⟨a7, e7, s8⟩ := Xx s7 (fun _ => c3) hz1
 obtain ⟨a8, e8, s9⟩ := V6 s8 y4 z3
 unfold A0
 rw [k0]
 unfold Hx
 rw [if_neg (by simp; omega)]
 show Hr _ a (Bq _ (a + 2)) (Cc _ (Bq _ (a + 2)).2.1) = p
 rw [show a + 2 = a + 1 + 1 by omega, k3, k4]
 unfold Hr
 rw [if_neg (by simp), hb2, hb1]
 show Hq _ (Eb p) _ (a + 1 + 1 + 2 + 2 + ((p.fClient.size : Nat) : Int)) = p
 unfold Hq
 rw [g2, e5]
 dsimp only
 rw [e6]
 dsimp only
 rw [g6, e7]
 dsimp only
 rw [g5, e8]
 unfold Hp F9
 rw [if_neg (by simp), if_neg (by simp), if_neg (by simp)]
 simp only [g1, g2, g4, g5, g6, f3]
 exact z0.symm
end
section
open Go
theorem Alh {p : PacketV} (h : Ah p = true) (h2 : p.fType = 2) {B : ByteArray} (hB : B = A9 (A9 bs0 (Bb p.fPresent 1 % 256)) (p.fCode % 256)) : { Ce 2 with fPresent := decide ((Lc B (0, false)).1 = 1), fCode := (Lc B (Lc B (0, false)).2).1 } = p ∧ ((B.size : Nat) : Int) = 2 ∧ { Ce 2 with fPresent := A5 B 0 == 1, fCode := A5 B 1 } = p := by
 obtain ⟨_, hn, hk⟩ := G9 h
 unfold Bx at hk
 rw [if_neg (by omega), if_pos h2] at hk
 simp only [zag, G4] at hk
 have hb : 0 ≤ Bb p.fPresent 1 ∧ Bb p.fPresent 1 ≤ 1 ∧ (Bb p.fPresent 1 = 1 ↔ p.fPresent = true) := by
  unfold Bb
  cases p.fPresent <;> simp
 have s0 := Wg B (l := u8 (Bb p.fPresent 1 % 256) :: u8 (p.fCode % 256) :: []) (by rw [hB, Ix, Ix]; rfl)
 have hs := s0.len
 obtain ⟨e1, s1⟩ := Qx s0 (by omega) (by omega)
 obtain ⟨e2, s2⟩ := Qx s1 (by omega) (by omega)
 have b1 := s0.head.1
 have b2 := s1.head.1
 rw [Lb (by omega) (by omega)] at b1 b2
 have eb : Bb p.fPresent 1 % 256 = Bb p.fPresent 1 := by omega
 have ec : p.fCode % 256 = p.fCode := by omega
 rw [eb] at e1 b1
 rw [ec] at e2 b2
 have hz : { Ce 2 with fCode := p.fCode, fPresent := p.fPresent } = p := by
  unfold Az at hn
  rw [if_neg (by omega), if_pos h2, h2] at hn
  simpa using hn.symm
 have hd : decide (Bb p.fPresent 1 = 1) = p.fPresent := by
  cases hq : p.fPresent <;> simp [Bb]
 refine ⟨?_, by simpa using hs.symm, ?_⟩
 rw [e1]
 show { Ce 2 with fPresent := decide (Bb p.fPresent 1 = 1), fCode := (Lc B (0 + 1, false)).1 } = p
 rw [e2, hd]
 exact hz
 have b3 : A5 B 1 = p.fCode := b2
 have : (Bb p.fPresent 1 == 1) = p.fPresent := by
  cases hq : p.fPresent <;> simp [Bb]
 rw [b1, b3, this]
 exact hz
theorem Aea {p : PacketV} (h : Ah p = true) (h3 : p.fType = 3) : (Gp (C4 p) 8 = p.fDup ∧ bits .and .i64 (C4 p / 2) 3 = p.fQos ∧ Gp (C4 p) 1 = p.fRetain) ∧ decide (0 < bits .and .i64 (C4 p) 8) = p.fDup ∧ decide (0 < bits .and .i64 (C4 p) 1) = p.fRetain := by
 obtain ⟨_, hq, _, _⟩ := I9 h
 have k := AiO p.fDup p.fRetain ⟨p.fQos.toNat, by omega⟩
 have e : ((p.fQos.toNat : Nat) : Int) = p.fQos := by omega
 have e2 : C4 p = 48 + Bb p.fDup 8 + 2 * p.fQos + Bb p.fRetain 1 := by
  unfold C4
  rw [if_pos h3, h3]
  omega
 simp only [e, ← e2] at k
 exact k
theorem Ali {p : PacketV} (h : Ah p = true) (h3 : p.fType = 3) : Dt (C4 p) (G1 p) = p ∧ Dr (C4 p) (G1 p) = p := by
 obtain ⟨_, hn, hk⟩ := G9 h
 obtain ⟨hf, hi⟩ := (I9 h).q, (I9 h).i
 unfold Bx at hk
 rw [if_neg (by omega), if_neg (by omega), if_pos h3] at hk
 simp only [zag, G4, decide_eq_true_eq, zaN] at hk
 obtain ⟨k1, k2, k3, k4⟩ := hk
 obtain ⟨⟨q1, q2, q3⟩, q4, q5⟩ := Aea h h3
 have ht := (Rd h).2
 have hT := Wq k2
 have s0 := Wg (G1 p) (l := Ik p.fTopic ++ (Ij (decide (0 < p.fQos)) (Pn p.fId) ++ bl p.fBody)) (by
  unfold G1
  rw [Yh]
  split
  rename_i hq
  rw [Q4, Mb hT]
  simp [Ij, hq]
  rename_i hq
  rw [Mb hT]
  simp [Ij, hq])
 have e0 := Li s0 (Fq hT)
 obtain ⟨k0, s1⟩ := N7 s0 hT
 generalize ha : (0 + 2 + ((p.fTopic.size : Nat) : Int)) = a at e0 k0 s1
 have hz : p = { Ce 3 with fQos := p.fQos, fRetain := p.fRetain, fTopic := p.fTopic, fBody := p.fBody, fDup := p.fDup, fId := p.fId } ∧ (¬ 0 < p.fQos → p.fDup = false ∧ p.fId = 0) := by
  unfold Az at hn
  rw [if_neg (by omega), if_neg (by omega), if_pos h3, h3] at hn
  split at hn
  rename_i hq
  exact ⟨hn, fun e => absurd hq e⟩
  rename_i hq
  have d1 : p.fDup = false := congrArg PacketV.fDup hn
  have d2 : p.fId = 0 := congrArg PacketV.fId hn
  exact ⟨by rw [d1, d2]; exact hn, fun _ => ⟨d1, d2⟩⟩
 have e3 : C4 p / 16 = 3 := by omega
 have fin : ∀ (w : Int × Int × Bool), w = (if 0 < p.fQos then (p.fId, a + 2, true) else (0, a, true)) → p = { Ce 3 with fDup := p.fDup, fQos := p.fQos, fRetain := p.fRetain, fTopic := p.fTopic, fId := w.1, fBody := (G1 p).extract w.2.1.toNat (G1 p).size } := by
  rintro w rfl
  by_cases hq : 0 < p.fQos
  have s2 := (Ie s1).1 (by simp [hq])
  obtain ⟨_, s3⟩ := P4 s2 hi.1 (by omega)
  rw [if_pos hq]
  dsimp only
  rw [Ac4 s3]
  exact hz.1
  have s2 := (Ie s1).2 (by simp [hq])
  rw [if_neg hq]
  dsimp only
  rw [Ac4 s2, ← (hz.2 hq).2]
  exact hz.1
 constructor
 have e1 : (if 0 < p.fQos then Hn (G1 p) (a, false) else (0, a, false)) = ((if 0 < p.fQos then (p.fId, a + 2, true) else (0, a, true)).1, (if 0 < p.fQos then (p.fId, a + 2, true) else (0, a, true)).2.1, false) := by
  by_cases hq : 0 < p.fQos
  rw [if_pos hq, if_pos hq, Wh ((Ie s1).1 (by simp [hq])) hi.1 (by omega)]
  rw [if_neg hq, if_neg hq]
 unfold Dt
 dsimp only
 rw [e3, if_neg (by decide), if_neg (by decide), if_pos rfl, e0, q1, q2, q3]
 dsimp only
 rw [e1]
 dsimp only
 simp only [zaa, if_false]
 exact (fin _ rfl).symm
 have e1 : (if 0 < p.fQos then Bq (G1 p) a else (0, a, true)) = (if 0 < p.fQos then (p.fId, a + 2, true) else (0, a, true)) := by
  by_cases hq : 0 < p.fQos
  rw [if_pos hq, if_pos hq, (P4 ((Ie s1).1 (by simp [hq])) hi.1 (by omega)).1]
  rw [if_neg hq, if_neg hq]
 unfold Dr Ld
 rw [e3, if_neg (by decide), if_neg (by omega), if_pos rfl, k0, q2]
 dsimp only
 rw [if_neg (by simp), e1]
 unfold Hy Ld
 rw [q2, q4, q5, e3, if_neg (by split <;> simp)]
 exact (fin _ rfl).symm
def Ng (w : WantV) : List UInt8 := Ik w.fFilter ++ [u8 (w.fQos % 256)]
theorem Zy : ∀ (l : List WantV) (b : ByteArray), (∀ w ∈ l, Bi w.fFilter = true) → bl (Bo b l) = bl b ++ (l.map Ng).flatten
 | [], b, _ => by simp [Bo]
 | w :: l, b, h => by
  have e := Zy l (A9 (An b w.fFilter) (w.fQos % 256)) fun x hx => h x (zau _ hx)
  rw [Ix, Mb (h w (zax ..))] at e
  show bl (Bo (A9 (An b w.fFilter) (w.fQos % 256)) l) = _
  rw [e, zaq, za1]
  simp only [Ng, zaf]
theorem Zw : ∀ (l : List Int) (b : ByteArray), bl (Ds b l) = bl b ++ l.map fun c => u8 (c % 256)
 | [], b => by simp [Ds]
 | c :: l, b => by
  have e := Zw l (A9 b (c % 256))
  rw [Ix] at e
  show bl (Ds (A9 b (c % 256)) l) = _
  rw [e, zaq, zaf]
  rfl
theorem Zx : ∀ (l : List ByteArray) (b : ByteArray), (∀ w ∈ l, Bi w = true) → bl (Fi b l) = bl b ++ (l.map Ik).flatten
 | [], b, _ => by simp [Fi]
 | w :: l, b, h => by
  have e := Zx l (An b w) fun x hx => h x (zau _ hx)
  rw [Mb (h w (zax ..))] at e
  show bl (Fi (An b w) l) = _
  rw [e, zaq, za1, zaf]
theorem Uh {t : Int} {B : ByteArray} {f : Nat} {a : Int} {ws : List WantV} {cs : List Int} {ns : List ByteArray} (s : Sf B a []) : Cj t B (f + 1) (a, false) ws cs ns = (ws, cs, ns) := by
 rw [Cj, if_neg (by have := s.nil; simp; omega)]
theorem Amd {B : ByteArray} : ∀ (l ws : List WantV) (f : Nat) (a : Int), Sf B a (l.map Ng).flatten → (∀ w ∈ l, Bi w.fFilter = true ∧ 0 ≤ w.fQos ∧ w.fQos < 256) → ws.length + l.length ≤ 4 → l.length < f → Cj 8 B f (a, false) ws [] [] = (ws ++ l, [], [])
 | [], ws, f + 1, a, s, h, hl, hf => by
  rw [Uh s, zan]
 | w :: l, ws, f + 1, a, s, h, hl, hf => by
  simp only [zao] at hl hf
  rw [zaq, za1] at s
  obtain ⟨h1, h2⟩ := h w (zax ..)
  have s' : Sf B a (Ik w.fFilter ++ (u8 (w.fQos % 256) :: (l.map Ng).flatten)) := by
   unfold Ng at s
   rw [zaf] at s
   exact s
  have e1 := Li s' (Fq h1)
  obtain ⟨_, s2⟩ := Km s' (Fq h1)
  obtain ⟨e2, s3⟩ := Qx s2 (by omega) (by omega)
  have hlt := s'.head.2.1
  rw [Cj, if_pos (by simp; omega), if_pos rfl, e1]
  dsimp only
  rw [e2, show w.fQos % 256 = w.fQos by omega]
  dsimp only
  rw [Amd l (ws ++ [(⟨w.fFilter, w.fQos⟩ : WantV)]) f _ s3 (fun x hx => h x (zau _ hx)) (by simp only [zae, zas]; omega) (by omega), zaf]
  rfl
theorem Ame {B : ByteArray} : ∀ (l cs : List Int) (f : Nat) (a : Int), Sf B a (l.map fun c => u8 (c % 256)) → (∀ c ∈ l, 0 ≤ c ∧ c < 256) → cs.length + l.length ≤ 4 → l.length < f → Cj 9 B f (a, false) [] cs [] = ([], cs ++ l, [])
 | [], cs, f + 1, a, s, h, hl, hf => by
  rw [Uh s, zan]
 | c :: l, cs, f + 1, a, s, h, hl, hf => by
  simp only [zao] at hl hf
  rw [zaq] at s
  have h2 := h c (zax ..)
  obtain ⟨e2, s3⟩ := Qx s (by omega) (by omega)
  have hlt := s.head.2.1
  rw [Cj, if_pos (by simp; omega), if_neg (by decide), if_pos rfl, e2, show c % 256 = c by omega]
  dsimp only
  rw [Ame l (cs ++ [c]) f _ s3 (fun x hx => h x (zau _ hx)) (by simp only [zae, zas]; omega) (by omega), zaf]
  rfl
theorem AjH {B : ByteArray} : ∀ (l ns : List ByteArray) (f : Nat) (a : Int), Sf B a (l.map Ik).flatten → (∀ w ∈ l, Bi w = true) → ns.length + l.length ≤ 4 → l.length < f → Cj 10 B f (a, false) [] [] ns = ([], [], ns ++ l)
 | [], ns, f + 1, a, s, h, hl, hf => by
  rw [Uh s, zan]
 | w :: l, ns, f + 1, a, s, h, hl, hf => by
  simp only [zao] at hl hf
  rw [zaq, za1] at s
  have h1 := h w (zax ..)
  have e1 := Li s (Fq h1)
  obtain ⟨_, s2⟩ := Km s (Fq h1)
  have hlt := s.head.2.1
  rw [Cj, if_pos (by simp; omega), if_neg (by decide), if_neg (by decide), if_pos rfl, e1]
  dsimp only
  rw [AjH l (ns ++ [w]) f _ s2 (fun x hx => h x (zau _ hx)) (by simp only [zae, zas]; omega) (by omega), zaf]
  rfl
theorem R5 {t : Int} {B : ByteArray} {f : Nat} {a : Int} {ws : List WantV} {ns : List ByteArray} (h : ((B.size : Nat) : Int) ≤ a ∨ (t ≠ 8 ∧ t ≠ 10)) : C8 t B (f + 1) a ws ns = some (ws, ns) := by
 rw [C8, if_neg (by simp; omega)]
theorem Amf {B : ByteArray} : ∀ (l ws : List WantV) (f : Nat) (a : Int), Sf B a (l.map Ng).flatten → (∀ w ∈ l, Bi w.fFilter = true ∧ 0 ≤ w.fQos ∧ w.fQos < 256) → l.length < f → C8 8 B f a ws [] = some (ws ++ l, [])
 | [], ws, f + 1, a, s, h, hf => by
  rw [R5 (.inl (by have := s.nil; omega)), zan]
 | w :: l, ws, f + 1, a, s, h, hf => by
  simp only [zao] at hf
  rw [zaq, za1] at s
  obtain ⟨h1, h2⟩ := h w (zax ..)
  have s' : Sf B a (Ik w.fFilter ++ (u8 (w.fQos % 256) :: (l.map Ng).flatten)) := by
   unfold Ng at s
   rw [zaf] at s
   exact s
  obtain ⟨e1, s2⟩ := N7 s' h1
  obtain ⟨e2, s3⟩ := Qx s2 (by omega) (by omega)
  obtain ⟨hb, hl2, _⟩ := s2.head
  rw [Lb (by omega) (by omega), show w.fQos % 256 = w.fQos by omega] at hb
  have hlt := s'.head.2.1
  rw [C8, if_pos (by simp; omega), e1]
  dsimp only
  rw [if_pos rfl, if_neg (by decide), if_neg (by omega), hb, Amf l (ws ++ [(⟨w.fFilter, w.fQos⟩ : WantV)]) f _ s3 (fun x hx => h x (zau _ hx)) (by omega), zaf]
  rfl
theorem AjI {B : ByteArray} : ∀ (l ns : List ByteArray) (f : Nat) (a : Int), Sf B a (l.map Ik).flatten → (∀ w ∈ l, Bi w = true) → l.length < f → C8 10 B f a [] ns = some ([], ns ++ l)
 | [], ns, f + 1, a, s, h, hf => by
  rw [R5 (.inl (by have := s.nil; omega)), zan]
 | w :: l, ns, f + 1, a, s, h, hf => by
  simp only [zao] at hf
  rw [zaq, za1] at s
  have h1 := h w (zax ..)
  obtain ⟨e1, s2⟩ := N7 s h1
  have hlt := s.head.2.1
  rw [C8, if_pos (by simp; omega), e1]
  dsimp only
  rw [if_pos rfl, if_pos rfl, AjI l (ns ++ [w]) f _ s2 (fun x hx => h x (zau _ hx)) (by omega), zaf]
  rfl
theorem rdC {B : ByteArray} : ∀ (l cs : List Int) (f : Nat) (a : Int), Sf B a (l.map fun c => u8 (c % 256)) → (∀ c ∈ l, 0 ≤ c ∧ c < 256) → l.length < f → Ge B f a cs = cs ++ l
 | [], cs, f + 1, a, s, h, hf => by
  rw [Ge, if_neg (by have := s.nil; omega), zan]
 | c :: l, cs, f + 1, a, s, h, hf => by
  simp only [zao] at hf
  rw [zaq] at s
  have h2 := h c (zax ..)
  obtain ⟨hb, hlt, s3⟩ := s.head
  rw [Lb (by omega) (by omega), show c % 256 = c by omega] at hb
  rw [Ge, if_pos hlt, hb, rdC l (cs ++ [c]) f _ s3 (fun x hx => h x (zau _ hx)) (by omega), zaf]
  rfl
end
section
open Go
theorem Bj : bs0.size = 0 := rfl
theorem Aes (z : Int) (hz : 0 ≤ z ∧ z < 256) : AV.ro 1 [.sc (.int .u8 z)] = Ag (A9 bs0 z) := by
 rw [H3 _ z hz.1 hz.2]
 rfl
theorem AjN (z w : Int) (hz : (0 ≤ z ∧ z < 256) ∧ 0 ≤ w ∧ w < 256) : AV.ro 2 [.sc (.int .u8 z), .sc (.int .u8 w)] = Ag (A9 (A9 bs0 z) w) := by
 rw [H3 _ w hz.2.1 hz.2.2, Ay, (AV.ro.inj (H3 bs0 z hz.1.1 hz.1.2)).2]
 rfl
theorem Zt (b c : ByteArray) (z : Int) : b ++ A9 c z = A9 (b ++ c) z := by
 apply ByteArray.ext
 unfold A9
 rw [zbw, zbE, zbE, zbw, Array.append_push]
theorem Ahd (a : ByteArray) : a ++ bs0 = a := by
 apply ByteArray.ext
 rw [zbw]
 exact Array.append_empty ..
theorem M5 (n : Nat) (hn : 1048576 < n) (a : ByteArray) (hs : a.size ≤ 140737488355327) : Dd E0 (n + 4) 22 77 [.ro 1 [Ag a]] = some (Ag (a)) := by
 rw [Bd, Af7, f77]
 refine C6 (G := (· = some (Ag (a)))) ?_
 try simp only [B5]
 have s0 : Sep [] [] := Cx
 refine Cz ?_
 rw [Nv]
 try simp only [Ba, A4, Av, Bu, Du]
 refine Dw (As (by decide) (Yx (r := [Ag a]) (by decide) (Cn rfl) rfl (Fg (c := Ag a) rfl (Ji s0 (by omega) fun x1 H lx1 s2 => B9 (by omega) (by omega) ?_))))
 rw [Nv]
 try simp only [Ba, A4, Av, Bu, Du]
 refine Dw (Ax (by decide) (Ai (Dm s2 (.here)) ?_))
 rfl
theorem M6 (n : Nat) (hn : 1048576 < n) (a : ByteArray) (b : ByteArray) (hs : a.size + b.size ≤ 140737488355327) : Dd E0 (n + 4) 22 77 [.ro 2 [Ag a, Ag b]] = some (Ag (a ++ b)) := by
 rw [Bd, Af7, f77]
 refine C6 (G := (· = some (Ag (a ++ b)))) ?_
 try simp only [B5]
 have s0 : Sep [] [] := Cx
 refine Cz ?_
 rw [Nv]
 try simp only [Ba, A4, Av, Bu, Du]
 refine Dw (As (by decide) (Yx (r := [Ag a, Ag b]) (by decide) (Cn rfl) rfl (Fg (c := Ag a) rfl (Ji s0 (by omega) fun x1 H lx1 s2 => B9 (by omega) (by omega) ?_))))
 rw [Nv]
 try simp only [Ba, A4, Av, Bu, Du]
 refine Dw (As (by decide) (Yx (r := [Ag b]) (by decide) (Cn rfl) rfl (Fg (c := Ag b) rfl (Rf (s := a) s2 ⟨_, _, rfl, rfl, rfl, rfl⟩ (.here) Ui (by omega) fun x3 H lx3 s4 => B9 (by omega) (by omega) ?_))))
 rw [Nv]
 try simp only [Ba, A4, Av, Bu, Du]
 refine Dw (Ax (by decide) (Ai (Dm s4 (.here)) ?_))
 rfl
theorem Ri (n : Nat) (hn : 1048576 < n) (b : ByteArray) (n_ : Int) (hs : b.size ≤ 70368744177664) : Dd E0 (n + 5) 22 142 [Ag b, .sc (.int .i64 n_)] = some (Ag (Ao b n_)) := by
 rw [Bd, AhH, f142]
 refine C6 (G := (· = some (Ag (Ao b n_)))) ?_
 try simp only [Cq, A4, Ct, Dh]
 have s0 : Sep [] [] := Cx
 refine Tn 256 rfl (by decide) (Gq (Ma _) (Fy (IntKind.wrap_u8 _) (Gq (Ma _) (Fy (IntKind.wrap_u8 _) (Bg (cs := [.sc (.int .u8 (((n_ / 256) % 256) % 256)), .sc (.int .u8 ((n_ % 256) % 256))]) rfl (Co s0 fun i1 H s2 => Bg (cs := [Ag b, .sl i1 0 2 1]) rfl (Co s2 fun i3 H s4 => Cg s4 rfl (.sl (.here) rfl (.cons .ro (.sl C0 rfl (Ir .nil) .nil)) .nil) (by rw [AjN (((n_ / 256) % 256) % 256) ((n_ % 256) % 256) (by omega)]; exact M6 n (by omega) b (A9 (A9 bs0 (((n_ / 256) % 256) % 256)) ((n_ % 256) % 256)) (by (simp only [Ay, Aw, Bj]; omega))) (Da (b ++ (A9 (A9 bs0 (((n_ / 256) % 256) % 256)) ((n_ % 256) % 256)))) fun x5 H lx5 s6 => Ai (Dm s6 (.here)) ?_)))))))
 (rw [Zt, Zt, Ahd]; rfl)
theorem R8 (n : Nat) (hn : 1048576 < n) (b : ByteArray) (n_ : Int) (hs : b.size ≤ 70368744177664) : Dd E0 (n + 1) 22 95 [Ag b, .sc (.int .i64 n_)] = some (Ag (Ao b n_)) := by
 rw [Bd, AkG, f95]
 refine C6 (G := (· = some (Ag (Ao b n_)))) ?_
 try simp only [Cq, A4, Ct, Du, Dh]
 have s0 : Sep [] [] := Cx
 refine Ji s0 (by omega) fun x1 H lx1 s2 => Tn 256 rfl (by decide) (Gq (Ma _) (Fy (IntKind.wrap_u8 _) (Gq (Ma _) (Fy (IntKind.wrap_u8 _) (Bg (cs := [su (((n_ / 256) % 256) % 256), su ((n_ % 256) % 256)]) rfl (Co s2 fun i3 H s4 => Ub (s := b) (z := (((n_ / 256) % 256) % 256)) (w := ((n_ % 256) % 256)) s4 C0 (.here) ⟨_, _, rfl, rfl, rfl, rfl⟩ (by omega) fun x5 H lx5 s6 => Ai (Dm s6 (.here)) ?_))))))
 rfl
theorem K6 (n : Nat) (hn : 1048576 < n) (b : ByteArray) (s : ByteArray) (hb : b.size ≤ 70368744177664) (hs : s.size ≤ 1048576) : Dd E0 (n + 6) 22 141 [Ag b, .sc (.string s)] = some (Ag (An b s)) := by
 rw [Bd, AhG, f141]
 refine C6 (G := (· = some (Ag (An b s)))) ?_
 try simp only [Cq, D5, Av, Hf, Ct, AbP]
 have s0 : Sep [] [] := Cx
 refine Nw rfl rfl (Ia _ s (za5 hs (by decide))) (C2 (Aa ((Bi s)) (fun h1 => ?_) (fun h1 => ?_)))
 refine Ax (nF h1) (AfY (Cg s0 rfl (.cons .ro (.cons .sc .nil)) (Ri n (by omega) b (s.size : Int) (by omega)) (Da (Ao b (s.size : Int))) fun x2 H lx2 s3 => AkO s3 (by omega) fun i4 H s5 => Bg (cs := [x2, .sl i4 0 s.size 1]) (Ko (z' := [x2, .nl]) (Eh lx2) rfl (Cn rfl) rfl (Ko (z' := [x2, .sl i4 0 s.size 1]) (Eh rfl) rfl (Cn rfl) rfl (rfl))) (Co s5 fun i6 H s7 => Cg s7 rfl (.sl (.here) rfl (.cons (.own (by decide) Dj) (.sl C0 AlU vwB .nil)) .nil) (M6 (n + 1) (by omega) (Ao b (s.size : Int)) s (by (simp only [Ay, Aw, Bj]; omega))) (Da ((Ao b (s.size : Int)) ++ s)) fun x8 H lx8 s9 => Ai (Dm s9 (.here)) ?_)))
 have e : An b s = ((Ao b (s.size : Int)) ++ s) := by
  unfold An
  simp only [h1, if_true, if_false, zaa]
 rw [e]
 refine As (nT h1) (Bg (cs := [Ag b]) rfl (Co s0 fun i10 H s11 => Cg s11 rfl (.sl (.here) rfl (.cons .ro .nil) .nil) (M5 (n + 1) (by omega) b (by omega)) (Da b) fun x12 H lx12 s13 => Ai (Dm s13 (.here)) ?_))
 have e : An b s = b := by
  unfold An
  simp only [h1, if_true, if_false, zaa]
 rw [e]
theorem La (n : Nat) (hn : 1048576 < n) (b : ByteArray) (s : ByteArray) (hb : b.size ≤ 70368744177664) (hs : s.size ≤ 1048576) : Dd E0 (n + 5) 22 93 [Ag b, .sc (.string s)] = some (Ag (An b s)) := by
 rw [Bd, AkE, f93]
 refine C6 (G := (· = some (Ag (An b s)))) ?_
 try simp only [D5, Av, Hf, Du, Aha]
 have s0 : Sep [] [] := Cx
 refine Aq (v := (.bool (Bi s))) s0 rfl (.cons .sc .nil) (Gk n (by omega) _ s) (C2 (Aa ((Bi s)) (fun h1 => ?_) (fun h1 => ?_)))
 refine Ax (nF h1) (AfY (Cg s0 rfl (.cons .ro (.cons .sc .nil)) (R8 (n + 3) (by omega) b (s.size : Int) (by omega)) (Da (Ao b (s.size : Int))) fun x2 H lx2 s3 => Ain (s := (Ao b (s.size : Int))) s3 ⟨_, _, rfl, rfl, rfl, rfl⟩ (.here) (by (simp only [Ay, Aw, Bj]; omega)) fun x4 H lx4 s5 => Ai (Dm s5 (.here)) ?_))
 have e : An b s = ((Ao b (s.size : Int)) ++ s) := by
  unfold An
  simp only [h1, if_true, if_false, zaa]
 rw [e]
 refine As (nT h1) (Ji s0 (by omega) fun x6 H lx6 s7 => Ai (Dm s7 (.here)) ?_)
 have e : An b s = b := by
  unfold An
  simp only [h1, if_true, if_false, zaa]
 rw [e]
theorem Acs (n : Nat) (hn : 1048576 < n) (b : ByteArray) (s : ByteArray) (hb : b.size ≤ 70368744177664) (hs : s.size ≤ 1048576) : Dd E0 (n + 6) 22 151 [Ag b, Ag s] = some (Ag (C7 b s)) := by
 rw [Bd, AhL, f151]
 refine C6 (G := (· = some (Ag (C7 b s)))) ?_
 try simp only [Cq, A4, Av, B5, Ct]
 have s0 : Sep [] [] := Cx
 refine Cz (Er (Aa ((decide (60 < ((s.size : Nat) : Int)))) (fun h1 => ?_) (fun h1 => ?_)))
 refine As h1 (Bg (cs := [Ag b]) rfl (Co s0 fun i2 H s3 => Cg s3 rfl (.sl (.here) rfl (.cons .ro .nil) .nil) (M5 (n + 1) (by omega) b (by omega)) (Da b) fun x4 H lx4 s5 => Ai (Dm s5 (.here)) ?_))
 have e : C7 b s = b := by
  unfold C7
  simp only [h1, if_true, if_false, zaa]
 rw [e]
 refine Ax h1 (Cz (Cg s0 rfl (.cons .ro (.cons .sc .nil)) (Ri n (by omega) b ((s.size : Nat) : Int) (by omega)) (Da (Ao b ((s.size : Nat) : Int))) fun x6 H lx6 s7 => Bg (cs := [x6, Ag s]) (Ko (z' := [x6, .nl]) (Eh lx6) rfl (Cn rfl) rfl (Ko (z' := [x6, Ag s]) (Eh rfl) rfl (Cn rfl) rfl (rfl))) (Co s7 fun i8 H s9 => Cg s9 rfl (.sl (.here) rfl (.cons (.own (by decide) C0) (.cons .ro .nil)) .nil) (M6 (n + 1) (by omega) (Ao b ((s.size : Nat) : Int)) s (by (simp only [Ay, Aw, Bj]; omega))) (Da ((Ao b ((s.size : Nat) : Int)) ++ s)) fun x10 H lx10 s11 => Ai (Dm s11 (.here)) ?_)))
 have e : C7 b s = ((Ao b ((s.size : Nat) : Int)) ++ s) := by
  unfold C7
  simp only [h1, if_true, if_false, zaa]
 rw [e]
theorem Ac5 (n : Nat) (hn : 1048576 < n) (b : ByteArray) (s : ByteArray) (hb : b.size ≤ 70368744177664) (hs : s.size ≤ 1048576) : Dd E0 (n + 2) 22 96 [Ag b, Ag s] = some (Ag (C7 b s)) := by
 rw [Bd, AkH, f96]
 refine C6 (G := (· = some (Ag (C7 b s)))) ?_
 try simp only [A4, Av, B5, Du]
 have s0 : Sep [] [] := Cx
 refine Cz (Er (Aa ((decide (60 < ((s.size : Nat) : Int)))) (fun h1 => ?_) (fun h1 => ?_)))
 refine As h1 (Ji s0 (by omega) fun x2 H lx2 s3 => Ai (Dm s3 (.here)) ?_)
 have e : C7 b s = b := by
  unfold C7
  simp only [h1, if_true, if_false, zaa]
 rw [e]
 refine Ax h1 (Cz (Cg s0 rfl (.cons .ro (.cons .sc .nil)) (R8 n (by omega) b ((s.size : Nat) : Int) (by omega)) (Da (Ao b ((s.size : Nat) : Int))) fun x4 H lx4 s5 => Rf (s := (Ao b ((s.size : Nat) : Int))) s5 ⟨_, _, rfl, rfl, rfl, rfl⟩ (.here) Ui (by (simp only [Ay, Aw, Bj]; omega)) fun x6 H lx6 s7 => Ai (Dm s7 (.here)) ?_))
 have e : C7 b s = ((Ao b ((s.size : Nat) : Int)) ++ s) := by
  unfold C7
  simp only [h1, if_true, if_false, zaa]
 rw [e]
theorem Xp {m : Int} (h : B3 m 0 268435455 = true) : 0 ≤ m ∧ m ≤ 268435455 ∧ ¬ 127 < m / 128 / 128 / 128 := by
 simp only [B3, zag, decide_eq_true_eq] at h
 omega
theorem Aix (n : Nat) (hn : 1048576 < n) (b : ByteArray) (m_ : Int) (hb : b.size ≤ 70368744177664) : Dd E0 (n + 6) 22 112 [Ag b, .sc (.int .i64 m_)] = some (Ag (Dg b m_)) := by
 rw [Bd, Ahy, f112]
 refine C6 (G := (· = some (Ag (Dg b m_)))) ?_
 try simp only [Cq, D5, Av, Ct]
 have s0 : Sep [] [] := Cx
 refine Bg (cs := [Ag b]) rfl (Co s0 fun i1 H s2 => Cg s2 rfl (.sl (.here) rfl (.cons .ro .nil) .nil) (M5 (n + 1) (by omega) b (by omega)) (Da b) fun x3 H lx3 s4 => Aq (v := (.bool (B3 m_ 0 268435455))) s4 rfl (My .nil) (Hz (n + 4) _ m_ 0 268435455) (C2 (Aa ((B3 m_ 0 268435455)) (fun h5 => ?_) (fun h5 => ?_))))
 obtain ⟨hm0, hm1, hq⟩ := Xp h5
 refine Ax (nF h5) ?_
 rw [Mh]
 try simp only [Cq, A4, Av, Ct, Du, Dh]
 refine Er (Aa ((decide (127 < m_))) (fun h6 => ?_) (fun h6 => ?_))
 refine As h6 (Qb (v := .sc (.int .i64 (m_ % 128))) (fun k => by show k (.sc (.int .i64 (Int.tmod (m_) 128))) = _; rw [za9 (by omega)]) (B9 (by omega) (by omega) (Fy (IntKind.wrap_u8 _) (Bg (cs := [.sc (.int .u8 (((m_ % 128) + 128) % 256))]) rfl (Co s4 fun i7 H s8 => Ff (s := b) (z := (((m_ % 128) + 128) % 256)) s8 C0 (.here) ⟨_, _, rfl, rfl, rfl, rfl⟩ rfl (by omega) fun x9 H lx9 s10 => O1 (by omega) (by omega) (by decide) ?_)))))
 rw [Mh]
 try simp only [Cq, A4, Av, Ct, Du, Dh]
 refine Er (Aa ((decide (127 < (m_ / 128)))) (fun h11 => ?_) (fun h11 => ?_))
 refine As h11 (Qb (v := .sc (.int .i64 ((m_ / 128) % 128))) (fun k => by show k (.sc (.int .i64 (Int.tmod ((m_ / 128)) 128))) = _; rw [za9 (by omega)]) (B9 (by omega) (by omega) (Fy (IntKind.wrap_u8 _) (Bg (cs := [.sc (.int .u8 ((((m_ / 128) % 128) + 128) % 256))]) rfl (Co s10 fun i12 H s13 => Ff (s := (A9 b (((m_ % 128) + 128) % 256))) (z := ((((m_ / 128) % 128) + 128) % 256)) s13 C0 (.here) ⟨_, _, rfl, rfl, rfl, rfl⟩ rfl (by (simp only [Ay, Bj]; omega)) fun x14 H lx14 s15 => O1 (by omega) (by omega) (by decide) ?_)))))
 rw [Mh]
 try simp only [Cq, A4, Av, Ct, Du, Dh]
 refine Er (Aa ((decide (127 < ((m_ / 128) / 128)))) (fun h16 => ?_) (fun h16 => ?_))
 refine As h16 (Qb (v := .sc (.int .i64 (((m_ / 128) / 128) % 128))) (fun k => by show k (.sc (.int .i64 (Int.tmod (((m_ / 128) / 128)) 128))) = _; rw [za9 (by omega)]) (B9 (by omega) (by omega) (Fy (IntKind.wrap_u8 _) (Bg (cs := [.sc (.int .u8 (((((m_ / 128) / 128) % 128) + 128) % 256))]) rfl (Co s15 fun i17 H s18 => Ff (s := (A9 (A9 b (((m_ % 128) + 128) % 256)) ((((m_ / 128) % 128) + 128) % 256))) (z := (((((m_ / 128) / 128) % 128) + 128) % 256)) s18 C0 (.here) ⟨_, _, rfl, rfl, rfl, rfl⟩ rfl (by (simp only [Ay, Bj]; omega)) fun x19 H lx19 s20 => O1 (by omega) (by omega) (by decide) ?_)))))
 rw [Mh]
 try simp only [Cq, A4, Av, Ct, Du, Dh]
 refine Er (Ax (decide_eq_false (by omega)) (Fy (IntKind.wrap_u8 _) (Bg (cs := [.sc (.int .u8 ((((m_ / 128) / 128) / 128) % 256))]) rfl (Co s20 fun i21 H s22 => Ff (s := (A9 (A9 (A9 b (((m_ % 128) + 128) % 256)) ((((m_ / 128) % 128) + 128) % 256)) (((((m_ / 128) / 128) % 128) + 128) % 256))) (z := ((((m_ / 128) / 128) / 128) % 256)) s22 C0 (.here) ⟨_, _, rfl, rfl, rfl, rfl⟩ rfl (by (simp only [Ay, Bj]; omega)) fun x23 H lx23 s24 => Ai (Dm s24 (.here)) ?_))))
 have e : Dg b m_ = (A9 (A9 (A9 (A9 b (((m_ % 128) + 128) % 256)) ((((m_ / 128) % 128) + 128) % 256)) (((((m_ / 128) / 128) % 128) + 128) % 256)) ((((m_ / 128) / 128) / 128) % 256)) := by
  simp only [Cm] at h5 h6 h11 h16
  unfold Dg
  simp only [h5, h6, h11, h16, if_true, if_false, zaa, Kv, hq]
 rw [e]
 refine Ax h16 (Fy (IntKind.wrap_u8 _) (Bg (cs := [.sc (.int .u8 (((m_ / 128) / 128) % 256))]) rfl (Co s15 fun i25 H s26 => Ff (s := (A9 (A9 b (((m_ % 128) + 128) % 256)) ((((m_ / 128) % 128) + 128) % 256))) (z := (((m_ / 128) / 128) % 256)) s26 C0 (.here) ⟨_, _, rfl, rfl, rfl, rfl⟩ rfl (by (simp only [Ay, Bj]; omega)) fun x27 H lx27 s28 => Ai (Dm s28 (.here)) ?_)))
 have e : Dg b m_ = (A9 (A9 (A9 b (((m_ % 128) + 128) % 256)) ((((m_ / 128) % 128) + 128) % 256)) (((m_ / 128) / 128) % 256)) := by
  simp only [Cm] at h5 h6 h11 h16
  unfold Dg
  simp only [h5, h6, h11, h16, if_true, if_false, zaa, Kv, hq]
 rw [e]
 refine Ax h11 (Fy (IntKind.wrap_u8 _) (Bg (cs := [.sc (.int .u8 ((m_ / 128) % 256))]) rfl (Co s10 fun i29 H s30 => Ff (s := (A9 b (((m_ % 128) + 128) % 256))) (z := ((m_ / 128) % 256)) s30 C0 (.here) ⟨_, _, rfl, rfl, rfl, rfl⟩ rfl (by (simp only [Ay, Bj]; omega)) fun x31 H lx31 s32 => Ai (Dm s32 (.here)) ?_)))
 have e : Dg b m_ = (A9 (A9 b (((m_ % 128) + 128) % 256)) ((m_ / 128) % 256)) := by
  simp only [Cm] at h5 h6 h11
  unfold Dg
  simp only [h5, h6, h11, if_true, if_false, zaa, Kv, hq]
 rw [e]
 refine Ax h6 (Fy (IntKind.wrap_u8 _) (Bg (cs := [su (m_ % 256)]) rfl (Co s4 fun i33 H s34 => Ff (s := b) (z := (m_ % 256)) s34 C0 (.here) ⟨_, _, rfl, rfl, rfl, rfl⟩ rfl (by omega) fun x35 H lx35 s36 => Ai (Dm s36 (.here)) ?_)))
 have e : Dg b m_ = (A9 b (m_ % 256)) := by
  simp only [Cm] at h5 h6
  unfold Dg
  simp only [h5, h6, if_true, if_false, zaa, Kv, hq]
 rw [e]
 refine As (nT h5) (Ai (Dm s4 (.here)) ?_)
 have e : Dg b m_ = b := by
  unfold Dg
  simp only [h5, if_true, if_false, zaa, Kv]
 rw [e]
theorem AiY (n : Nat) (hn : 1048576 < n) (b : ByteArray) (m_ : Int) (hb : b.size ≤ 70368744177664) : Dd E0 (n + 6) 22 97 [Ag b, .sc (.int .i64 m_)] = some (Ag (Dg b m_)) := by
 rw [Bd, AkI, f97]
 refine C6 (G := (· = some (Ag (Dg b m_)))) ?_
 try simp only [D5, Av, Du]
 have s0 : Sep [] [] := Cx
 refine Ji s0 (by omega) fun x1 H lx1 s2 => Aq (v := (.bool (B3 m_ 0 268435455))) s2 rfl (My .nil) (Gt (n + 4) _ m_ 0 268435455) (C2 (Aa ((B3 m_ 0 268435455)) (fun h3 => ?_) (fun h3 => ?_)))
 obtain ⟨hm0, hm1, hq⟩ := Xp h3
 refine Ax (nF h3) ?_
 rw [Oz]
 try simp only [Cq, A4, Av, Ct, Du, Dh]
 refine Er (Aa ((decide (127 < m_))) (fun h4 => ?_) (fun h4 => ?_))
 refine As h4 (Qb (v := .sc (.int .i64 (m_ % 128))) (fun k => by show k (.sc (.int .i64 (Int.tmod (m_) 128))) = _; rw [za9 (by omega)]) (B9 (by omega) (by omega) (Fy (IntKind.wrap_u8 _) (Bg (cs := [.sc (.int .u8 ((128 + (m_ % 128)) % 256))]) rfl (Co s2 fun i5 H s6 => Ff (s := b) (z := ((128 + (m_ % 128)) % 256)) s6 C0 (.here) ⟨_, _, rfl, rfl, rfl, rfl⟩ rfl (by omega) fun x7 H lx7 s8 => O1 (by omega) (by omega) (by decide) ?_)))))
 rw [Oz]
 try simp only [Cq, A4, Av, Ct, Du, Dh]
 refine Er (Aa ((decide (127 < (m_ / 128)))) (fun h9 => ?_) (fun h9 => ?_))
 refine As h9 (Qb (v := .sc (.int .i64 ((m_ / 128) % 128))) (fun k => by show k (.sc (.int .i64 (Int.tmod ((m_ / 128)) 128))) = _; rw [za9 (by omega)]) (B9 (by omega) (by omega) (Fy (IntKind.wrap_u8 _) (Bg (cs := [.sc (.int .u8 ((128 + ((m_ / 128) % 128)) % 256))]) rfl (Co s8 fun i10 H s11 => Ff (s := (A9 b ((128 + (m_ % 128)) % 256))) (z := ((128 + ((m_ / 128) % 128)) % 256)) s11 C0 (.here) ⟨_, _, rfl, rfl, rfl, rfl⟩ rfl (by (simp only [Ay, Bj]; omega)) fun x12 H lx12 s13 => O1 (by omega) (by omega) (by decide) ?_)))))
 rw [Oz]
 try simp only [Cq, A4, Av, Ct, Du, Dh]
 refine Er (Aa ((decide (127 < ((m_ / 128) / 128)))) (fun h14 => ?_) (fun h14 => ?_))
 refine As h14 (Qb (v := .sc (.int .i64 (((m_ / 128) / 128) % 128))) (fun k => by show k (.sc (.int .i64 (Int.tmod (((m_ / 128) / 128)) 128))) = _; rw [za9 (by omega)]) (B9 (by omega) (by omega) (Fy (IntKind.wrap_u8 _) (Bg (cs := [.sc (.int .u8 ((128 + (((m_ / 128) / 128) % 128)) % 256))]) rfl (Co s13 fun i15 H s16 => Ff (s := (A9 (A9 b ((128 + (m_ % 128)) % 256)) ((128 + ((m_ / 128) % 128)) % 256))) (z := ((128 + (((m_ / 128) / 128) % 128)) % 256)) s16 C0 (.here) ⟨_, _, rfl, rfl, rfl, rfl⟩ rfl (by (simp only [Ay, Bj]; omega)) fun x17 H lx17 s18 => O1 (by omega) (by omega) (by decide) ?_)))))
 rw [Oz]
 try simp only [Cq, A4, Av, Ct, Du, Dh]
 refine Er (Ax (decide_eq_false (by omega)) (Fy (IntKind.wrap_u8 _) (Bg (cs := [.sc (.int .u8 ((((m_ / 128) / 128) / 128) % 256))]) rfl (Co s18 fun i19 H s20 => Ff (s := (A9 (A9 (A9 b ((128 + (m_ % 128)) % 256)) ((128 + ((m_ / 128) % 128)) % 256)) ((128 + (((m_ / 128) / 128) % 128)) % 256))) (z := ((((m_ / 128) / 128) / 128) % 256)) s20 C0 (.here) ⟨_, _, rfl, rfl, rfl, rfl⟩ rfl (by (simp only [Ay, Bj]; omega)) fun x21 H lx21 s22 => Ai (Dm s22 (.here)) ?_))))
 have e : Dg b m_ = (A9 (A9 (A9 (A9 b ((128 + (m_ % 128)) % 256)) ((128 + ((m_ / 128) % 128)) % 256)) ((128 + (((m_ / 128) / 128) % 128)) % 256)) ((((m_ / 128) / 128) / 128) % 256)) := by
  simp only [Cm] at h3 h4 h9 h14
  unfold Dg
  simp only [h3, h4, h9, h14, if_true, if_false, zaa, Kv, hq]
  try simp only [zbK]
 rw [e]
 refine Ax h14 (Fy (IntKind.wrap_u8 _) (Bg (cs := [.sc (.int .u8 (((m_ / 128) / 128) % 256))]) rfl (Co s13 fun i23 H s24 => Ff (s := (A9 (A9 b ((128 + (m_ % 128)) % 256)) ((128 + ((m_ / 128) % 128)) % 256))) (z := (((m_ / 128) / 128) % 256)) s24 C0 (.here) ⟨_, _, rfl, rfl, rfl, rfl⟩ rfl (by (simp only [Ay, Bj]; omega)) fun x25 H lx25 s26 => Ai (Dm s26 (.here)) ?_)))
 have e : Dg b m_ = (A9 (A9 (A9 b ((128 + (m_ % 128)) % 256)) ((128 + ((m_ / 128) % 128)) % 256)) (((m_ / 128) / 128) % 256)) := by
  simp only [Cm] at h3 h4 h9 h14
  unfold Dg
  simp only [h3, h4, h9, h14, if_true, if_false, zaa, Kv, hq]
  try simp only [zbK]
 rw [e]
 refine Ax h9 (Fy (IntKind.wrap_u8 _) (Bg (cs := [.sc (.int .u8 ((m_ / 128) % 256))]) rfl (Co s8 fun i27 H s28 => Ff (s := (A9 b ((128 + (m_ % 128)) % 256))) (z := ((m_ / 128) % 256)) s28 C0 (.here) ⟨_, _, rfl, rfl, rfl, rfl⟩ rfl (by (simp only [Ay, Bj]; omega)) fun x29 H lx29 s30 => Ai (Dm s30 (.here)) ?_)))
 have e : Dg b m_ = (A9 (A9 b ((128 + (m_ % 128)) % 256)) ((m_ / 128) % 256)) := by
  simp only [Cm] at h3 h4 h9
  unfold Dg
  simp only [h3, h4, h9, if_true, if_false, zaa, Kv, hq]
  try simp only [zbK]
 rw [e]
 refine Ax h4 (Fy (IntKind.wrap_u8 _) (Bg (cs := [su (m_ % 256)]) rfl (Co s2 fun i31 H s32 => Ff (s := b) (z := (m_ % 256)) s32 C0 (.here) ⟨_, _, rfl, rfl, rfl, rfl⟩ rfl (by omega) fun x33 H lx33 s34 => Ai (Dm s34 (.here)) ?_)))
 have e : Dg b m_ = (A9 b (m_ % 256)) := by
  simp only [Cm] at h3 h4
  unfold Dg
  simp only [h3, h4, if_true, if_false, zaa, Kv, hq]
  try simp only [zbK]
 rw [e]
 refine As (nT h3) (Ai (Dm s2 (.here)) ?_)
 have e : Dg b m_ = b := by
  unfold Dg
  simp only [h3, if_true, if_false, zaa, Kv]
  try simp only [zbK]
 rw [e]
end
end Go.Proofs.YtlcpigdmekgajaaGreatDoor.Abs
