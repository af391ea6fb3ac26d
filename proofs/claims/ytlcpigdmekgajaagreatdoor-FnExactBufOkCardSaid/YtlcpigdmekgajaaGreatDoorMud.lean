/- What the proof needs, part 4: a sound evaluator over trees, the program's functions on it, and what they come to. -/
import Derived.Test.YtlcpigdmekgajaaGreatDoorMuc
import Derived.Laws.BitsLemmas
set_option linter.unusedVariables false
set_option linter.unusedSimpArgs false
set_option maxRecDepth 100000
set_option maxHeartbeats 32000000
namespace Go.Proofs.YtlcpigdmekgajaaGreatDoor.Abs
open _root_.Bool renaming false_eq_true → zaa, and_eq_true → zaf, not_true → zav, not_false → zaw, true_and → za1, false_or → za4, false_and → za5, and_true → zaC, true_or → zaI, or_eq_true → zaN, or_false → zaU, or_true → zbj
open _root_.Option renaming bind_some → zad
open _root_.ByteArray renaming size_append → zac, size_extract → zau, data_append → zbs, data_push → zbC
open _root_.List renaming length_append → zag, append_assoc → zah, replicate → zaj, nil_append → zak, length_singleton → zan, append_nil → zao, all_cons → zap, map_cons → zaq, length_cons → zar, length_nil → zat, mem_cons_of_mem → zay, mem_cons_self → zaz, cons_append → za0, map_append → za2, flatten_cons → za6, all_nil → za7, map_nil → zaD, mapM_cons → zaG, mem_append → zaR, take_of_length_le → zaV, foldl_cons → zbd, foldl_append → zbg, mem_singleton → zbk, getD_eq_getElem?_getD → zbq, foldl_nil → zbu, drop_drop → zbA
open _root_.Nat renaming le_refl → zam, zero_le → zax, le_trans → zaB, mul_one → zbt
open _root_.Array renaming ext' → zbe
open _root_.Int renaming tmod_eq_emod_of_nonneg → zaE, eq_ofNat_of_zero_le → zbm, toNat_natCast → zbz, add_comm → zbH
section
open Go
def B0 (w : WantV) : Bool := Cd w.fFilter && B6 w.fQos 0 2
def Bt (c : Int) : Bool := B6 c 0 2 || decide (c = 128)
def F9 (p : PacketV) : Bool := B6 (((p.fWants.length : Nat) : Int) + ((p.fNames.length : Nat) : Int) + ((p.fCodes.length : Nat) : Int)) 1 4
def Iu (p : PacketV) : Bool := p.fCodes.all Bt && F9 p
def Ib (p : PacketV) : Bool := p.fNames.all Cd && Iu p
def E5 (p : PacketV) : Bool := p.fWants.all B0 && Ib p
def Cc (p : PacketV) : Bool := (B6 p.fLevel 0 255 && (Bi p.fClient && (B6 p.fKeep 0 65535 && ((!p.fHasWill || (Dr p.fWTopic && (decide (((p.fWBody.size : Nat) : Int) ≤ 40) && B6 p.fWQos 0 2))) && (Bi p.fUser && decide (((p.fPass.size : Nat) : Int) ≤ 60))))))
def Bz (p : PacketV) : Bool :=
 if p.fType = 1 then Cc p
 else if p.fType = 2 then B6 p.fCode 0 5 && (!p.fPresent || decide (p.fCode = 0))
 else if p.fType = 3 then B6 p.fQos 0 2 && (Dr p.fTopic && (decide (((p.fBody.size : Nat) : Int) ≤ 40) && (decide (p.fQos = 0) || B6 p.fId 1 65535)))
 else if p.fType = 4 ∨ p.fType = 5 ∨ p.fType = 6 ∨ p.fType = 7 ∨ p.fType = 11 then B6 p.fId 1 65535
 else if p.fType = 8 ∨ p.fType = 9 ∨ p.fType = 10 then B6 p.fId 1 65535 && E5 p
 else true
def Ag (p : PacketV) : Bool := B6 p.fType 1 14 && (Cx p (Az false p) && Bz p)
structure Gx (p : PacketV) : Prop where
 t1 : p.fTopic.size ≤ 1048576
 t2 : p.fClient.size ≤ 1048576
 t3 : p.fWTopic.size ≤ 1048576
 t4 : p.fUser.size ≤ 1048576
 l1 : p.fWants.length ≤ 1048576
 l2 : p.fNames.length ≤ 1048576
 l3 : p.fCodes.length ≤ 1048576
 w1 : ∀ y ∈ p.fWants, y.fFilter.size ≤ 1048576
 w2 : ∀ y ∈ p.fNames, y.size ≤ 1048576
theorem Jt {s : ByteArray} (h : s.size ≤ 1048576) : okS s := by unfold okS; omega
theorem Hf (n : Nat) (i : Int) : Di E0 (n + 2) 4 109 [.sc (.int .i64 i)] = some (.sc (.bool (B6 i 1 65535))) := by
 rw [Be, AeT, f109]
 refine C7 (G := (· = some (sb (B6 i 1 65535)))) ?_
 try simp only [Fk]
 have s0 : Sep [] [] := C1
 refine Ar (v := (.bool (B6 i 1 65535))) s0 rfl (Lu .nil) (Hl n _ i 1 65535) (Ah rfl ?_)
 first | rfl | (simp_all; done)
theorem P1 (n : Nat) (i : Int) : Di E0 (n + 2) 4 107 [.sc (.int .i64 i)] = some (.sc (.bool (B6 i 0 2))) := by
 rw [Be, AeR, f107]
 refine C7 (G := (· = some (sb (B6 i 0 2)))) ?_
 try simp only [Fk]
 have s0 : Sep [] [] := C1
 refine Ar (v := (.bool (B6 i 0 2))) s0 rfl (Lu .nil) (Hl n _ i 0 2) (Ah rfl ?_)
 first | rfl | (simp_all; done)
theorem P2 (n : Nat) (i : Int) : Di E0 (n + 2) 4 118 [.sc (.int .i64 i)] = some (.sc (.bool (B6 i 0 65535))) := by
 rw [Be, AeZ, f118]
 refine C7 (G := (· = some (sb (B6 i 0 65535)))) ?_
 try simp only [Fk]
 have s0 : Sep [] [] := C1
 refine Ar (v := (.bool (B6 i 0 65535))) s0 rfl (Lu .nil) (Hl n _ i 0 65535) (Ah rfl ?_)
 first | rfl | (simp_all; done)
theorem Sq (n : Nat) (hn : 1048576 < n) (p : PacketV) (hp : Gx p) : Di E0 (n + 6) 4 106 [.agg (A0 p)] = some (.sc (.bool (Cc p))) := by
 rw [Be, AeQ, f106]
 refine C7 (G := (· = some (sb (Cc p)))) ?_
 try simp only [Fx, Bx, A9, A5, D8, Bg, Pr.gT, Pr.gF, Pr.hT, Pr.hF, Pr.kT, Pr.kF, Bv, B3]
 have s0 : Sep [] [] := C1
 refine Lg s0 (F4 (Dg _)) fun i1 H s2 => Ab (o' := 11) rfl (Aq (c := sb p.fHasWill) s2 (.here) rfl (C5 (Aa (p.fHasWill) (fun h3 => ?_) (fun h3 => ?_))))
 refine Af (nF h3) (Ab (o' := 12) rfl (Af (nF h3) (Aq (c := ss p.fWTopic) s2 (.here) rfl (Af (nF h3) (Ar (v := (.bool (Dr p.fWTopic))) s2 rfl (.cons .sc .nil) (Pc n (by omega) _ p.fWTopic hp.t3) (Af (nF h3) (Aa ((Dr p.fWTopic)) (fun h4 => ?_) (fun h4 => ?_))))))))
 refine Af h4 (Ab (o' := 13) rfl (Af h4 (Aq (c := Ai p.fWBody) s2 (.here) rfl (Af h4 (C4 (Af h4 (J2 (Af (nF h3) (B4 h4 (Af (nF h3) (Aa ((decide (((p.fWBody.size : Nat) : Int) ≤ 40))) (fun h5 => ?_) (fun h5 => ?_))))))))))))
 refine Af h5 (Ab (o' := 14) rfl (Af h5 (Aq (c := si p.fWQos) s2 (.here) rfl (Af h5 (Ar (v := (.bool (B6 p.fWQos 0 2))) s2 rfl (.cons .sc .nil) (P1 (n + 3) p.fWQos) (Af (nF h3) (B4 h5 (A6 (nF h3) (Ab (o' := 8) rfl (Aq (c := si p.fLevel) s2 (.here) rfl (Ar (v := (.bool (B6 p.fLevel 0 255))) s2 rfl (Lu .nil) (Hl (n + 4) _ p.fLevel 0 255) (Aa ((B6 p.fLevel 0 255)) (fun h6 => ?_) (fun h6 => ?_)))))))))))))
 refine Af h6 (Ab (o' := 7) rfl (Af h6 (Aq (c := ss p.fClient) s2 (.here) rfl (Af h6 (Mt rfl rfl (Hs _ p.fClient (Jt hp.t2)) (B4 h6 (Aa ((Bi p.fClient)) (fun h7 => ?_) (fun h7 => ?_))))))))
 refine Af h7 (Ab (o' := 10) rfl (Af h7 (Aq (c := si p.fKeep) s2 (.here) rfl (Af h7 (Ar (v := (.bool (B6 p.fKeep 0 65535))) s2 rfl (.cons .sc .nil) (P2 (n + 3) p.fKeep) (B4 h7 (Aa ((B6 p.fKeep 0 65535)) (fun h8 => ?_) (fun h8 => ?_))))))))
 refine Af h8 (B4 h8 (Aa ((B6 p.fWQos 0 2)) (fun h9 => ?_) (fun h9 => ?_)))
 refine Af h9 (Ab (o' := 17) rfl (Af h9 (Aq (c := ss p.fUser) s2 (.here) rfl (Af h9 (Mt rfl rfl (Hs _ p.fUser (Jt hp.t4)) (B4 h9 (Aa ((Bi p.fUser)) (fun h10 => ?_) (fun h10 => ?_))))))))
 refine Af h10 (Ab (o' := 19) rfl (Af h10 (Aq (c := Ai p.fPass) s2 (.here) rfl (Af h10 (C4 (Af h10 (J2 (B4 h10 (Ah rfl ?_)))))))))
 have e : Cc p = (decide (((p.fPass.size : Nat) : Int) ≤ 60)) := by
  unfold Cc
  simp only [h3, h4, h5, h6, h7, h8, h9, h10, Ay]
 ·rw [e]
  first | done | rfl
 refine Ac h10 (Ac h10 (Ac h10 (Ac h10 (A6 h10 (Ah rfl ?_)))))
 have e : Cc p = false := by
  unfold Cc
  simp only [h3, h4, h5, h6, h7, h8, h9, h10, Ay]
 ·rw [e]
  first | done | rfl
 refine Ac h9 (Ac h9 (Ac h9 (A6 h9 (Ac rfl (Ac rfl (Ac rfl (Ac rfl (A6 rfl (Ah rfl ?_)))))))))
 have e : Cc p = false := by
  unfold Cc
  simp only [h3, h4, h5, h6, h7, h8, h9, Ay]
 ·rw [e]
  first | done | rfl
 refine Ac h8 (A6 h8 (Ac rfl (Ac rfl (Ac rfl (A6 rfl (Ac rfl (Ac rfl (Ac rfl (Ac rfl (A6 rfl (Ah rfl ?_)))))))))))
 have e : Cc p = false := by
  unfold Cc
  simp only [h3, h4, h5, h6, h7, h8, Ay]
 ·rw [e]
  first | done | rfl
 refine Ac h7 (Ac h7 (Ac h7 (A6 h7 (Ac rfl (A6 rfl (Ac rfl (Ac rfl (Ac rfl (A6 rfl (Ac rfl (Ac rfl (Ac rfl (Ac rfl (A6 rfl (Ah rfl ?_)))))))))))))))
 have e : Cc p = false := by
  unfold Cc
  simp only [h3, h4, h5, h6, h7, Ay]
 ·rw [e]
  first | done | rfl
 refine Ac h6 (Ac h6 (Ac h6 (A6 h6 (Ac rfl (Ac rfl (Ac rfl (A6 rfl (Ac rfl (A6 rfl (Ac rfl (Ac rfl (Ac rfl (A6 rfl (Ac rfl (Ac rfl (Ac rfl (Ac rfl (A6 rfl (Ah rfl ?_)))))))))))))))))))
 have e : Cc p = false := by
  unfold Cc
  simp only [h3, h4, h5, h6, Ay]
 ·rw [e]
  first | done | rfl
 refine Ac h5 (Ac h5 (Ac h5 (Af (nF h3) (A6 h5 (A6 (nF h3) (Ab (o' := 8) rfl (Aq (c := si p.fLevel) s2 (.here) rfl (Ar (v := (.bool (B6 p.fLevel 0 255))) s2 rfl (Lu .nil) (Hl (n + 4) _ p.fLevel 0 255) (Aa ((B6 p.fLevel 0 255)) (fun h11 => ?_) (fun h11 => ?_))))))))))
 refine Af h11 (Ab (o' := 7) rfl (Af h11 (Aq (c := ss p.fClient) s2 (.here) rfl (Af h11 (Mt rfl rfl (Hs _ p.fClient (Jt hp.t2)) (B4 h11 (Aa ((Bi p.fClient)) (fun h12 => ?_) (fun h12 => ?_))))))))
 refine Af h12 (Ab (o' := 10) rfl (Af h12 (Aq (c := si p.fKeep) s2 (.here) rfl (Af h12 (Ar (v := (.bool (B6 p.fKeep 0 65535))) s2 rfl (.cons .sc .nil) (P2 (n + 3) p.fKeep) (B4 h12 (Aa ((B6 p.fKeep 0 65535)) (fun h13 => ?_) (fun h13 => ?_))))))))
 refine Af h13 (B4 h13 (Ac rfl (Ac rfl (Ac rfl (A6 rfl (Ac rfl (Ac rfl (Ac rfl (Ac rfl (A6 rfl (Ah rfl ?_)))))))))))
 have e : Cc p = false := by
  unfold Cc
  simp only [h3, h4, h5, h11, h12, h13, Ay]
 ·rw [e]
  first | done | rfl
 refine Ac h13 (A6 h13 (Ac rfl (Ac rfl (Ac rfl (A6 rfl (Ac rfl (Ac rfl (Ac rfl (Ac rfl (A6 rfl (Ah rfl ?_)))))))))))
 have e : Cc p = false := by
  unfold Cc
  simp only [h3, h4, h5, h11, h12, h13, Ay]
 ·rw [e]
  first | done | rfl
 refine Ac h12 (Ac h12 (Ac h12 (A6 h12 (Ac rfl (A6 rfl (Ac rfl (Ac rfl (Ac rfl (A6 rfl (Ac rfl (Ac rfl (Ac rfl (Ac rfl (A6 rfl (Ah rfl ?_)))))))))))))))
 have e : Cc p = false := by
  unfold Cc
  simp only [h3, h4, h5, h11, h12, Ay]
 ·rw [e]
  first | done | rfl
 refine Ac h11 (Ac h11 (Ac h11 (A6 h11 (Ac rfl (Ac rfl (Ac rfl (A6 rfl (Ac rfl (A6 rfl (Ac rfl (Ac rfl (Ac rfl (A6 rfl (Ac rfl (Ac rfl (Ac rfl (Ac rfl (A6 rfl (Ah rfl ?_)))))))))))))))))))
 have e : Cc p = false := by
  unfold Cc
  simp only [h3, h4, h5, h11, Ay]
 ·rw [e]
  first | done | rfl
 refine Ac h4 (Ac h4 (Ac h4 (Ac h4 (Af (nF h3) (A6 h4 (Af (nF h3) (Ac rfl (Ac rfl (Ac rfl (Af (nF h3) (A6 rfl (A6 (nF h3) (Ab (o' := 8) rfl (Aq (c := si p.fLevel) s2 (.here) rfl (Ar (v := (.bool (B6 p.fLevel 0 255))) s2 rfl (Lu .nil) (Hl (n + 4) _ p.fLevel 0 255) (Aa ((B6 p.fLevel 0 255)) (fun h14 => ?_) (fun h14 => ?_)))))))))))))))))
 refine Af h14 (Ab (o' := 7) rfl (Af h14 (Aq (c := ss p.fClient) s2 (.here) rfl (Af h14 (Mt rfl rfl (Hs _ p.fClient (Jt hp.t2)) (B4 h14 (Aa ((Bi p.fClient)) (fun h15 => ?_) (fun h15 => ?_))))))))
 refine Af h15 (Ab (o' := 10) rfl (Af h15 (Aq (c := si p.fKeep) s2 (.here) rfl (Af h15 (Ar (v := (.bool (B6 p.fKeep 0 65535))) s2 rfl (.cons .sc .nil) (P2 (n + 3) p.fKeep) (B4 h15 (Aa ((B6 p.fKeep 0 65535)) (fun h16 => ?_) (fun h16 => ?_))))))))
 refine Af h16 (B4 h16 (Ac rfl (Ac rfl (Ac rfl (A6 rfl (Ac rfl (Ac rfl (Ac rfl (Ac rfl (A6 rfl (Ah rfl ?_)))))))))))
 have e : Cc p = false := by
  unfold Cc
  simp only [h3, h4, h14, h15, h16, Ay]
 ·rw [e]
  first | done | rfl
 refine Ac h16 (A6 h16 (Ac rfl (Ac rfl (Ac rfl (A6 rfl (Ac rfl (Ac rfl (Ac rfl (Ac rfl (A6 rfl (Ah rfl ?_)))))))))))
 have e : Cc p = false := by
  unfold Cc
  simp only [h3, h4, h14, h15, h16, Ay]
 ·rw [e]
  first | done | rfl
 refine Ac h15 (Ac h15 (Ac h15 (A6 h15 (Ac rfl (A6 rfl (Ac rfl (Ac rfl (Ac rfl (A6 rfl (Ac rfl (Ac rfl (Ac rfl (Ac rfl (A6 rfl (Ah rfl ?_)))))))))))))))
 have e : Cc p = false := by
  unfold Cc
  simp only [h3, h4, h14, h15, Ay]
 ·rw [e]
  first | done | rfl
 refine Ac h14 (Ac h14 (Ac h14 (A6 h14 (Ac rfl (Ac rfl (Ac rfl (A6 rfl (Ac rfl (A6 rfl (Ac rfl (Ac rfl (Ac rfl (A6 rfl (Ac rfl (Ac rfl (Ac rfl (Ac rfl (A6 rfl (Ah rfl ?_)))))))))))))))))))
 have e : Cc p = false := by
  unfold Cc
  simp only [h3, h4, h14, Ay]
 ·rw [e]
  first | done | rfl
 refine Ac (nT h3) (Ac (nT h3) (Ac (nT h3) (Ac (nT h3) (D7 (D7 (D7 (D7 (Ac (nT h3) (Ac (nT h3) (D7 (D7 (D7 (Ac (nT h3) (B4 (nT h3) (Ab (o' := 8) rfl (Aq (c := si p.fLevel) s2 (.here) rfl (Ar (v := (.bool (B6 p.fLevel 0 255))) s2 rfl (Lu .nil) (Hl (n + 4) _ p.fLevel 0 255) (Aa ((B6 p.fLevel 0 255)) (fun h17 => ?_) (fun h17 => ?_)))))))))))))))))))
 refine Af h17 (Ab (o' := 7) rfl (Af h17 (Aq (c := ss p.fClient) s2 (.here) rfl (Af h17 (Mt rfl rfl (Hs _ p.fClient (Jt hp.t2)) (B4 h17 (Aa ((Bi p.fClient)) (fun h18 => ?_) (fun h18 => ?_))))))))
 refine Af h18 (Ab (o' := 10) rfl (Af h18 (Aq (c := si p.fKeep) s2 (.here) rfl (Af h18 (Ar (v := (.bool (B6 p.fKeep 0 65535))) s2 rfl (.cons .sc .nil) (P2 (n + 3) p.fKeep) (B4 h18 (Aa ((B6 p.fKeep 0 65535)) (fun h19 => ?_) (fun h19 => ?_))))))))
 refine Af h19 (B4 h19 (Af rfl (Ab (o' := 17) rfl (Af rfl (Aq (c := ss p.fUser) s2 (.here) rfl (Af rfl (Mt rfl rfl (Hs _ p.fUser (Jt hp.t4)) (B4 rfl (Aa ((Bi p.fUser)) (fun h20 => ?_) (fun h20 => ?_))))))))))
 refine Af h20 (Ab (o' := 19) rfl (Af h20 (Aq (c := Ai p.fPass) s2 (.here) rfl (Af h20 (C4 (Af h20 (J2 (B4 h20 (Ah rfl ?_)))))))))
 have e : Cc p = (decide (((p.fPass.size : Nat) : Int) ≤ 60)) := by
  unfold Cc
  simp only [h3, h17, h18, h19, h20, Ay]
 ·rw [e]
  first | done | rfl
 refine Ac h20 (Ac h20 (Ac h20 (Ac h20 (A6 h20 (Ah rfl ?_)))))
 have e : Cc p = false := by
  unfold Cc
  simp only [h3, h17, h18, h19, h20, Ay]
 ·rw [e]
  first | done | rfl
 refine Ac h19 (A6 h19 (Ac rfl (Ac rfl (Ac rfl (A6 rfl (Ac rfl (Ac rfl (Ac rfl (Ac rfl (A6 rfl (Ah rfl ?_)))))))))))
 have e : Cc p = false := by
  unfold Cc
  simp only [h3, h17, h18, h19, Ay]
 ·rw [e]
  first | done | rfl
 refine Ac h18 (Ac h18 (Ac h18 (A6 h18 (Ac rfl (A6 rfl (Ac rfl (Ac rfl (Ac rfl (A6 rfl (Ac rfl (Ac rfl (Ac rfl (Ac rfl (A6 rfl (Ah rfl ?_)))))))))))))))
 have e : Cc p = false := by
  unfold Cc
  simp only [h3, h17, h18, Ay]
 ·rw [e]
  first | done | rfl
 refine Ac h17 (Ac h17 (Ac h17 (A6 h17 (Ac rfl (Ac rfl (Ac rfl (A6 rfl (Ac rfl (A6 rfl (Ac rfl (Ac rfl (Ac rfl (A6 rfl (Ac rfl (Ac rfl (Ac rfl (Ac rfl (A6 rfl (Ah rfl ?_)))))))))))))))))))
 have e : Cc p = false := by
  unfold Cc
  simp only [h3, h17, Ay]
 ·rw [e]
  first | done | rfl
theorem Nw (n : Nat) (hn : 1048576 < n) (p : PacketV) (hp : Gx p)   : ∀ (t pre : List Int) (m : Nat) (i : Int) (i1 : Nat) (H : Ae), p.fCodes = pre ++ t → i = ((pre.length : Nat) : Int) → t.length < m → Sep H [.blk i1 (A0 p) true] → Gd (· = some (.sc (.bool (t.all Bt && F9 p)))) (Mm (PR (n + 6) AV) (n + 6) (fun x H => Bm A4 E0.tp 4 H x) m (.ptr i1 0) (E1 p.fCodes) (.sc (.int .i64 ((p.fCodes.length : Nat) : Int))) (.sc (.int .i64 i)) H)
 | [], pre, m + 1, i, i1, H, he, hi, hm, s0 => by
  obtain rfl : pre = p.fCodes := by simpa using he.symm
  have hl1 := hp.l1
  have hl2 := hp.l2
  have hl3 := hp.l3
  have hlen := hp.l3
  rw [Mm]
  try simp only [Bx, A9, A5, D8, Aw, Bg, Pr.gT, Pr.gF, Pr.hT, Pr.hF, Pr.kT, Pr.kF, Bv, B3, Bw]
  refine D4 (Ax (by simp [hi]) (Ab (o' := 22) rfl (Aq (c := Dk Cj p.fWants) s0 (.here) rfl (C4 (Ab (o' := 23) rfl (Aq (c := E3 p.fNames) s0 (.here) rfl (C4 (Ca (by omega) (by omega) (Ab (o' := 24) rfl (Aq (c := E1 p.fCodes) s0 (.here) rfl (C4 (Ca (by omega) (by omega) (Ar (v := (.bool (B6 ((((p.fWants.length : Nat) : Int) + ((p.fNames.length : Nat) : Int)) + ((p.fCodes.length : Nat) : Int)) 1 4))) s0 rfl (Lu .nil) (Hl (n + 5) _ ((((p.fWants.length : Nat) : Int) + ((p.fNames.length : Nat) : Int)) + ((p.fCodes.length : Nat) : Int)) 1 4) (Ah rfl ?_))))))))))))))
  have e : ([].all Bt && F9 p) = (B6 ((((p.fWants.length : Nat) : Int) + ((p.fNames.length : Nat) : Int)) + ((p.fCodes.length : Nat) : Int)) 1 4) := by
   simp only [zap, za7, B0, Bt, F9, Ay]
  ·rw [e]
   first | done | rfl
 | y :: t, pre, m + 1, i, i1, H, he, hi, hm, s0 => by
  have hlt : pre.length < p.fCodes.length := by rw [he]; simp
  have hl1 := hp.l1
  have hl2 := hp.l2
  have hl3 := hp.l3
  have hlen := hp.l3
  rw [Mm]
  try simp only [Bx, A9, A5, D8, Aw, Bg, Pr.gT, Pr.gF, Pr.hT, Pr.hF, Pr.kT, Pr.kF, Bv, B3, Bw]
  refine D4 (Au (by simp [hi]; omega) (Jf hi he (Fc (c := .sc (.int .i64 y)) rfl (Ar (v := (.bool (B6 y 0 2))) s0 rfl (.cons .sc .nil) (P1 (n + 4) y) (C5 (Aa ((B6 y 0 2)) (fun h201 => ?_) (fun h201 => ?_)))))))
  refine Ac (nF h201) (Ac (nF h201) (A6 (nF h201) (Ax rfl (Ca (by omega) (by omega) ?_))))
  have e202 : ((y :: t).all Bt && F9 p) = (t.all Bt && F9 p) := by
   simp only [zap, B0, Bt, h201, za1, zaC, za4, zaU, zaI, zbj, za5, zav, zaw]
  rw [e202]
  exact Nw n hn p hp   t (pre ++ [y]) m _ i1 _ (by rw [he]; simp) (by rw [hi]; simp) (by simpa using hm) (by simpa only [za2, zaq, zaD] using (s0.sel (.cons (.here) .nil)))
  refine Af (nT h201) (Af (nT h201) (Lh (B4 (nT h201) (Aa ((decide (y = 128))) (fun h203 => ?_) (fun h203 => ?_)))))
  refine Ax (nF h203) (Ca (by omega) (by omega) ?_)
  have e204 : ((y :: t).all Bt && F9 p) = (t.all Bt && F9 p) := by
   simp only [zap, B0, Bt, h201, h203, za1, zaC, za4, zaU, zaI, zbj, za5, zav, zaw]
  rw [e204]
  exact Nw n hn p hp   t (pre ++ [y]) m _ i1 _ (by rw [he]; simp) (by rw [hi]; simp) (by simpa using hm) (by simpa only [za2, zaq, zaD] using (s0.sel (.cons (.here) .nil)))
  refine Au (nT h203) (Ah rfl ?_)
  have e : ((y :: t).all Bt && F9 p) = false := by
   simp only [zap, za7, B0, Bt, F9, h201, h203, Ay]
  ·rw [e]
   first | done | rfl
theorem Rp (n : Nat) (hn : 1048576 < n) (p : PacketV) (hp : Gx p)   : ∀ (t pre : List ByteArray) (m : Nat) (i : Int) (i1 : Nat) (H : Ae), p.fNames = pre ++ t → i = ((pre.length : Nat) : Int) → t.length < m → Sep H [.blk i1 (A0 p) true] → Gd (· = some (.sc (.bool (t.all Cd && Iu p)))) (J9 (PR (n + 6) AV) (n + 6) (fun x H => Bm A4 E0.tp 4 H x) m (.ptr i1 0) (E3 p.fNames) (.sc (.int .i64 ((p.fNames.length : Nat) : Int))) (.sc (.int .i64 i)) H)
 | [], pre, m + 1, i, i1, H, he, hi, hm, s0 => by
  obtain rfl : pre = p.fNames := by simpa using he.symm
  have hl1 := hp.l1
  have hl2 := hp.l2
  have hl3 := hp.l3
  have hlen := hp.l2
  rw [J9]
  try simp only [Bx, A9, A5, D8, Aw, B3, Bw]
  refine D4 (Ax (by simp [hi]) (Ab (o' := 24) rfl (Aq (c := E1 p.fCodes) s0 (.here) rfl (C4 ?_))))
  rw [za7, za1]
  have hv : Iu p = (p.fCodes.all Bt && F9 p) := rfl
  rw [hv]
  exact Nw n hn p hp   p.fCodes [] _ 0 i1 _ rfl rfl (by omega) s0
 | y :: t, pre, m + 1, i, i1, H, he, hi, hm, s0 => by
  have hlt : pre.length < p.fNames.length := by rw [he]; simp
  have hl1 := hp.l1
  have hl2 := hp.l2
  have hl3 := hp.l3
  have hlen := hp.l2
  rw [J9]
  try simp only [Bx, A9, A5, D8, Aw, B3, Bw]
  refine D4 (Au (by simp [hi]; omega) (Md hi he (Fc (c := .sc (.string y)) rfl (Ar (v := (.bool (Cd y))) s0 rfl (.cons .sc .nil) (Rk n (by omega) y (hp.w2 y (by rw [he]; simp)) (Jt (hp.w2 y (by rw [he]; simp)))) (C5 (Aa ((Cd y)) (fun h201 => ?_) (fun h201 => ?_)))))))
  refine Ax (nF h201) (Ca (by omega) (by omega) ?_)
  have e202 : ((y :: t).all Cd && Iu p) = (t.all Cd && Iu p) := by
   simp only [zap, B0, Bt, h201, za1, zaC, za4, zaU, zaI, zbj, za5, zav, zaw]
  rw [e202]
  exact Rp n hn p hp   t (pre ++ [y]) m _ i1 _ (by rw [he]; simp) (by rw [hi]; simp) (by simpa using hm) (by simpa only [za2, zaq, zaD] using (s0.sel (.cons (.here) .nil)))
  refine Au (nT h201) (Ah rfl ?_)
  have e : ((y :: t).all Cd && Iu p) = false := by
   simp only [zap, za7, B0, Bt, F9, h201, Ay]
  ·rw [e]
   first | done | rfl
theorem Ro (n : Nat) (hn : 1048576 < n) (p : PacketV) (hp : Gx p)   : ∀ (t pre : List WantV) (m : Nat) (i : Int) (i1 : Nat) (H : Ae), p.fWants = pre ++ t → i = ((pre.length : Nat) : Int) → t.length < m → Sep H [.blk i1 (A0 p) true] → Gd (· = some (.sc (.bool (t.all B0 && Ib p)))) (J8 (PR (n + 6) AV) (n + 6) (fun x H => Bm A4 E0.tp 4 H x) m (.ptr i1 0) (Dk Cj p.fWants) (.sc (.int .i64 ((p.fWants.length : Nat) : Int))) (.sc (.int .i64 i)) H)
 | [], pre, m + 1, i, i1, H, he, hi, hm, s0 => by
  obtain rfl : pre = p.fWants := by simpa using he.symm
  have hl1 := hp.l1
  have hl2 := hp.l2
  have hl3 := hp.l3
  have hlen := hp.l1
  rw [J8]
  try simp only [Fk, Bx, A9, Dz, A5, D8, Aw, Bg, Pr.gT, Pr.gF, Pr.hT, Pr.hF, Pr.kT, Pr.kF, Bv, B3, Bw]
  refine D4 (Ax (by simp [hi]) (Ab (o' := 23) rfl (Aq (c := E3 p.fNames) s0 (.here) rfl (C4 ?_))))
  rw [za7, za1]
  have hv : Ib p = (p.fNames.all Cd && Iu p) := rfl
  rw [hv]
  exact Rp n hn p hp   p.fNames [] _ 0 i1 _ rfl rfl (by omega) s0
 | y :: t, pre, m + 1, i, i1, H, he, hi, hm, s0 => by
  have hlt : pre.length < p.fWants.length := by rw [he]; simp
  have hl1 := hp.l1
  have hl2 := hp.l2
  have hl3 := hp.l3
  have hlen := hp.l1
  rw [J8]
  try simp only [Fk, Bx, A9, Dz, A5, D8, Aw, Bg, Pr.gT, Pr.gF, Pr.hT, Pr.hF, Pr.kT, Pr.kF, Bv, B3, Bw]
  refine D4 (Au (by simp [hi]; omega) (Lm hi G1 (by decide) he (AgK (G1 _) (Hw s0 fun i201 H s202 => Cm (cs' := Cj y) s202 (.here) (F4 (Ad9 _)) rfl (Cr rfl) rfl fun H s203 => Ab (o' := 0) rfl (Aq (c := .sc (.string y.fFilter)) s203 (.here) rfl (Ar (v := (.bool (Cd y.fFilter))) s203 rfl (.cons .sc .nil) (Rk n (by omega) y.fFilter (hp.w1 y (by rw [he]; simp)) (Jt (hp.w1 y (by rw [he]; simp)))) (C5 (Aa ((Cd y.fFilter)) (fun h204 => ?_) (fun h204 => ?_)))))))))
  refine Af (nF h204) (Ab (o' := 1) rfl (Af (nF h204) (Aq (c := si y.fQos) s203 (.here) rfl (Af (nF h204) (Ar (v := (.bool (B6 y.fQos 0 2))) s203 rfl (.cons .sc .nil) (P1 (n + 4) y.fQos) (Af (nF h204) (C5 (A6 (nF h204) (Aa ((B6 y.fQos 0 2)) (fun h205 => ?_) (fun h205 => ?_))))))))))
  refine Ax (nF h205) (Ca (by omega) (by omega) ?_)
  have e206 : ((y :: t).all B0 && Ib p) = (t.all B0 && Ib p) := by
   simp only [zap, B0, Bt, h204, h205, za1, zaC, za4, zaU, zaI, zbj, za5, zav, zaw]
  rw [e206]
  exact Ro n hn p hp   t (pre ++ [y]) m _ i1 _ (by rw [he]; simp) (by rw [hi]; simp) (by simpa using hm) (by simpa only [za2, zaq, zaD] using (s203.sel (.cons C6 .nil)))
  refine Au (nT h205) (Ah rfl ?_)
  have e : ((y :: t).all B0 && Ib p) = false := by
   simp only [zap, za7, B0, Bt, F9, h204, h205, Ay]
  ·rw [e]
   first | done | rfl
  refine Ac (nT h204) (Ac (nT h204) (Ac (nT h204) (Ac (nT h204) (B4 (nT h204) (Au rfl (Ah rfl ?_))))))
  have e : ((y :: t).all B0 && Ib p) = false := by
   simp only [zap, za7, B0, Bt, F9, h204, Ay]
  ·rw [e]
   first | done | rfl
theorem L7 (n : Nat) (hn : 1048576 < n) (p : PacketV) (hp : Gx p) : Di E0 (n + 7) 4 110 [.agg (A0 p)] = some (.sc (.bool (E5 p))) := by
 rw [Be, AeU, f110]
 refine C7 (G := (· = some (sb (E5 p)))) ?_
 have hl1 := hp.l1
 have hl2 := hp.l2
 have hl3 := hp.l3
 try simp only [Fx, Bx, A9, B3]
 have s0 : Sep [] [] := C1
 refine Lg s0 (F4 (Dg _)) fun i1 H s2 => Ab (o' := 22) rfl (Aq (c := Dk Cj p.fWants) s2 (.here) rfl (C4 ?_))
 have hv : E5 p = (p.fWants.all B0 && Ib p) := rfl
 rw [hv]
 exact Ro n hn p hp   p.fWants [] _ 0 i1 _ rfl rfl (by omega) s2
theorem Qt (n : Nat) (hn : 1048576 < n) (p : PacketV) (hp : Gx p) : Di E0 (n + 10) 4 70 [.agg (A0 p)] = some (.sc (.bool (Ag p))) := by
 rw [Be, Ah2, f70]
 refine C7 (G := (· = some (sb (Ag p)))) ?_
 try simp only [Fx, Bx, A9, A5, D8, Aw, Bg, Pr.gT, Pr.gF, Pr.hT, Pr.hF, Pr.kT, Pr.kF, Bv, B3]
 have s0 : Sep [] [] := C1
 refine Lg s0 (F4 (Dg _)) fun i1 H s2 => Ab (o' := 0) rfl (Aq (c := si p.fType) s2 (.here) rfl (Ar (v := (.bool (B6 p.fType 1 14))) s2 rfl (Lu .nil) (Hl (n + 8) _ p.fType 1 14) (C5 (Aa ((B6 p.fType 1 14)) (fun h3 => ?_) (fun h3 => ?_)))))
 refine Af (nF h3) (Av s2 (.here) rfl (Gd.bothE ?_ ?_))
 refine Af (nF h3) (Av s2 (.here) rfl (Af (nF h3) (Ja rfl rfl (S8 (n + 8) (by omega) p s2 fun Rs4 H hRs4 s4 => Af (nF h3) (Ar (v := (.bool (Cx p (Az false p)))) s4 rfl (.aggF (Dg _) (.agg (hRs4 _) .nil)) (M8 (n + 7) (by omega) _ p (Az false p) hp.l1 hp.l2 hp.l3) (Af (nF h3) (C5 (A6 (nF h3) (Aa ((Cx p (Az false p))) (fun h5 => ?_) (fun h5 => ?_))))))))))
 refine Ax (nF h5) (Ab (o' := 0) rfl (Aq (c := si p.fType) s4 (.here) rfl (Bd (Aa ((decide (p.fType = 1))) (fun h6 => ?_) (fun h6 => ?_)))))
 refine Au h6 (Av s4 (.here) rfl (Ar (v := (.bool (Cc p))) s4 rfl (.aggF (Dg _) .nil) (Sq (n + 3) (by omega) p hp) (Ah rfl ?_)))
 have e : Ag p = (Cc p) := by
  clear s0 s2 s4
  try simp only [Cs] at h6
  unfold Ag Bz
  first | (simp only [h3, h5, Ay]; done) | (simp only [h3, h5, Ay]; simp [h6]; done) | (simp [h6]; done) | (simp only [h3, h5, Ay]; simp [h6]; omega)
 ·rw [e]
  first | done | rfl
 refine Ax h6 (Bd (Aa ((decide (p.fType = 2))) (fun h7 => ?_) (fun h7 => ?_)))
 refine Au h7 (Ab (o' := 20) rfl (Aq (c := si p.fCode) s4 (.here) rfl (Ar (v := (.bool (B6 p.fCode 0 5))) s4 rfl (Lu .nil) (Hl (n + 8) _ p.fCode 0 5) (Aa ((B6 p.fCode 0 5)) (fun h8 => ?_) (fun h8 => ?_)))))
 refine Af h8 (Ab (o' := 21) rfl (Af h8 (Aq (c := sb p.fPresent) s4 (.here) rfl (Af h8 (C5 (Af h8 (Aa (p.fPresent) (fun h9 => ?_) (fun h9 => ?_))))))))
 refine Af (nF h9) (Ab (o' := 20) rfl (Af (nF h9) (Aq (c := si p.fCode) s4 (.here) rfl (Af (nF h9) (Bd (Af h8 (A6 (nF h9) (B4 h8 (Ah rfl ?_)))))))))
 have e : Ag p = (decide (p.fCode = 0)) := by
  clear s0 s2 s4
  try simp only [Cs] at h6 h7
  unfold Ag Bz
  first | (simp only [h3, h5, h8, h9, Ay]; done) | (simp only [h3, h5, h8, h9, Ay]; simp [h6, h7]; done) | (simp [h6, h7]; done) | (simp only [h3, h5, h8, h9, Ay]; simp [h6, h7]; omega)
 ·rw [e]
  first | done | rfl
 refine Ac (nT h9) (Ac (nT h9) (Ac (nT h9) (Af h8 (B4 (nT h9) (B4 h8 (Ah rfl ?_))))))
 have e : Ag p = true := by
  clear s0 s2 s4
  try simp only [Cs] at h6 h7
  unfold Ag Bz
  first | (simp only [h3, h5, h8, h9, Ay]; done) | (simp only [h3, h5, h8, h9, Ay]; simp [h6, h7]; done) | (simp [h6, h7]; done) | (simp only [h3, h5, h8, h9, Ay]; simp [h6, h7]; omega)
 ·rw [e]
  first | done | rfl
 refine Ac h8 (Ac h8 (Ac h8 (Ac h8 (D7 (D7 (D7 (Ac h8 (A6 h8 (Ah rfl ?_)))))))))
 have e : Ag p = false := by
  clear s0 s2 s4
  try simp only [Cs] at h6 h7
  unfold Ag Bz
  first | (simp only [h3, h5, h8, Ay]; done) | (simp only [h3, h5, h8, Ay]; simp [h6, h7]; done) | (simp [h6, h7]; done) | (simp only [h3, h5, h8, Ay]; simp [h6, h7]; omega)
 ·rw [e]
  first | done | rfl
 refine Ax h7 (Bd (Aa ((decide (p.fType = 3))) (fun h10 => ?_) (fun h10 => ?_)))
 refine Au h10 (Ab (o' := 2) rfl (Aq (c := si p.fQos) s4 (.here) rfl (Ar (v := (.bool (B6 p.fQos 0 2))) s4 rfl (.cons .sc .nil) (P1 (n + 7) p.fQos) (Aa ((B6 p.fQos 0 2)) (fun h11 => ?_) (fun h11 => ?_)))))
 refine Af h11 (Ab (o' := 5) rfl (Af h11 (Aq (c := ss p.fTopic) s4 (.here) rfl (Af h11 (Ar (v := (.bool (Dr p.fTopic))) s4 rfl (.cons .sc .nil) (Pc (n + 4) (by omega) _ p.fTopic hp.t1) (B4 h11 (Aa ((Dr p.fTopic)) (fun h12 => ?_) (fun h12 => ?_))))))))
 refine Af h12 (Ab (o' := 6) rfl (Af h12 (Aq (c := Ai p.fBody) s4 (.here) rfl (Af h12 (C4 (Af h12 (J2 (B4 h12 (Aa ((decide (((p.fBody.size : Nat) : Int) ≤ 40))) (fun h13 => ?_) (fun h13 => ?_))))))))))
 refine Af h13 (Ab (o' := 2) rfl (Af h13 (Aq (c := si p.fQos) s4 (.here) rfl (Af h13 (Bd (Af h13 (Aa ((decide (p.fQos = 0))) (fun h14 => ?_) (fun h14 => ?_))))))))
 refine Ac h14 (Ac h14 (Ac h14 (Af h13 (B4 h14 (B4 h13 (Ah rfl ?_))))))
 have e : Ag p = true := by
  clear s0 s2 s4
  try simp only [Cs] at h6 h7 h10 h13 h14
  unfold Ag Bz
  first | (simp only [h3, h5, h11, h12, Ay]; done) | (simp only [h3, h5, h11, h12, Ay]; simp [h6, h7, h10, h13, h14]; done) | (simp [h6, h7, h10, h13, h14]; done) | (simp only [h3, h5, h11, h12, Ay]; simp [h6, h7, h10, h13, h14]; omega)
 ·rw [e]
  first | done | rfl
 refine Af h14 (Ab (o' := 4) rfl (Af h14 (Aq (c := si p.fId) s4 (.here) rfl (Af h14 (Ar (v := (.bool (B6 p.fId 1 65535))) s4 rfl (.cons .sc .nil) (Hf (n + 7) p.fId) (Af h13 (A6 h14 (B4 h13 (Ah rfl ?_)))))))))
 have e : Ag p = (B6 p.fId 1 65535) := by
  clear s0 s2 s4
  try simp only [Cs] at h6 h7 h10 h13 h14
  unfold Ag Bz
  first | (simp only [h3, h5, h11, h12, Ay]; done) | (simp only [h3, h5, h11, h12, Ay]; simp [h6, h7, h10, h13, h14]; done) | (simp [h6, h7, h10, h13, h14]; done) | (simp only [h3, h5, h11, h12, Ay]; simp [h6, h7, h10, h13, h14]; omega)
 ·rw [e]
  first | done | rfl
 refine Ac h13 (Ac h13 (Ac h13 (Ac h13 (D7 (D7 (D7 (Ac h13 (A6 h13 (Ah rfl ?_)))))))))
 have e : Ag p = false := by
  clear s0 s2 s4
  try simp only [Cs] at h6 h7 h10 h13
  unfold Ag Bz
  first | (simp only [h3, h5, h11, h12, Ay]; done) | (simp only [h3, h5, h11, h12, Ay]; simp [h6, h7, h10, h13]; done) | (simp [h6, h7, h10, h13]; done) | (simp only [h3, h5, h11, h12, Ay]; simp [h6, h7, h10, h13]; omega)
 ·rw [e]
  first | done | rfl
 refine Ac h12 (Ac h12 (Ac h12 (Ac h12 (A6 h12 (Ac rfl (Ac rfl (Ac rfl (Ac rfl (D7 (D7 (D7 (Ac rfl (A6 rfl (Ah rfl ?_))))))))))))))
 have e : Ag p = false := by
  clear s0 s2 s4
  try simp only [Cs] at h6 h7 h10
  unfold Ag Bz
  first | (simp only [h3, h5, h11, h12, Ay]; done) | (simp only [h3, h5, h11, h12, Ay]; simp [h6, h7, h10]; done) | (simp [h6, h7, h10]; done) | (simp only [h3, h5, h11, h12, Ay]; simp [h6, h7, h10]; omega)
 ·rw [e]
  first | done | rfl
 refine Ac h11 (Ac h11 (Ac h11 (A6 h11 (Ac rfl (Ac rfl (Ac rfl (Ac rfl (A6 rfl (Ac rfl (Ac rfl (Ac rfl (Ac rfl (D7 (D7 (D7 (Ac rfl (A6 rfl (Ah rfl ?_))))))))))))))))))
 have e : Ag p = false := by
  clear s0 s2 s4
  try simp only [Cs] at h6 h7 h10
  unfold Ag Bz
  first | (simp only [h3, h5, h11, Ay]; done) | (simp only [h3, h5, h11, Ay]; simp [h6, h7, h10]; done) | (simp [h6, h7, h10]; done) | (simp only [h3, h5, h11, Ay]; simp [h6, h7, h10]; omega)
 ·rw [e]
  first | done | rfl
 refine Ax h10 (Bd (Dn (Aa ((decide (p.fType = 4))) (fun h15 => ?_) (fun h15 => ?_))))
 refine Au h15 (Au h15 (Ab (o' := 4) rfl (Aq (c := si p.fId) s4 (.here) rfl (Ar (v := (.bool (B6 p.fId 1 65535))) s4 rfl (.cons .sc .nil) (Hf (n + 7) p.fId) (Ah rfl ?_)))))
 have e : Ag p = (B6 p.fId 1 65535) := by
  clear s0 s2 s4
  try simp only [Cs] at h6 h7 h10 h15
  unfold Ag Bz
  first | (simp only [h3, h5, Ay]; done) | (simp only [h3, h5, Ay]; simp [h6, h7, h10, h15]; done) | (simp [h6, h7, h10, h15]; done) | (simp only [h3, h5, Ay]; simp [h6, h7, h10, h15]; omega)
 ·rw [e]
  first | done | rfl
 refine Ax h15 (Bd (Aa ((decide (p.fType = 5))) (fun h16 => ?_) (fun h16 => ?_)))
 refine Au h16 (Au h16 (Ab (o' := 4) rfl (Aq (c := si p.fId) s4 (.here) rfl (Ar (v := (.bool (B6 p.fId 1 65535))) s4 rfl (.cons .sc .nil) (Hf (n + 7) p.fId) (Ah rfl ?_)))))
 have e : Ag p = (B6 p.fId 1 65535) := by
  clear s0 s2 s4
  try simp only [Cs] at h6 h7 h10 h15 h16
  unfold Ag Bz
  first | (simp only [h3, h5, Ay]; done) | (simp only [h3, h5, Ay]; simp [h6, h7, h10, h15, h16]; done) | (simp [h6, h7, h10, h15, h16]; done) | (simp only [h3, h5, Ay]; simp [h6, h7, h10, h15, h16]; omega)
 ·rw [e]
  first | done | rfl
 refine Ax h16 (Bd (Aa ((decide (p.fType = 6))) (fun h17 => ?_) (fun h17 => ?_)))
 refine Au h17 (Au h17 (Ab (o' := 4) rfl (Aq (c := si p.fId) s4 (.here) rfl (Ar (v := (.bool (B6 p.fId 1 65535))) s4 rfl (.cons .sc .nil) (Hf (n + 7) p.fId) (Ah rfl ?_)))))
 have e : Ag p = (B6 p.fId 1 65535) := by
  clear s0 s2 s4
  try simp only [Cs] at h6 h7 h10 h15 h16 h17
  unfold Ag Bz
  first | (simp only [h3, h5, Ay]; done) | (simp only [h3, h5, Ay]; simp [h6, h7, h10, h15, h16, h17]; done) | (simp [h6, h7, h10, h15, h16, h17]; done) | (simp only [h3, h5, Ay]; simp [h6, h7, h10, h15, h16, h17]; omega)
 ·rw [e]
  first | done | rfl
 refine Ax h17 (Bd (Aa ((decide (p.fType = 7))) (fun h18 => ?_) (fun h18 => ?_)))
 refine Au h18 (Au h18 (Ab (o' := 4) rfl (Aq (c := si p.fId) s4 (.here) rfl (Ar (v := (.bool (B6 p.fId 1 65535))) s4 rfl (.cons .sc .nil) (Hf (n + 7) p.fId) (Ah rfl ?_)))))
 have e : Ag p = (B6 p.fId 1 65535) := by
  clear s0 s2 s4
  try simp only [Cs] at h6 h7 h10 h15 h16 h17 h18
  unfold Ag Bz
  first | (simp only [h3, h5, Ay]; done) | (simp only [h3, h5, Ay]; simp [h6, h7, h10, h15, h16, h17, h18]; done) | (simp [h6, h7, h10, h15, h16, h17, h18]; done) | (simp only [h3, h5, Ay]; simp [h6, h7, h10, h15, h16, h17, h18]; omega)
 ·rw [e]
  first | done | rfl
 refine Ax h18 (Bd (Aa ((decide (p.fType = 11))) (fun h19 => ?_) (fun h19 => ?_)))
 refine Au h19 (Ab (o' := 4) rfl (Aq (c := si p.fId) s4 (.here) rfl (Ar (v := (.bool (B6 p.fId 1 65535))) s4 rfl (.cons .sc .nil) (Hf (n + 7) p.fId) (Ah rfl ?_))))
 have e : Ag p = (B6 p.fId 1 65535) := by
  clear s0 s2 s4
  try simp only [Cs] at h6 h7 h10 h15 h16 h17 h18 h19
  unfold Ag Bz
  first | (simp only [h3, h5, Ay]; done) | (simp only [h3, h5, Ay]; simp [h6, h7, h10, h15, h16, h17, h18, h19]; done) | (simp [h6, h7, h10, h15, h16, h17, h18, h19]; done) | (simp only [h3, h5, Ay]; simp [h6, h7, h10, h15, h16, h17, h18, h19]; omega)
 ·rw [e]
  first | done | rfl
 refine Ax h19 (Bd (Dn (Aa ((decide (p.fType = 8))) (fun h20 => ?_) (fun h20 => ?_))))
 refine Au h20 (Au h20 (Ab (o' := 4) rfl (Aq (c := si p.fId) s4 (.here) rfl (Ar (v := (.bool (B6 p.fId 1 65535))) s4 rfl (.cons .sc .nil) (Hf (n + 7) p.fId) (Aa ((B6 p.fId 1 65535)) (fun h21 => ?_) (fun h21 => ?_))))))
 refine Af h21 (Av s4 (.here) rfl (Af h21 (Ar (v := (.bool (E5 p))) s4 rfl (.aggF (Dg _) .nil) (L7 (n + 2) (by omega) p hp) (B4 h21 (Ah rfl ?_)))))
 have e : Ag p = (E5 p) := by
  clear s0 s2 s4
  try simp only [Cs] at h6 h7 h10 h15 h16 h17 h18 h19 h20
  unfold Ag Bz
  first | (simp only [h3, h5, h21, Ay]; done) | (simp only [h3, h5, h21, Ay]; simp [h6, h7, h10, h15, h16, h17, h18, h19, h20]; done) | (simp [h6, h7, h10, h15, h16, h17, h18, h19, h20]; done) | (simp only [h3, h5, h21, Ay]; simp [h6, h7, h10, h15, h16, h17, h18, h19, h20]; omega)
 ·rw [e]
  first | done | rfl
 refine Ac h21 (Ac h21 (A6 h21 (Ah rfl ?_)))
 have e : Ag p = false := by
  clear s0 s2 s4
  try simp only [Cs] at h6 h7 h10 h15 h16 h17 h18 h19 h20
  unfold Ag Bz
  first | (simp only [h3, h5, h21, Ay]; done) | (simp only [h3, h5, h21, Ay]; simp [h6, h7, h10, h15, h16, h17, h18, h19, h20]; done) | (simp [h6, h7, h10, h15, h16, h17, h18, h19, h20]; done) | (simp only [h3, h5, h21, Ay]; simp [h6, h7, h10, h15, h16, h17, h18, h19, h20]; omega)
 ·rw [e]
  first | done | rfl
 refine Ax h20 (Bd (Aa ((decide (p.fType = 9))) (fun h22 => ?_) (fun h22 => ?_)))
 refine Au h22 (Au h22 (Ab (o' := 4) rfl (Aq (c := si p.fId) s4 (.here) rfl (Ar (v := (.bool (B6 p.fId 1 65535))) s4 rfl (.cons .sc .nil) (Hf (n + 7) p.fId) (Aa ((B6 p.fId 1 65535)) (fun h23 => ?_) (fun h23 => ?_))))))
 refine Af h23 (Av s4 (.here) rfl (Af h23 (Ar (v := (.bool (E5 p))) s4 rfl (.aggF (Dg _) .nil) (L7 (n + 2) (by omega) p hp) (B4 h23 (Ah rfl ?_)))))
 have e : Ag p = (E5 p) := by
  clear s0 s2 s4
  try simp only [Cs] at h6 h7 h10 h15 h16 h17 h18 h19 h20 h22
  unfold Ag Bz
  first | (simp only [h3, h5, h23, Ay]; done) | (simp only [h3, h5, h23, Ay]; simp [h6, h7, h10, h15, h16, h17, h18, h19, h20, h22]; done) | (simp [h6, h7, h10, h15, h16, h17, h18, h19, h20, h22]; done) | (simp only [h3, h5, h23, Ay]; simp [h6, h7, h10, h15, h16, h17, h18, h19, h20, h22]; omega)
 ·rw [e]
  first | done | rfl
 refine Ac h23 (Ac h23 (A6 h23 (Ah rfl ?_)))
 have e : Ag p = false := by
  clear s0 s2 s4
  try simp only [Cs] at h6 h7 h10 h15 h16 h17 h18 h19 h20 h22
  unfold Ag Bz
  first | (simp only [h3, h5, h23, Ay]; done) | (simp only [h3, h5, h23, Ay]; simp [h6, h7, h10, h15, h16, h17, h18, h19, h20, h22]; done) | (simp [h6, h7, h10, h15, h16, h17, h18, h19, h20, h22]; done) | (simp only [h3, h5, h23, Ay]; simp [h6, h7, h10, h15, h16, h17, h18, h19, h20, h22]; omega)
 ·rw [e]
  first | done | rfl
 refine Ax h22 (Bd (Aa ((decide (p.fType = 10))) (fun h24 => ?_) (fun h24 => ?_)))
 refine Au h24 (Ab (o' := 4) rfl (Aq (c := si p.fId) s4 (.here) rfl (Ar (v := (.bool (B6 p.fId 1 65535))) s4 rfl (.cons .sc .nil) (Hf (n + 7) p.fId) (Aa ((B6 p.fId 1 65535)) (fun h25 => ?_) (fun h25 => ?_)))))
 refine Af h25 (Av s4 (.here) rfl (Af h25 (Ar (v := (.bool (E5 p))) s4 rfl (.aggF (Dg _) .nil) (L7 (n + 2) (by omega) p hp) (B4 h25 (Ah rfl ?_)))))
 have e : Ag p = (E5 p) := by
  clear s0 s2 s4
  try simp only [Cs] at h6 h7 h10 h15 h16 h17 h18 h19 h20 h22 h24
  unfold Ag Bz
  first | (simp only [h3, h5, h25, Ay]; done) | (simp only [h3, h5, h25, Ay]; simp [h6, h7, h10, h15, h16, h17, h18, h19, h20, h22, h24]; done) | (simp [h6, h7, h10, h15, h16, h17, h18, h19, h20, h22, h24]; done) | (simp only [h3, h5, h25, Ay]; simp [h6, h7, h10, h15, h16, h17, h18, h19, h20, h22, h24]; omega)
 ·rw [e]
  first | done | rfl
 refine Ac h25 (Ac h25 (A6 h25 (Ah rfl ?_)))
 have e : Ag p = false := by
  clear s0 s2 s4
  try simp only [Cs] at h6 h7 h10 h15 h16 h17 h18 h19 h20 h22 h24
  unfold Ag Bz
  first | (simp only [h3, h5, h25, Ay]; done) | (simp only [h3, h5, h25, Ay]; simp [h6, h7, h10, h15, h16, h17, h18, h19, h20, h22, h24]; done) | (simp [h6, h7, h10, h15, h16, h17, h18, h19, h20, h22, h24]; done) | (simp only [h3, h5, h25, Ay]; simp [h6, h7, h10, h15, h16, h17, h18, h19, h20, h22, h24]; omega)
 ·rw [e]
  first | done | rfl
 refine Ax h24 (Ah rfl ?_)
 have e : Ag p = true := by
  clear s0 s2 s4
  try simp only [Cs] at h6 h7 h10 h15 h16 h17 h18 h19 h20 h22 h24
  unfold Ag Bz
  first | (simp only [h3, h5, Ay]; done) | (simp only [h3, h5, Ay]; simp [h6, h7, h10, h15, h16, h17, h18, h19, h20, h22, h24]; done) | (simp [h6, h7, h10, h15, h16, h17, h18, h19, h20, h22, h24]; done) | (simp only [h3, h5, Ay]; simp [h6, h7, h10, h15, h16, h17, h18, h19, h20, h22, h24]; omega)
 ·rw [e]
  first | done | rfl
 refine Au (nT h5) (Ah rfl ?_)
 have e : Ag p = false := by
  clear s0 s2 s4
  unfold Ag Bz
  first | (simp only [h3, h5, Ay]; done) | (simp only [h3, h5, Ay]; simp; done) | (simp; done) | (simp only [h3, h5, Ay]; simp; omega)
 ·rw [e]
  first | done | rfl
 refine Af (nF h3) (Ja rfl rfl (S8 (n + 8) (by omega) p s2 fun Rs26 H hRs26 s26 => Af (nF h3) (Av s26 (.here) rfl (Af (nF h3) (Ar (v := (.bool (Cx p (Az false p)))) s26 rfl (.aggF (Dg _) (.agg (hRs26 _) .nil)) (M8 (n + 7) (by omega) _ p (Az false p) hp.l1 hp.l2 hp.l3) (Af (nF h3) (C5 (A6 (nF h3) (Aa ((Cx p (Az false p))) (fun h27 => ?_) (fun h27 => ?_))))))))))
 refine Ax (nF h27) (Ab (o' := 0) rfl (Aq (c := si p.fType) s26 (.here) rfl (Bd (Aa ((decide (p.fType = 1))) (fun h28 => ?_) (fun h28 => ?_)))))
 refine Au h28 (Av s26 (.here) rfl (Ar (v := (.bool (Cc p))) s26 rfl (.aggF (Dg _) .nil) (Sq (n + 3) (by omega) p hp) (Ah rfl ?_)))
 have e : Ag p = (Cc p) := by
  clear s0 s2 s26
  try simp only [Cs] at h28
  unfold Ag Bz
  first | (simp only [h3, h27, Ay]; done) | (simp only [h3, h27, Ay]; simp [h28]; done) | (simp [h28]; done) | (simp only [h3, h27, Ay]; simp [h28]; omega)
 ·rw [e]
  first | done | rfl
 refine Ax h28 (Bd (Aa ((decide (p.fType = 2))) (fun h29 => ?_) (fun h29 => ?_)))
 refine Au h29 (Ab (o' := 20) rfl (Aq (c := si p.fCode) s26 (.here) rfl (Ar (v := (.bool (B6 p.fCode 0 5))) s26 rfl (Lu .nil) (Hl (n + 8) _ p.fCode 0 5) (Aa ((B6 p.fCode 0 5)) (fun h30 => ?_) (fun h30 => ?_)))))
 refine Af h30 (Ab (o' := 21) rfl (Af h30 (Aq (c := sb p.fPresent) s26 (.here) rfl (Af h30 (C5 (Af h30 (Aa (p.fPresent) (fun h31 => ?_) (fun h31 => ?_))))))))
 refine Af (nF h31) (Ab (o' := 20) rfl (Af (nF h31) (Aq (c := si p.fCode) s26 (.here) rfl (Af (nF h31) (Bd (Af h30 (A6 (nF h31) (B4 h30 (Ah rfl ?_)))))))))
 have e : Ag p = (decide (p.fCode = 0)) := by
  clear s0 s2 s26
  try simp only [Cs] at h28 h29
  unfold Ag Bz
  first | (simp only [h3, h27, h30, h31, Ay]; done) | (simp only [h3, h27, h30, h31, Ay]; simp [h28, h29]; done) | (simp [h28, h29]; done) | (simp only [h3, h27, h30, h31, Ay]; simp [h28, h29]; omega)
 ·rw [e]
  first | done | rfl
 refine Ac (nT h31) (Ac (nT h31) (Ac (nT h31) (Af h30 (B4 (nT h31) (B4 h30 (Ah rfl ?_))))))
 have e : Ag p = true := by
  clear s0 s2 s26
  try simp only [Cs] at h28 h29
  unfold Ag Bz
  first | (simp only [h3, h27, h30, h31, Ay]; done) | (simp only [h3, h27, h30, h31, Ay]; simp [h28, h29]; done) | (simp [h28, h29]; done) | (simp only [h3, h27, h30, h31, Ay]; simp [h28, h29]; omega)
 ·rw [e]
  first | done | rfl
 refine Ac h30 (Ac h30 (Ac h30 (Ac h30 (D7 (D7 (D7 (Ac h30 (A6 h30 (Ah rfl ?_)))))))))
 have e : Ag p = false := by
  clear s0 s2 s26
  try simp only [Cs] at h28 h29
  unfold Ag Bz
  first | (simp only [h3, h27, h30, Ay]; done) | (simp only [h3, h27, h30, Ay]; simp [h28, h29]; done) | (simp [h28, h29]; done) | (simp only [h3, h27, h30, Ay]; simp [h28, h29]; omega)
 ·rw [e]
  first | done | rfl
 refine Ax h29 (Bd (Aa ((decide (p.fType = 3))) (fun h32 => ?_) (fun h32 => ?_)))
 refine Au h32 (Ab (o' := 2) rfl (Aq (c := si p.fQos) s26 (.here) rfl (Ar (v := (.bool (B6 p.fQos 0 2))) s26 rfl (.cons .sc .nil) (P1 (n + 7) p.fQos) (Aa ((B6 p.fQos 0 2)) (fun h33 => ?_) (fun h33 => ?_)))))
 refine Af h33 (Ab (o' := 5) rfl (Af h33 (Aq (c := ss p.fTopic) s26 (.here) rfl (Af h33 (Ar (v := (.bool (Dr p.fTopic))) s26 rfl (.cons .sc .nil) (Pc (n + 4) (by omega) _ p.fTopic hp.t1) (B4 h33 (Aa ((Dr p.fTopic)) (fun h34 => ?_) (fun h34 => ?_))))))))
 refine Af h34 (Ab (o' := 6) rfl (Af h34 (Aq (c := Ai p.fBody) s26 (.here) rfl (Af h34 (C4 (Af h34 (J2 (B4 h34 (Aa ((decide (((p.fBody.size : Nat) : Int) ≤ 40))) (fun h35 => ?_) (fun h35 => ?_))))))))))
 refine Af h35 (Ab (o' := 2) rfl (Af h35 (Aq (c := si p.fQos) s26 (.here) rfl (Af h35 (Bd (Af h35 (Aa ((decide (p.fQos = 0))) (fun h36 => ?_) (fun h36 => ?_))))))))
 refine Ac h36 (Ac h36 (Ac h36 (Af h35 (B4 h36 (B4 h35 (Ah rfl ?_))))))
 have e : Ag p = true := by
  clear s0 s2 s26
  try simp only [Cs] at h28 h29 h32 h35 h36
  unfold Ag Bz
  first | (simp only [h3, h27, h33, h34, Ay]; done) | (simp only [h3, h27, h33, h34, Ay]; simp [h28, h29, h32, h35, h36]; done) | (simp [h28, h29, h32, h35, h36]; done) | (simp only [h3, h27, h33, h34, Ay]; simp [h28, h29, h32, h35, h36]; omega)
 ·rw [e]
  first | done | rfl
 refine Af h36 (Ab (o' := 4) rfl (Af h36 (Aq (c := si p.fId) s26 (.here) rfl (Af h36 (Ar (v := (.bool (B6 p.fId 1 65535))) s26 rfl (.cons .sc .nil) (Hf (n + 7) p.fId) (Af h35 (A6 h36 (B4 h35 (Ah rfl ?_)))))))))
 have e : Ag p = (B6 p.fId 1 65535) := by
  clear s0 s2 s26
  try simp only [Cs] at h28 h29 h32 h35 h36
  unfold Ag Bz
  first | (simp only [h3, h27, h33, h34, Ay]; done) | (simp only [h3, h27, h33, h34, Ay]; simp [h28, h29, h32, h35, h36]; done) | (simp [h28, h29, h32, h35, h36]; done) | (simp only [h3, h27, h33, h34, Ay]; simp [h28, h29, h32, h35, h36]; omega)
 ·rw [e]
  first | done | rfl
 refine Ac h35 (Ac h35 (Ac h35 (Ac h35 (D7 (D7 (D7 (Ac h35 (A6 h35 (Ah rfl ?_)))))))))
 have e : Ag p = false := by
  clear s0 s2 s26
  try simp only [Cs] at h28 h29 h32 h35
  unfold Ag Bz
  first | (simp only [h3, h27, h33, h34, Ay]; done) | (simp only [h3, h27, h33, h34, Ay]; simp [h28, h29, h32, h35]; done) | (simp [h28, h29, h32, h35]; done) | (simp only [h3, h27, h33, h34, Ay]; simp [h28, h29, h32, h35]; omega)
 ·rw [e]
  first | done | rfl
 refine Ac h34 (Ac h34 (Ac h34 (Ac h34 (A6 h34 (Ac rfl (Ac rfl (Ac rfl (Ac rfl (D7 (D7 (D7 (Ac rfl (A6 rfl (Ah rfl ?_))))))))))))))
 have e : Ag p = false := by
  clear s0 s2 s26
  try simp only [Cs] at h28 h29 h32
  unfold Ag Bz
  first | (simp only [h3, h27, h33, h34, Ay]; done) | (simp only [h3, h27, h33, h34, Ay]; simp [h28, h29, h32]; done) | (simp [h28, h29, h32]; done) | (simp only [h3, h27, h33, h34, Ay]; simp [h28, h29, h32]; omega)
 ·rw [e]
  first | done | rfl
 refine Ac h33 (Ac h33 (Ac h33 (A6 h33 (Ac rfl (Ac rfl (Ac rfl (Ac rfl (A6 rfl (Ac rfl (Ac rfl (Ac rfl (Ac rfl (D7 (D7 (D7 (Ac rfl (A6 rfl (Ah rfl ?_))))))))))))))))))
 have e : Ag p = false := by
  clear s0 s2 s26
  try simp only [Cs] at h28 h29 h32
  unfold Ag Bz
  first | (simp only [h3, h27, h33, Ay]; done) | (simp only [h3, h27, h33, Ay]; simp [h28, h29, h32]; done) | (simp [h28, h29, h32]; done) | (simp only [h3, h27, h33, Ay]; simp [h28, h29, h32]; omega)
 ·rw [e]
  first | done | rfl
 refine Ax h32 (Bd (Dn (Aa ((decide (p.fType = 4))) (fun h37 => ?_) (fun h37 => ?_))))
 refine Au h37 (Au h37 (Ab (o' := 4) rfl (Aq (c := si p.fId) s26 (.here) rfl (Ar (v := (.bool (B6 p.fId 1 65535))) s26 rfl (.cons .sc .nil) (Hf (n + 7) p.fId) (Ah rfl ?_)))))
 have e : Ag p = (B6 p.fId 1 65535) := by
  clear s0 s2 s26
  try simp only [Cs] at h28 h29 h32 h37
  unfold Ag Bz
  first | (simp only [h3, h27, Ay]; done) | (simp only [h3, h27, Ay]; simp [h28, h29, h32, h37]; done) | (simp [h28, h29, h32, h37]; done) | (simp only [h3, h27, Ay]; simp [h28, h29, h32, h37]; omega)
 ·rw [e]
  first | done | rfl
 refine Ax h37 (Bd (Aa ((decide (p.fType = 5))) (fun h38 => ?_) (fun h38 => ?_)))
 refine Au h38 (Au h38 (Ab (o' := 4) rfl (Aq (c := si p.fId) s26 (.here) rfl (Ar (v := (.bool (B6 p.fId 1 65535))) s26 rfl (.cons .sc .nil) (Hf (n + 7) p.fId) (Ah rfl ?_)))))
 have e : Ag p = (B6 p.fId 1 65535) := by
  clear s0 s2 s26
  try simp only [Cs] at h28 h29 h32 h37 h38
  unfold Ag Bz
  first | (simp only [h3, h27, Ay]; done) | (simp only [h3, h27, Ay]; simp [h28, h29, h32, h37, h38]; done) | (simp [h28, h29, h32, h37, h38]; done) | (simp only [h3, h27, Ay]; simp [h28, h29, h32, h37, h38]; omega)
 ·rw [e]
  first | done | rfl
 refine Ax h38 (Bd (Aa ((decide (p.fType = 6))) (fun h39 => ?_) (fun h39 => ?_)))
 refine Au h39 (Au h39 (Ab (o' := 4) rfl (Aq (c := si p.fId) s26 (.here) rfl (Ar (v := (.bool (B6 p.fId 1 65535))) s26 rfl (.cons .sc .nil) (Hf (n + 7) p.fId) (Ah rfl ?_)))))
 have e : Ag p = (B6 p.fId 1 65535) := by
  clear s0 s2 s26
  try simp only [Cs] at h28 h29 h32 h37 h38 h39
  unfold Ag Bz
  first | (simp only [h3, h27, Ay]; done) | (simp only [h3, h27, Ay]; simp [h28, h29, h32, h37, h38, h39]; done) | (simp [h28, h29, h32, h37, h38, h39]; done) | (simp only [h3, h27, Ay]; simp [h28, h29, h32, h37, h38, h39]; omega)
 ·rw [e]
  first | done | rfl
 refine Ax h39 (Bd (Aa ((decide (p.fType = 7))) (fun h40 => ?_) (fun h40 => ?_)))
 refine Au h40 (Au h40 (Ab (o' := 4) rfl (Aq (c := si p.fId) s26 (.here) rfl (Ar (v := (.bool (B6 p.fId 1 65535))) s26 rfl (.cons .sc .nil) (Hf (n + 7) p.fId) (Ah rfl ?_)))))
 have e : Ag p = (B6 p.fId 1 65535) := by
  clear s0 s2 s26
  try simp only [Cs] at h28 h29 h32 h37 h38 h39 h40
  unfold Ag Bz
  first | (simp only [h3, h27, Ay]; done) | (simp only [h3, h27, Ay]; simp [h28, h29, h32, h37, h38, h39, h40]; done) | (simp [h28, h29, h32, h37, h38, h39, h40]; done) | (simp only [h3, h27, Ay]; simp [h28, h29, h32, h37, h38, h39, h40]; omega)
 ·rw [e]
  first | done | rfl
 refine Ax h40 (Bd (Aa ((decide (p.fType = 11))) (fun h41 => ?_) (fun h41 => ?_)))
 refine Au h41 (Ab (o' := 4) rfl (Aq (c := si p.fId) s26 (.here) rfl (Ar (v := (.bool (B6 p.fId 1 65535))) s26 rfl (.cons .sc .nil) (Hf (n + 7) p.fId) (Ah rfl ?_))))
 have e : Ag p = (B6 p.fId 1 65535) := by
  clear s0 s2 s26
  try simp only [Cs] at h28 h29 h32 h37 h38 h39 h40 h41
  unfold Ag Bz
  first | (simp only [h3, h27, Ay]; done) | (simp only [h3, h27, Ay]; simp [h28, h29, h32, h37, h38, h39, h40, h41]; done) | (simp [h28, h29, h32, h37, h38, h39, h40, h41]; done) | (simp only [h3, h27, Ay]; simp [h28, h29, h32, h37, h38, h39, h40, h41]; omega)
 ·rw [e]
  first | done | rfl
 refine Ax h41 (Bd (Dn (Aa ((decide (p.fType = 8))) (fun h42 => ?_) (fun h42 => ?_))))
 refine Au h42 (Au h42 (Ab (o' := 4) rfl (Aq (c := si p.fId) s26 (.here) rfl (Ar (v := (.bool (B6 p.fId 1 65535))) s26 rfl (.cons .sc .nil) (Hf (n + 7) p.fId) (Aa ((B6 p.fId 1 65535)) (fun h43 => ?_) (fun h43 => ?_))))))
 refine Af h43 (Av s26 (.here) rfl (Af h43 (Ar (v := (.bool (E5 p))) s26 rfl (.aggF (Dg _) .nil) (L7 (n + 2) (by omega) p hp) (B4 h43 (Ah rfl ?_)))))
 have e : Ag p = (E5 p) := by
  clear s0 s2 s26
  try simp only [Cs] at h28 h29 h32 h37 h38 h39 h40 h41 h42
  unfold Ag Bz
  first | (simp only [h3, h27, h43, Ay]; done) | (simp only [h3, h27, h43, Ay]; simp [h28, h29, h32, h37, h38, h39, h40, h41, h42]; done) | (simp [h28, h29, h32, h37, h38, h39, h40, h41, h42]; done) | (simp only [h3, h27, h43, Ay]; simp [h28, h29, h32, h37, h38, h39, h40, h41, h42]; omega)
 ·rw [e]
  first | done | rfl
 refine Ac h43 (Ac h43 (A6 h43 (Ah rfl ?_)))
 have e : Ag p = false := by
  clear s0 s2 s26
  try simp only [Cs] at h28 h29 h32 h37 h38 h39 h40 h41 h42
  unfold Ag Bz
  first | (simp only [h3, h27, h43, Ay]; done) | (simp only [h3, h27, h43, Ay]; simp [h28, h29, h32, h37, h38, h39, h40, h41, h42]; done) | (simp [h28, h29, h32, h37, h38, h39, h40, h41, h42]; done) | (simp only [h3, h27, h43, Ay]; simp [h28, h29, h32, h37, h38, h39, h40, h41, h42]; omega)
 ·rw [e]
  first | done | rfl
 refine Ax h42 (Bd (Aa ((decide (p.fType = 9))) (fun h44 => ?_) (fun h44 => ?_)))
 refine Au h44 (Au h44 (Ab (o' := 4) rfl (Aq (c := si p.fId) s26 (.here) rfl (Ar (v := (.bool (B6 p.fId 1 65535))) s26 rfl (.cons .sc .nil) (Hf (n + 7) p.fId) (Aa ((B6 p.fId 1 65535)) (fun h45 => ?_) (fun h45 => ?_))))))
 refine Af h45 (Av s26 (.here) rfl (Af h45 (Ar (v := (.bool (E5 p))) s26 rfl (.aggF (Dg _) .nil) (L7 (n + 2) (by omega) p hp) (B4 h45 (Ah rfl ?_)))))
 have e : Ag p = (E5 p) := by
  clear s0 s2 s26
  try simp only [Cs] at h28 h29 h32 h37 h38 h39 h40 h41 h42 h44
  unfold Ag Bz
  first | (simp only [h3, h27, h45, Ay]; done) | (simp only [h3, h27, h45, Ay]; simp [h28, h29, h32, h37, h38, h39, h40, h41, h42, h44]; done) | (simp [h28, h29, h32, h37, h38, h39, h40, h41, h42, h44]; done) | (simp only [h3, h27, h45, Ay]; simp [h28, h29, h32, h37, h38, h39, h40, h41, h42, h44]; omega)
 ·rw [e]
  first | done | rfl
 refine Ac h45 (Ac h45 (A6 h45 (Ah rfl ?_)))
 have e : Ag p = false := by
  clear s0 s2 s26
  try simp only [Cs] at h28 h29 h32 h37 h38 h39 h40 h41 h42 h44
  unfold Ag Bz
  first | (simp only [h3, h27, h45, Ay]; done) | (simp only [h3, h27, h45, Ay]; simp [h28, h29, h32, h37, h38, h39, h40, h41, h42, h44]; done) | (simp [h28, h29, h32, h37, h38, h39, h40, h41, h42, h44]; done) | (simp only [h3, h27, h45, Ay]; simp [h28, h29, h32, h37, h38, h39, h40, h41, h42, h44]; omega)
 ·rw [e]
  first | done | rfl
 refine Ax h44 (Bd (Aa ((decide (p.fType = 10))) (fun h46 => ?_) (fun h46 => ?_)))
 refine Au h46 (Ab (o' := 4) rfl (Aq (c := si p.fId) s26 (.here) rfl (Ar (v := (.bool (B6 p.fId 1 65535))) s26 rfl (.cons .sc .nil) (Hf (n + 7) p.fId) (Aa ((B6 p.fId 1 65535)) (fun h47 => ?_) (fun h47 => ?_)))))
 refine Af h47 (Av s26 (.here) rfl (Af h47 (Ar (v := (.bool (E5 p))) s26 rfl (.aggF (Dg _) .nil) (L7 (n + 2) (by omega) p hp) (B4 h47 (Ah rfl ?_)))))
 have e : Ag p = (E5 p) := by
  clear s0 s2 s26
  try simp only [Cs] at h28 h29 h32 h37 h38 h39 h40 h41 h42 h44 h46
  unfold Ag Bz
  first | (simp only [h3, h27, h47, Ay]; done) | (simp only [h3, h27, h47, Ay]; simp [h28, h29, h32, h37, h38, h39, h40, h41, h42, h44, h46]; done) | (simp [h28, h29, h32, h37, h38, h39, h40, h41, h42, h44, h46]; done) | (simp only [h3, h27, h47, Ay]; simp [h28, h29, h32, h37, h38, h39, h40, h41, h42, h44, h46]; omega)
 ·rw [e]
  first | done | rfl
 refine Ac h47 (Ac h47 (A6 h47 (Ah rfl ?_)))
 have e : Ag p = false := by
  clear s0 s2 s26
  try simp only [Cs] at h28 h29 h32 h37 h38 h39 h40 h41 h42 h44 h46
  unfold Ag Bz
  first | (simp only [h3, h27, h47, Ay]; done) | (simp only [h3, h27, h47, Ay]; simp [h28, h29, h32, h37, h38, h39, h40, h41, h42, h44, h46]; done) | (simp [h28, h29, h32, h37, h38, h39, h40, h41, h42, h44, h46]; done) | (simp only [h3, h27, h47, Ay]; simp [h28, h29, h32, h37, h38, h39, h40, h41, h42, h44, h46]; omega)
 ·rw [e]
  first | done | rfl
 refine Ax h46 (Ah rfl ?_)
 have e : Ag p = true := by
  clear s0 s2 s26
  try simp only [Cs] at h28 h29 h32 h37 h38 h39 h40 h41 h42 h44 h46
  unfold Ag Bz
  first | (simp only [h3, h27, Ay]; done) | (simp only [h3, h27, Ay]; simp [h28, h29, h32, h37, h38, h39, h40, h41, h42, h44, h46]; done) | (simp [h28, h29, h32, h37, h38, h39, h40, h41, h42, h44, h46]; done) | (simp only [h3, h27, Ay]; simp [h28, h29, h32, h37, h38, h39, h40, h41, h42, h44, h46]; omega)
 ·rw [e]
  first | done | rfl
 refine Au (nT h27) (Ah rfl ?_)
 have e : Ag p = false := by
  clear s0 s2 s26
  unfold Ag Bz
  first | (simp only [h3, h27, Ay]; done) | (simp only [h3, h27, Ay]; simp; done) | (simp; done) | (simp only [h3, h27, Ay]; simp; omega)
 ·rw [e]
  first | done | rfl
 refine Ac (nT h3) (Gd.bothE ?_ ?_)
 refine Ac (nT h3) (Ac (nT h3) (Ac (nT h3) (Ac (nT h3) (B4 (nT h3) (Au rfl (Ah rfl ?_))))))
 have e : Ag p = false := by
  clear s0 s2
  unfold Ag Bz
  first | (simp only [h3, Ay]; done) | (simp only [h3, Ay]; simp; done) | (simp; done) | (simp only [h3, Ay]; simp; omega)
 ·rw [e]
  first | done | rfl
 refine Ac (nT h3) (Ac (nT h3) (Ac (nT h3) (Ac (nT h3) (B4 (nT h3) (Au rfl (Ah rfl ?_))))))
 have e : Ag p = false := by
  clear s0 s2
  unfold Ag Bz
  first | (simp only [h3, Ay]; done) | (simp only [h3, Ay]; simp; done) | (simp; done) | (simp only [h3, Ay]; simp; omega)
 ·rw [e]
  first | done | rfl
def Co (p : PacketV) : Bool :=
 if p.fType = 1 then (if p.fHasWill = true ∧ ((Dr p.fWTopic && (decide (((p.fWBody.size : Nat) : Int) ≤ 40) && B6 p.fWQos 0 2)) = false) then false else (B6 p.fLevel 0 255 && (Bi p.fClient && (B6 p.fKeep 0 65535 && (Bi p.fUser && decide (((p.fPass.size : Nat) : Int) ≤ 60))))))
 else if p.fType = 2 then B6 p.fCode 0 5
 else if p.fType = 3 then (B6 p.fQos 0 2 && ((decide (p.fQos = 0) || B6 p.fId 1 65535) && (Dr p.fTopic && decide (((p.fBody.size : Nat) : Int) ≤ 40))))
 else if p.fType = 12 ∨ p.fType = 13 ∨ p.fType = 14 then true
 else if p.fType = 8 then (p.fWants.all B0 && (B6 p.fId 1 65535 && B6 ((p.fWants.length : Nat) : Int) 1 4))
 else if p.fType = 9 then (p.fCodes.all Bt && (B6 p.fId 1 65535 && B6 ((p.fCodes.length : Nat) : Int) 1 4))
 else if p.fType = 10 then (p.fNames.all Cd && (B6 p.fId 1 65535 && B6 ((p.fNames.length : Nat) : Int) 1 4))
 else B6 p.fId 1 65535
def Aj (p : PacketV) : Bool := B6 p.fType 1 14 && (Cx p (Az true p) && Co p)
theorem Qi (n : Nat) (hn : 1048576 < n) (p : PacketV) (hp : Gx p) (h3 : (B6 p.fType 1 14) = true) (h5 : (Cx p (Az true p)) = true) (h6 : (decide (p.fType = 1)) = false) (h19 : (decide (p.fType = 2)) = false) (h20 : (decide (p.fType = 3)) = false) (h26 : (decide (p.fType = 12)) = false) (h27 : (decide (p.fType = 13)) = false) (h28 : (decide (p.fType = 14)) = false) (h29 : (decide (p.fType = 8)) = true)  : ∀ (t pre : List WantV) (m : Nat) (i : Int) (i1 : Nat) (H : Ae), p.fWants = pre ++ t → i = ((pre.length : Nat) : Int) → t.length < m → Sep H [.blk i1 (A0 p) true] → Gd (· = some (.sc (.bool (t.all B0 && (B6 p.fId 1 65535 && B6 ((p.fWants.length : Nat) : Int) 1 4))))) (Kv (PR (n + 9) AV) (n + 9) (fun x H => Bm A4 E0.tp 4 H x) m (.ptr i1 0) (.sc (.bool (B6 p.fId 1 65535))) (.sc (.int .i64 i)) H)
 | [], pre, m + 1, i, i1, H, he, hi, hm, s0 => by
  obtain rfl : pre = p.fWants := by simpa using he.symm
  have hl1 := hp.l1
  have hl2 := hp.l2
  have hl3 := hp.l3
  have hlen := hp.l1
  rw [Kv]
  try simp only [Bx, A9, A5, D8, Aw, Bg, Pr.gT, Pr.gF, Pr.hT, Pr.hF, Pr.kT, Pr.kF, Bv, B3, Bw]
  refine Ab (o' := 22) rfl (Aq (c := Dk Cj p.fWants) s0 (.here) rfl (C4 (D4 (Ax (by simp [hi]) (Aa ((B6 p.fId 1 65535)) (fun h201 => ?_) (fun h201 => ?_))))))
  refine Af h201 (Ab (o' := 22) rfl (Af h201 (Aq (c := Dk Cj p.fWants) s0 (.here) rfl (Af h201 (C4 (Af h201 (Ar (v := (.bool (B6 ((p.fWants.length : Nat) : Int) 1 4))) s0 rfl (Lu .nil) (Gm (n + 8) _ ((p.fWants.length : Nat) : Int) 1 4) (B4 h201 (Ah rfl ?_)))))))))
  have e : ([].all B0 && (B6 p.fId 1 65535 && B6 ((p.fWants.length : Nat) : Int) 1 4)) = (B6 ((p.fWants.length : Nat) : Int) 1 4) := by
   simp only [zap, za7, B0, Bt, h3, h5, h6, h19, h20, h26, h27, h28, h29, h201, Ay]
  ·rw [e]
   first | done | rfl
  refine Ac h201 (Ac h201 (Ac h201 (Ac h201 (A6 h201 (Ah rfl ?_)))))
  have e : ([].all B0 && (B6 p.fId 1 65535 && B6 ((p.fWants.length : Nat) : Int) 1 4)) = false := by
   simp only [zap, za7, B0, Bt, h3, h5, h6, h19, h20, h26, h27, h28, h29, h201, Ay]
  ·rw [e]
   first | done | rfl
 | y :: t, pre, m + 1, i, i1, H, he, hi, hm, s0 => by
  have hlt : pre.length < p.fWants.length := by rw [he]; simp
  have hl1 := hp.l1
  have hl2 := hp.l2
  have hl3 := hp.l3
  have hlen := hp.l1
  rw [Kv]
  try simp only [Bx, A9, A5, D8, Aw, Bg, Pr.gT, Pr.gF, Pr.hT, Pr.hF, Pr.kT, Pr.kF, Bv, B3, Bw]
  refine Ab (o' := 22) rfl (Aq (c := Dk Cj p.fWants) s0 (.here) rfl (C4 (D4 (Au (by simp [hi]; omega) (Ab (o' := 22) rfl (Aq (c := Dk Cj p.fWants) s0 (.here) rfl (Lm hi G1 (by decide) he (Od (Fc (c := .sc (.string y.fFilter)) rfl (Ar (v := (.bool (Cd y.fFilter))) s0 rfl (.cons .sc .nil) (Li (n + 3) (by omega) y.fFilter (hp.w1 y (by rw [he]; simp)) (Jt (hp.w1 y (by rw [he]; simp)))) (C5 (Aa ((Cd y.fFilter)) (fun h201 => ?_) (fun h201 => ?_)))))))))))))
  refine Af (nF h201) (Ab (o' := 22) rfl (Af (nF h201) (Aq (c := Dk Cj p.fWants) s0 (.here) rfl (Af (nF h201) (Af (nF h201) (Lm hi G1 (by decide) he (Af (nF h201) (Od (Af (nF h201) (Fc (c := si y.fQos) rfl (Af (nF h201) (Ar (v := (.bool (B6 y.fQos 0 2))) s0 rfl (Lu .nil) (Gm (n + 8) _ y.fQos 0 2) (Af (nF h201) (C5 (A6 (nF h201) (Aa ((B6 y.fQos 0 2)) (fun h202 => ?_) (fun h202 => ?_)))))))))))))))))
  refine Ax (nF h202) (Ca (by omega) (by omega) ?_)
  have e203 : ((y :: t).all B0 && (B6 p.fId 1 65535 && B6 ((p.fWants.length : Nat) : Int) 1 4)) = (t.all B0 && (B6 p.fId 1 65535 && B6 ((p.fWants.length : Nat) : Int) 1 4)) := by
   simp only [zap, B0, Bt, h3, h5, h6, h19, h20, h26, h27, h28, h29, h201, h202, za1, zaC, za4, zaU, zaI, zbj, za5, zav, zaw]
  rw [e203]
  exact Qi n hn p hp h3 h5 h6 h19 h20 h26 h27 h28 h29  t (pre ++ [y]) m _ i1 _ (by rw [he]; simp) (by rw [hi]; simp) (by simpa using hm) (by simpa only [za2, zaq, zaD] using (s0.sel (.cons (.here) .nil)))
  refine Au (nT h202) (Ah rfl ?_)
  have e : ((y :: t).all B0 && (B6 p.fId 1 65535 && B6 ((p.fWants.length : Nat) : Int) 1 4)) = false := by
   simp only [zap, za7, B0, Bt, h3, h5, h6, h19, h20, h26, h27, h28, h29, h201, h202, Ay]
  ·rw [e]
   first | done | rfl
  refine Ac (nT h201) (Ac (nT h201) (Ac (nT h201) (Ac (nT h201) (Ac (nT h201) (Ac (nT h201) (Ac (nT h201) (Ac (nT h201) (B4 (nT h201) (Au rfl (Ah rfl ?_))))))))))
  have e : ((y :: t).all B0 && (B6 p.fId 1 65535 && B6 ((p.fWants.length : Nat) : Int) 1 4)) = false := by
   simp only [zap, za7, B0, Bt, h3, h5, h6, h19, h20, h26, h27, h28, h29, h201, Ay]
  ·rw [e]
   first | done | rfl
theorem M0 (n : Nat) (hn : 1048576 < n) (p : PacketV) (hp : Gx p) (h3 : (B6 p.fType 1 14) = true) (h5 : (Cx p (Az true p)) = true) (h6 : (decide (p.fType = 1)) = false) (h19 : (decide (p.fType = 2)) = false) (h20 : (decide (p.fType = 3)) = false) (h26 : (decide (p.fType = 12)) = false) (h27 : (decide (p.fType = 13)) = false) (h28 : (decide (p.fType = 14)) = false) (h29 : (decide (p.fType = 8)) = false) (h30 : (decide (p.fType = 9)) = true)  : ∀ (t pre : List Int) (m : Nat) (i : Int) (i1 : Nat) (H : Ae), p.fCodes = pre ++ t → i = ((pre.length : Nat) : Int) → t.length < m → Sep H [.blk i1 (A0 p) true] → Gd (· = some (.sc (.bool (t.all Bt && (B6 p.fId 1 65535 && B6 ((p.fCodes.length : Nat) : Int) 1 4))))) (Kw (PR (n + 9) AV) (n + 9) (fun x H => Bm A4 E0.tp 4 H x) m (.ptr i1 0) (.sc (.bool (B6 p.fId 1 65535))) (.sc (.int .i64 i)) H)
 | [], pre, m + 1, i, i1, H, he, hi, hm, s0 => by
  obtain rfl : pre = p.fCodes := by simpa using he.symm
  have hl1 := hp.l1
  have hl2 := hp.l2
  have hl3 := hp.l3
  have hlen := hp.l3
  rw [Kw]
  try simp only [Bx, A9, A5, D8, Aw, Bg, Pr.gT, Pr.gF, Pr.hT, Pr.hF, Pr.kT, Pr.kF, Bv, B3, Bw]
  refine Ab (o' := 24) rfl (Aq (c := E1 p.fCodes) s0 (.here) rfl (C4 (D4 (Ax (by simp [hi]) (Aa ((B6 p.fId 1 65535)) (fun h201 => ?_) (fun h201 => ?_))))))
  refine Af h201 (Ab (o' := 24) rfl (Af h201 (Aq (c := E1 p.fCodes) s0 (.here) rfl (Af h201 (C4 (Af h201 (Ar (v := (.bool (B6 ((p.fCodes.length : Nat) : Int) 1 4))) s0 rfl (Lu .nil) (Gm (n + 8) _ ((p.fCodes.length : Nat) : Int) 1 4) (B4 h201 (Ah rfl ?_)))))))))
  have e : ([].all Bt && (B6 p.fId 1 65535 && B6 ((p.fCodes.length : Nat) : Int) 1 4)) = (B6 ((p.fCodes.length : Nat) : Int) 1 4) := by
   simp only [zap, za7, B0, Bt, h3, h5, h6, h19, h20, h26, h27, h28, h29, h30, h201, Ay]
  ·rw [e]
   first | done | rfl
  refine Ac h201 (Ac h201 (Ac h201 (Ac h201 (A6 h201 (Ah rfl ?_)))))
  have e : ([].all Bt && (B6 p.fId 1 65535 && B6 ((p.fCodes.length : Nat) : Int) 1 4)) = false := by
   simp only [zap, za7, B0, Bt, h3, h5, h6, h19, h20, h26, h27, h28, h29, h30, h201, Ay]
  ·rw [e]
   first | done | rfl
 | y :: t, pre, m + 1, i, i1, H, he, hi, hm, s0 => by
  have hlt : pre.length < p.fCodes.length := by rw [he]; simp
  have hl1 := hp.l1
  have hl2 := hp.l2
  have hl3 := hp.l3
  have hlen := hp.l3
  rw [Kw]
  try simp only [Bx, A9, A5, D8, Aw, Bg, Pr.gT, Pr.gF, Pr.hT, Pr.hF, Pr.kT, Pr.kF, Bv, B3, Bw]
  refine Ab (o' := 24) rfl (Aq (c := E1 p.fCodes) s0 (.here) rfl (C4 (D4 (Au (by simp [hi]; omega) (Ab (o' := 24) rfl (Aq (c := E1 p.fCodes) s0 (.here) rfl (Jf hi he (Fc (c := .sc (.int .i64 y)) rfl (Ar (v := (.bool (B6 y 0 2))) s0 rfl (Lu .nil) (Gm (n + 8) _ y 0 2) (C5 (Aa ((B6 y 0 2)) (fun h201 => ?_) (fun h201 => ?_))))))))))))
  refine Ac (nF h201) (Ac (nF h201) (Ac (nF h201) (Ac (nF h201) (Ac (nF h201) (Ac (nF h201) (A6 (nF h201) (Ax rfl (Ca (by omega) (by omega) ?_))))))))
  have e202 : ((y :: t).all Bt && (B6 p.fId 1 65535 && B6 ((p.fCodes.length : Nat) : Int) 1 4)) = (t.all Bt && (B6 p.fId 1 65535 && B6 ((p.fCodes.length : Nat) : Int) 1 4)) := by
   simp only [zap, B0, Bt, h3, h5, h6, h19, h20, h26, h27, h28, h29, h30, h201, za1, zaC, za4, zaU, zaI, zbj, za5, zav, zaw]
  rw [e202]
  exact M0 n hn p hp h3 h5 h6 h19 h20 h26 h27 h28 h29 h30  t (pre ++ [y]) m _ i1 _ (by rw [he]; simp) (by rw [hi]; simp) (by simpa using hm) (by simpa only [za2, zaq, zaD] using (s0.sel (.cons (.here) .nil)))
  refine Af (nT h201) (Ab (o' := 24) rfl (Af (nT h201) (Aq (c := E1 p.fCodes) s0 (.here) rfl (Af (nT h201) (Af (nT h201) (Jf hi he (Af (nT h201) (Fc (c := si y) rfl (Af (nT h201) (Lh (B4 (nT h201) (Aa ((decide (y = 128))) (fun h203 => ?_) (fun h203 => ?_)))))))))))))
  refine Ax (nF h203) (Ca (by omega) (by omega) ?_)
  have e204 : ((y :: t).all Bt && (B6 p.fId 1 65535 && B6 ((p.fCodes.length : Nat) : Int) 1 4)) = (t.all Bt && (B6 p.fId 1 65535 && B6 ((p.fCodes.length : Nat) : Int) 1 4)) := by
   simp only [zap, B0, Bt, h3, h5, h6, h19, h20, h26, h27, h28, h29, h30, h201, h203, za1, zaC, za4, zaU, zaI, zbj, za5, zav, zaw]
  rw [e204]
  exact M0 n hn p hp h3 h5 h6 h19 h20 h26 h27 h28 h29 h30  t (pre ++ [y]) m _ i1 _ (by rw [he]; simp) (by rw [hi]; simp) (by simpa using hm) (by simpa only [za2, zaq, zaD] using (s0.sel (.cons (.here) .nil)))
  refine Au (nT h203) (Ah rfl ?_)
  have e : ((y :: t).all Bt && (B6 p.fId 1 65535 && B6 ((p.fCodes.length : Nat) : Int) 1 4)) = false := by
   simp only [zap, za7, B0, Bt, h3, h5, h6, h19, h20, h26, h27, h28, h29, h30, h201, h203, Ay]
  ·rw [e]
   first | done | rfl
theorem Qj (n : Nat) (hn : 1048576 < n) (p : PacketV) (hp : Gx p) (h3 : (B6 p.fType 1 14) = true) (h5 : (Cx p (Az true p)) = true) (h6 : (decide (p.fType = 1)) = false) (h19 : (decide (p.fType = 2)) = false) (h20 : (decide (p.fType = 3)) = false) (h26 : (decide (p.fType = 12)) = false) (h27 : (decide (p.fType = 13)) = false) (h28 : (decide (p.fType = 14)) = false) (h29 : (decide (p.fType = 8)) = false) (h30 : (decide (p.fType = 9)) = false) (h31 : (decide (p.fType = 10)) = true)  : ∀ (t pre : List ByteArray) (m : Nat) (i : Int) (i1 : Nat) (H : Ae), p.fNames = pre ++ t → i = ((pre.length : Nat) : Int) → t.length < m → Sep H [.blk i1 (A0 p) true] → Gd (· = some (.sc (.bool (t.all Cd && (B6 p.fId 1 65535 && B6 ((p.fNames.length : Nat) : Int) 1 4))))) (Kx (PR (n + 9) AV) (n + 9) (fun x H => Bm A4 E0.tp 4 H x) m (.ptr i1 0) (.sc (.bool (B6 p.fId 1 65535))) (.sc (.int .i64 i)) H)
 | [], pre, m + 1, i, i1, H, he, hi, hm, s0 => by
  obtain rfl : pre = p.fNames := by simpa using he.symm
  have hl1 := hp.l1
  have hl2 := hp.l2
  have hl3 := hp.l3
  have hlen := hp.l2
  rw [Kx]
  try simp only [Bx, A9, A5, D8, Aw, Bg, Pr.gT, Pr.gF, Pr.hT, Pr.hF, Pr.kT, Pr.kF, Bv, B3, Bw]
  refine Ab (o' := 23) rfl (Aq (c := E3 p.fNames) s0 (.here) rfl (C4 (D4 (Ax (by simp [hi]) (Aa ((B6 p.fId 1 65535)) (fun h201 => ?_) (fun h201 => ?_))))))
  refine Af h201 (Ab (o' := 23) rfl (Af h201 (Aq (c := E3 p.fNames) s0 (.here) rfl (Af h201 (C4 (Af h201 (Ar (v := (.bool (B6 ((p.fNames.length : Nat) : Int) 1 4))) s0 rfl (Lu .nil) (Gm (n + 8) _ ((p.fNames.length : Nat) : Int) 1 4) (B4 h201 (Ah rfl ?_)))))))))
  have e : ([].all Cd && (B6 p.fId 1 65535 && B6 ((p.fNames.length : Nat) : Int) 1 4)) = (B6 ((p.fNames.length : Nat) : Int) 1 4) := by
   simp only [zap, za7, B0, Bt, h3, h5, h6, h19, h20, h26, h27, h28, h29, h30, h31, h201, Ay]
  ·rw [e]
   first | done | rfl
  refine Ac h201 (Ac h201 (Ac h201 (Ac h201 (A6 h201 (Ah rfl ?_)))))
  have e : ([].all Cd && (B6 p.fId 1 65535 && B6 ((p.fNames.length : Nat) : Int) 1 4)) = false := by
   simp only [zap, za7, B0, Bt, h3, h5, h6, h19, h20, h26, h27, h28, h29, h30, h31, h201, Ay]
  ·rw [e]
   first | done | rfl
 | y :: t, pre, m + 1, i, i1, H, he, hi, hm, s0 => by
  have hlt : pre.length < p.fNames.length := by rw [he]; simp
  have hl1 := hp.l1
  have hl2 := hp.l2
  have hl3 := hp.l3
  have hlen := hp.l2
  rw [Kx]
  try simp only [Bx, A9, A5, D8, Aw, Bg, Pr.gT, Pr.gF, Pr.hT, Pr.hF, Pr.kT, Pr.kF, Bv, B3, Bw]
  refine Ab (o' := 23) rfl (Aq (c := E3 p.fNames) s0 (.here) rfl (C4 (D4 (Au (by simp [hi]; omega) (Ab (o' := 23) rfl (Aq (c := E3 p.fNames) s0 (.here) rfl (Md hi he (Fc (c := .sc (.string y)) rfl (Ar (v := (.bool (Cd y))) s0 rfl (.cons .sc .nil) (Li (n + 3) (by omega) y (hp.w2 y (by rw [he]; simp)) (Jt (hp.w2 y (by rw [he]; simp)))) (C5 (Aa ((Cd y)) (fun h201 => ?_) (fun h201 => ?_))))))))))))
  refine Ax (nF h201) (Ca (by omega) (by omega) ?_)
  have e202 : ((y :: t).all Cd && (B6 p.fId 1 65535 && B6 ((p.fNames.length : Nat) : Int) 1 4)) = (t.all Cd && (B6 p.fId 1 65535 && B6 ((p.fNames.length : Nat) : Int) 1 4)) := by
   simp only [zap, B0, Bt, h3, h5, h6, h19, h20, h26, h27, h28, h29, h30, h31, h201, za1, zaC, za4, zaU, zaI, zbj, za5, zav, zaw]
  rw [e202]
  exact Qj n hn p hp h3 h5 h6 h19 h20 h26 h27 h28 h29 h30 h31  t (pre ++ [y]) m _ i1 _ (by rw [he]; simp) (by rw [hi]; simp) (by simpa using hm) (by simpa only [za2, zaq, zaD] using (s0.sel (.cons (.here) .nil)))
  refine Au (nT h201) (Ah rfl ?_)
  have e : ((y :: t).all Cd && (B6 p.fId 1 65535 && B6 ((p.fNames.length : Nat) : Int) 1 4)) = false := by
   simp only [zap, za7, B0, Bt, h3, h5, h6, h19, h20, h26, h27, h28, h29, h30, h31, h201, Ay]
  ·rw [e]
   first | done | rfl
theorem Oz (n : Nat) (hn : 1048576 < n) (p : PacketV) (hp : Gx p) (h3 : (B6 p.fType 1 14) = true) (h33 : (Cx p (Az true p)) = true) (h34 : (decide (p.fType = 1)) = false) (h47 : (decide (p.fType = 2)) = false) (h48 : (decide (p.fType = 3)) = false) (h54 : (decide (p.fType = 12)) = false) (h55 : (decide (p.fType = 13)) = false) (h56 : (decide (p.fType = 14)) = false) (h57 : (decide (p.fType = 8)) = true)  : ∀ (t pre : List WantV) (m : Nat) (i : Int) (i1 : Nat) (H : Ae), p.fWants = pre ++ t → i = ((pre.length : Nat) : Int) → t.length < m → Sep H [.blk i1 (A0 p) true] → Gd (· = some (.sc (.bool (t.all B0 && (B6 p.fId 1 65535 && B6 ((p.fWants.length : Nat) : Int) 1 4))))) (Kv (PR (n + 9) AV) (n + 9) (fun x H => Bm A4 E0.tp 4 H x) m (.ptr i1 0) (.sc (.bool (B6 p.fId 1 65535))) (.sc (.int .i64 i)) H)
 | [], pre, m + 1, i, i1, H, he, hi, hm, s0 => by
  obtain rfl : pre = p.fWants := by simpa using he.symm
  have hl1 := hp.l1
  have hl2 := hp.l2
  have hl3 := hp.l3
  have hlen := hp.l1
  rw [Kv]
  try simp only [Bx, A9, A5, D8, Aw, Bg, Pr.gT, Pr.gF, Pr.hT, Pr.hF, Pr.kT, Pr.kF, Bv, B3, Bw]
  refine Ab (o' := 22) rfl (Aq (c := Dk Cj p.fWants) s0 (.here) rfl (C4 (D4 (Ax (by simp [hi]) (Aa ((B6 p.fId 1 65535)) (fun h201 => ?_) (fun h201 => ?_))))))
  refine Af h201 (Ab (o' := 22) rfl (Af h201 (Aq (c := Dk Cj p.fWants) s0 (.here) rfl (Af h201 (C4 (Af h201 (Ar (v := (.bool (B6 ((p.fWants.length : Nat) : Int) 1 4))) s0 rfl (Lu .nil) (Gm (n + 8) _ ((p.fWants.length : Nat) : Int) 1 4) (B4 h201 (Ah rfl ?_)))))))))
  have e : ([].all B0 && (B6 p.fId 1 65535 && B6 ((p.fWants.length : Nat) : Int) 1 4)) = (B6 ((p.fWants.length : Nat) : Int) 1 4) := by
   simp only [zap, za7, B0, Bt, h3, h33, h34, h47, h48, h54, h55, h56, h57, h201, Ay]
  ·rw [e]
   first | done | rfl
  refine Ac h201 (Ac h201 (Ac h201 (Ac h201 (A6 h201 (Ah rfl ?_)))))
  have e : ([].all B0 && (B6 p.fId 1 65535 && B6 ((p.fWants.length : Nat) : Int) 1 4)) = false := by
   simp only [zap, za7, B0, Bt, h3, h33, h34, h47, h48, h54, h55, h56, h57, h201, Ay]
  ·rw [e]
   first | done | rfl
 | y :: t, pre, m + 1, i, i1, H, he, hi, hm, s0 => by
  have hlt : pre.length < p.fWants.length := by rw [he]; simp
  have hl1 := hp.l1
  have hl2 := hp.l2
  have hl3 := hp.l3
  have hlen := hp.l1
  rw [Kv]
  try simp only [Bx, A9, A5, D8, Aw, Bg, Pr.gT, Pr.gF, Pr.hT, Pr.hF, Pr.kT, Pr.kF, Bv, B3, Bw]
  refine Ab (o' := 22) rfl (Aq (c := Dk Cj p.fWants) s0 (.here) rfl (C4 (D4 (Au (by simp [hi]; omega) (Ab (o' := 22) rfl (Aq (c := Dk Cj p.fWants) s0 (.here) rfl (Lm hi G1 (by decide) he (Od (Fc (c := .sc (.string y.fFilter)) rfl (Ar (v := (.bool (Cd y.fFilter))) s0 rfl (.cons .sc .nil) (Li (n + 3) (by omega) y.fFilter (hp.w1 y (by rw [he]; simp)) (Jt (hp.w1 y (by rw [he]; simp)))) (C5 (Aa ((Cd y.fFilter)) (fun h201 => ?_) (fun h201 => ?_)))))))))))))
  refine Af (nF h201) (Ab (o' := 22) rfl (Af (nF h201) (Aq (c := Dk Cj p.fWants) s0 (.here) rfl (Af (nF h201) (Af (nF h201) (Lm hi G1 (by decide) he (Af (nF h201) (Od (Af (nF h201) (Fc (c := si y.fQos) rfl (Af (nF h201) (Ar (v := (.bool (B6 y.fQos 0 2))) s0 rfl (Lu .nil) (Gm (n + 8) _ y.fQos 0 2) (Af (nF h201) (C5 (A6 (nF h201) (Aa ((B6 y.fQos 0 2)) (fun h202 => ?_) (fun h202 => ?_)))))))))))))))))
  refine Ax (nF h202) (Ca (by omega) (by omega) ?_)
  have e203 : ((y :: t).all B0 && (B6 p.fId 1 65535 && B6 ((p.fWants.length : Nat) : Int) 1 4)) = (t.all B0 && (B6 p.fId 1 65535 && B6 ((p.fWants.length : Nat) : Int) 1 4)) := by
   simp only [zap, B0, Bt, h3, h33, h34, h47, h48, h54, h55, h56, h57, h201, h202, za1, zaC, za4, zaU, zaI, zbj, za5, zav, zaw]
  rw [e203]
  exact Oz n hn p hp h3 h33 h34 h47 h48 h54 h55 h56 h57  t (pre ++ [y]) m _ i1 _ (by rw [he]; simp) (by rw [hi]; simp) (by simpa using hm) (by simpa only [za2, zaq, zaD] using (s0.sel (.cons (.here) .nil)))
  refine Au (nT h202) (Ah rfl ?_)
  have e : ((y :: t).all B0 && (B6 p.fId 1 65535 && B6 ((p.fWants.length : Nat) : Int) 1 4)) = false := by
   simp only [zap, za7, B0, Bt, h3, h33, h34, h47, h48, h54, h55, h56, h57, h201, h202, Ay]
  ·rw [e]
   first | done | rfl
  refine Ac (nT h201) (Ac (nT h201) (Ac (nT h201) (Ac (nT h201) (Ac (nT h201) (Ac (nT h201) (Ac (nT h201) (Ac (nT h201) (B4 (nT h201) (Au rfl (Ah rfl ?_))))))))))
  have e : ((y :: t).all B0 && (B6 p.fId 1 65535 && B6 ((p.fWants.length : Nat) : Int) 1 4)) = false := by
   simp only [zap, za7, B0, Bt, h3, h33, h34, h47, h48, h54, h55, h56, h57, h201, Ay]
  ·rw [e]
   first | done | rfl
theorem Lq (n : Nat) (hn : 1048576 < n) (p : PacketV) (hp : Gx p) (h3 : (B6 p.fType 1 14) = true) (h33 : (Cx p (Az true p)) = true) (h34 : (decide (p.fType = 1)) = false) (h47 : (decide (p.fType = 2)) = false) (h48 : (decide (p.fType = 3)) = false) (h54 : (decide (p.fType = 12)) = false) (h55 : (decide (p.fType = 13)) = false) (h56 : (decide (p.fType = 14)) = false) (h57 : (decide (p.fType = 8)) = false) (h58 : (decide (p.fType = 9)) = true)  : ∀ (t pre : List Int) (m : Nat) (i : Int) (i1 : Nat) (H : Ae), p.fCodes = pre ++ t → i = ((pre.length : Nat) : Int) → t.length < m → Sep H [.blk i1 (A0 p) true] → Gd (· = some (.sc (.bool (t.all Bt && (B6 p.fId 1 65535 && B6 ((p.fCodes.length : Nat) : Int) 1 4))))) (Kw (PR (n + 9) AV) (n + 9) (fun x H => Bm A4 E0.tp 4 H x) m (.ptr i1 0) (.sc (.bool (B6 p.fId 1 65535))) (.sc (.int .i64 i)) H)
 | [], pre, m + 1, i, i1, H, he, hi, hm, s0 => by
  obtain rfl : pre = p.fCodes := by simpa using he.symm
  have hl1 := hp.l1
  have hl2 := hp.l2
  have hl3 := hp.l3
  have hlen := hp.l3
  rw [Kw]
  try simp only [Bx, A9, A5, D8, Aw, Bg, Pr.gT, Pr.gF, Pr.hT, Pr.hF, Pr.kT, Pr.kF, Bv, B3, Bw]
  refine Ab (o' := 24) rfl (Aq (c := E1 p.fCodes) s0 (.here) rfl (C4 (D4 (Ax (by simp [hi]) (Aa ((B6 p.fId 1 65535)) (fun h201 => ?_) (fun h201 => ?_))))))
  refine Af h201 (Ab (o' := 24) rfl (Af h201 (Aq (c := E1 p.fCodes) s0 (.here) rfl (Af h201 (C4 (Af h201 (Ar (v := (.bool (B6 ((p.fCodes.length : Nat) : Int) 1 4))) s0 rfl (Lu .nil) (Gm (n + 8) _ ((p.fCodes.length : Nat) : Int) 1 4) (B4 h201 (Ah rfl ?_)))))))))
  have e : ([].all Bt && (B6 p.fId 1 65535 && B6 ((p.fCodes.length : Nat) : Int) 1 4)) = (B6 ((p.fCodes.length : Nat) : Int) 1 4) := by
   simp only [zap, za7, B0, Bt, h3, h33, h34, h47, h48, h54, h55, h56, h57, h58, h201, Ay]
  ·rw [e]
   first | done | rfl
  refine Ac h201 (Ac h201 (Ac h201 (Ac h201 (A6 h201 (Ah rfl ?_)))))
  have e : ([].all Bt && (B6 p.fId 1 65535 && B6 ((p.fCodes.length : Nat) : Int) 1 4)) = false := by
   simp only [zap, za7, B0, Bt, h3, h33, h34, h47, h48, h54, h55, h56, h57, h58, h201, Ay]
  ·rw [e]
   first | done | rfl
 | y :: t, pre, m + 1, i, i1, H, he, hi, hm, s0 => by
  have hlt : pre.length < p.fCodes.length := by rw [he]; simp
  have hl1 := hp.l1
  have hl2 := hp.l2
  have hl3 := hp.l3
  have hlen := hp.l3
  rw [Kw]
  try simp only [Bx, A9, A5, D8, Aw, Bg, Pr.gT, Pr.gF, Pr.hT, Pr.hF, Pr.kT, Pr.kF, Bv, B3, Bw]
  refine Ab (o' := 24) rfl (Aq (c := E1 p.fCodes) s0 (.here) rfl (C4 (D4 (Au (by simp [hi]; omega) (Ab (o' := 24) rfl (Aq (c := E1 p.fCodes) s0 (.here) rfl (Jf hi he (Fc (c := .sc (.int .i64 y)) rfl (Ar (v := (.bool (B6 y 0 2))) s0 rfl (Lu .nil) (Gm (n + 8) _ y 0 2) (C5 (Aa ((B6 y 0 2)) (fun h201 => ?_) (fun h201 => ?_))))))))))))
  refine Ac (nF h201) (Ac (nF h201) (Ac (nF h201) (Ac (nF h201) (Ac (nF h201) (Ac (nF h201) (A6 (nF h201) (Ax rfl (Ca (by omega) (by omega) ?_))))))))
  have e202 : ((y :: t).all Bt && (B6 p.fId 1 65535 && B6 ((p.fCodes.length : Nat) : Int) 1 4)) = (t.all Bt && (B6 p.fId 1 65535 && B6 ((p.fCodes.length : Nat) : Int) 1 4)) := by
   simp only [zap, B0, Bt, h3, h33, h34, h47, h48, h54, h55, h56, h57, h58, h201, za1, zaC, za4, zaU, zaI, zbj, za5, zav, zaw]
  rw [e202]
  exact Lq n hn p hp h3 h33 h34 h47 h48 h54 h55 h56 h57 h58  t (pre ++ [y]) m _ i1 _ (by rw [he]; simp) (by rw [hi]; simp) (by simpa using hm) (by simpa only [za2, zaq, zaD] using (s0.sel (.cons (.here) .nil)))
  refine Af (nT h201) (Ab (o' := 24) rfl (Af (nT h201) (Aq (c := E1 p.fCodes) s0 (.here) rfl (Af (nT h201) (Af (nT h201) (Jf hi he (Af (nT h201) (Fc (c := si y) rfl (Af (nT h201) (Lh (B4 (nT h201) (Aa ((decide (y = 128))) (fun h203 => ?_) (fun h203 => ?_)))))))))))))
  refine Ax (nF h203) (Ca (by omega) (by omega) ?_)
  have e204 : ((y :: t).all Bt && (B6 p.fId 1 65535 && B6 ((p.fCodes.length : Nat) : Int) 1 4)) = (t.all Bt && (B6 p.fId 1 65535 && B6 ((p.fCodes.length : Nat) : Int) 1 4)) := by
   simp only [zap, B0, Bt, h3, h33, h34, h47, h48, h54, h55, h56, h57, h58, h201, h203, za1, zaC, za4, zaU, zaI, zbj, za5, zav, zaw]
  rw [e204]
  exact Lq n hn p hp h3 h33 h34 h47 h48 h54 h55 h56 h57 h58  t (pre ++ [y]) m _ i1 _ (by rw [he]; simp) (by rw [hi]; simp) (by simpa using hm) (by simpa only [za2, zaq, zaD] using (s0.sel (.cons (.here) .nil)))
  refine Au (nT h203) (Ah rfl ?_)
  have e : ((y :: t).all Bt && (B6 p.fId 1 65535 && B6 ((p.fCodes.length : Nat) : Int) 1 4)) = false := by
   simp only [zap, za7, B0, Bt, h3, h33, h34, h47, h48, h54, h55, h56, h57, h58, h201, h203, Ay]
  ·rw [e]
   first | done | rfl
theorem O0 (n : Nat) (hn : 1048576 < n) (p : PacketV) (hp : Gx p) (h3 : (B6 p.fType 1 14) = true) (h33 : (Cx p (Az true p)) = true) (h34 : (decide (p.fType = 1)) = false) (h47 : (decide (p.fType = 2)) = false) (h48 : (decide (p.fType = 3)) = false) (h54 : (decide (p.fType = 12)) = false) (h55 : (decide (p.fType = 13)) = false) (h56 : (decide (p.fType = 14)) = false) (h57 : (decide (p.fType = 8)) = false) (h58 : (decide (p.fType = 9)) = false) (h59 : (decide (p.fType = 10)) = true)  : ∀ (t pre : List ByteArray) (m : Nat) (i : Int) (i1 : Nat) (H : Ae), p.fNames = pre ++ t → i = ((pre.length : Nat) : Int) → t.length < m → Sep H [.blk i1 (A0 p) true] → Gd (· = some (.sc (.bool (t.all Cd && (B6 p.fId 1 65535 && B6 ((p.fNames.length : Nat) : Int) 1 4))))) (Kx (PR (n + 9) AV) (n + 9) (fun x H => Bm A4 E0.tp 4 H x) m (.ptr i1 0) (.sc (.bool (B6 p.fId 1 65535))) (.sc (.int .i64 i)) H)
 | [], pre, m + 1, i, i1, H, he, hi, hm, s0 => by
  obtain rfl : pre = p.fNames := by simpa using he.symm
  have hl1 := hp.l1
  have hl2 := hp.l2
  have hl3 := hp.l3
  have hlen := hp.l2
  rw [Kx]
  try simp only [Bx, A9, A5, D8, Aw, Bg, Pr.gT, Pr.gF, Pr.hT, Pr.hF, Pr.kT, Pr.kF, Bv, B3, Bw]
  refine Ab (o' := 23) rfl (Aq (c := E3 p.fNames) s0 (.here) rfl (C4 (D4 (Ax (by simp [hi]) (Aa ((B6 p.fId 1 65535)) (fun h201 => ?_) (fun h201 => ?_))))))
  refine Af h201 (Ab (o' := 23) rfl (Af h201 (Aq (c := E3 p.fNames) s0 (.here) rfl (Af h201 (C4 (Af h201 (Ar (v := (.bool (B6 ((p.fNames.length : Nat) : Int) 1 4))) s0 rfl (Lu .nil) (Gm (n + 8) _ ((p.fNames.length : Nat) : Int) 1 4) (B4 h201 (Ah rfl ?_)))))))))
  have e : ([].all Cd && (B6 p.fId 1 65535 && B6 ((p.fNames.length : Nat) : Int) 1 4)) = (B6 ((p.fNames.length : Nat) : Int) 1 4) := by
   simp only [zap, za7, B0, Bt, h3, h33, h34, h47, h48, h54, h55, h56, h57, h58, h59, h201, Ay]
  ·rw [e]
   first | done | rfl
  refine Ac h201 (Ac h201 (Ac h201 (Ac h201 (A6 h201 (Ah rfl ?_)))))
  have e : ([].all Cd && (B6 p.fId 1 65535 && B6 ((p.fNames.length : Nat) : Int) 1 4)) = false := by
   simp only [zap, za7, B0, Bt, h3, h33, h34, h47, h48, h54, h55, h56, h57, h58, h59, h201, Ay]
  ·rw [e]
   first | done | rfl
 | y :: t, pre, m + 1, i, i1, H, he, hi, hm, s0 => by
  have hlt : pre.length < p.fNames.length := by rw [he]; simp
  have hl1 := hp.l1
  have hl2 := hp.l2
  have hl3 := hp.l3
  have hlen := hp.l2
  rw [Kx]
  try simp only [Bx, A9, A5, D8, Aw, Bg, Pr.gT, Pr.gF, Pr.hT, Pr.hF, Pr.kT, Pr.kF, Bv, B3, Bw]
  refine Ab (o' := 23) rfl (Aq (c := E3 p.fNames) s0 (.here) rfl (C4 (D4 (Au (by simp [hi]; omega) (Ab (o' := 23) rfl (Aq (c := E3 p.fNames) s0 (.here) rfl (Md hi he (Fc (c := .sc (.string y)) rfl (Ar (v := (.bool (Cd y))) s0 rfl (.cons .sc .nil) (Li (n + 3) (by omega) y (hp.w2 y (by rw [he]; simp)) (Jt (hp.w2 y (by rw [he]; simp)))) (C5 (Aa ((Cd y)) (fun h201 => ?_) (fun h201 => ?_))))))))))))
  refine Ax (nF h201) (Ca (by omega) (by omega) ?_)
  have e202 : ((y :: t).all Cd && (B6 p.fId 1 65535 && B6 ((p.fNames.length : Nat) : Int) 1 4)) = (t.all Cd && (B6 p.fId 1 65535 && B6 ((p.fNames.length : Nat) : Int) 1 4)) := by
   simp only [zap, B0, Bt, h3, h33, h34, h47, h48, h54, h55, h56, h57, h58, h59, h201, za1, zaC, za4, zaU, zaI, zbj, za5, zav, zaw]
  rw [e202]
  exact O0 n hn p hp h3 h33 h34 h47 h48 h54 h55 h56 h57 h58 h59  t (pre ++ [y]) m _ i1 _ (by rw [he]; simp) (by rw [hi]; simp) (by simpa using hm) (by simpa only [za2, zaq, zaD] using (s0.sel (.cons (.here) .nil)))
  refine Au (nT h201) (Ah rfl ?_)
  have e : ((y :: t).all Cd && (B6 p.fId 1 65535 && B6 ((p.fNames.length : Nat) : Int) 1 4)) = false := by
   simp only [zap, za7, B0, Bt, h3, h33, h34, h47, h48, h54, h55, h56, h57, h58, h59, h201, Ay]
  ·rw [e]
   first | done | rfl
theorem Aci (n : Nat) (hn : 1048576 < n) (p : PacketV) (hp : Gx p) : Di E0 (n + 10) 4 64 [.agg (A0 p)] = some (.sc (.bool (Aj p))) := by
 rw [Be, Ahw, f64]
 refine C7 (G := (· = some (sb (Aj p)))) ?_
 have hl1 := hp.l1
 have hl2 := hp.l2
 have hl3 := hp.l3
 try simp only [Fx, Bx, A9, A5, D8, Aw, Bg, Pr.gT, Pr.gF, Pr.hT, Pr.hF, Pr.kT, Pr.kF, Bv, B3]
 have s0 : Sep [] [] := C1
 refine Lg s0 (F4 (Dg _)) fun i1 H s2 => Ab (o' := 0) rfl (Aq (c := si p.fType) s2 (.here) rfl (Ar (v := (.bool (B6 p.fType 1 14))) s2 rfl (Lu .nil) (Gm (n + 8) _ p.fType 1 14) (C5 (Aa ((B6 p.fType 1 14)) (fun h3 => ?_) (fun h3 => ?_)))))
 refine Af (nF h3) (Av s2 (.here) rfl (Gd.bothE ?_ ?_))
 refine Af (nF h3) (Av s2 (.here) rfl (Af (nF h3) (Ja rfl rfl (T1 (n + 8) (by omega) p s2 fun Rs4 H hRs4 s4 => Af (nF h3) (Ar (v := (.bool (Cx p (Az true p)))) s4 rfl (.aggF (Dg _) (.agg (hRs4 _) .nil)) (Nb (n + 7) (by omega) _ p (Az true p) hp.l1 hp.l2 hp.l3) (Af (nF h3) (C5 (A6 (nF h3) (Aa ((Cx p (Az true p))) (fun h5 => ?_) (fun h5 => ?_))))))))))
 refine Ax (nF h5) (Ab (o' := 4) rfl (Aq (c := si p.fId) s4 (.here) rfl (Ar (v := (.bool (B6 p.fId 1 65535))) s4 rfl (Lu .nil) (Gm (n + 8) _ p.fId 1 65535) (Ab (o' := 0) rfl (Aq (c := si p.fType) s4 (.here) rfl (Bd (Aa ((decide (p.fType = 1))) (fun h6 => ?_) (fun h6 => ?_))))))))
 refine Au h6 (Ab (o' := 11) rfl (Aq (c := sb p.fHasWill) s4 (.here) rfl (Aa (p.fHasWill) (fun h7 => ?_) (fun h7 => ?_))))
 refine Af h7 (Ab (o' := 12) rfl (Af h7 (Aq (c := ss p.fWTopic) s4 (.here) rfl (Af h7 (Ar (v := (.bool (Dr p.fWTopic))) s4 rfl (.cons .sc .nil) (Jh (n + 4) (by omega) _ p.fWTopic hp.t3) (Af h7 (C5 (Af h7 (Aa ((Dr p.fWTopic)) (fun h8 => ?_) (fun h8 => ?_))))))))))
 refine Af (nF h8) (Ab (o' := 13) rfl (Af (nF h8) (Aq (c := Ai p.fWBody) s4 (.here) rfl (Af (nF h8) (C4 (Af (nF h8) (Eo (Af h7 (A6 (nF h8) (Af h7 (Aa ((decide (40 < ((p.fWBody.size : Nat) : Int)))) (fun h9 => ?_) (fun h9 => ?_))))))))))))
 refine Ac h9 (Ac h9 (Ac h9 (Ac h9 (Af h7 (B4 h9 (B4 h7 (Au rfl (Ah rfl ?_))))))))
 have e : Aj p = false := by
  clear s0 s2 s4
  try simp only [Cs] at h6 h9
  unfold Aj Co
  first | (simp only [h3, h5, h7, h8, Ay]; done) | (simp only [h3, h5, h7, h8, Ay]; simp [h6, h9]; done) | (simp [h6, h9]; done) | (simp only [h3, h5, h7, h8, Ay]; simp [h6, h9]; omega)
 ·rw [e]
  first | done | rfl
 refine Af h9 (Ab (o' := 14) rfl (Af h9 (Aq (c := si p.fWQos) s4 (.here) rfl (Af h9 (Ar (v := (.bool (B6 p.fWQos 0 2))) s4 rfl (Lu .nil) (Gm (n + 8) _ p.fWQos 0 2) (Af h9 (C5 (Af h7 (A6 h9 (B4 h7 (Aa ((B6 p.fWQos 0 2)) (fun h10 => ?_) (fun h10 => ?_))))))))))))
 refine Ax (nF h10) (Ab (o' := 8) rfl (Aq (c := si p.fLevel) s4 (.here) rfl (Ar (v := (.bool (B6 p.fLevel 0 255))) s4 rfl (Lu .nil) (Gm (n + 8) _ p.fLevel 0 255) (Aa ((B6 p.fLevel 0 255)) (fun h11 => ?_) (fun h11 => ?_)))))
 refine Af h11 (Ab (o' := 7) rfl (Af h11 (Aq (c := ss p.fClient) s4 (.here) rfl (Af h11 (Ar (v := (.bool (Bi p.fClient))) s4 rfl (.cons .sc .nil) (Gc (n + 5) (by omega) _ p.fClient) (B4 h11 (Aa ((Bi p.fClient)) (fun h12 => ?_) (fun h12 => ?_))))))))
 refine Af h12 (Ab (o' := 10) rfl (Af h12 (Aq (c := si p.fKeep) s4 (.here) rfl (Af h12 (Ar (v := (.bool (B6 p.fKeep 0 65535))) s4 rfl (Lu .nil) (Gm (n + 8) _ p.fKeep 0 65535) (B4 h12 (Aa ((B6 p.fKeep 0 65535)) (fun h13 => ?_) (fun h13 => ?_))))))))
 refine Af h13 (Ab (o' := 17) rfl (Af h13 (Aq (c := ss p.fUser) s4 (.here) rfl (Af h13 (Ar (v := (.bool (Bi p.fUser))) s4 rfl (.cons .sc .nil) (Gc (n + 5) (by omega) _ p.fUser) (B4 h13 (Aa ((Bi p.fUser)) (fun h14 => ?_) (fun h14 => ?_))))))))
 refine Af h14 (Ab (o' := 19) rfl (Af h14 (Aq (c := Ai p.fPass) s4 (.here) rfl (Af h14 (C4 (Af h14 (J2 (B4 h14 (Ah rfl ?_)))))))))
 have e : Aj p = (decide (((p.fPass.size : Nat) : Int) ≤ 60)) := by
  clear s0 s2 s4
  try simp only [Cs] at h6 h9
  unfold Aj Co
  first | (simp only [h3, h5, h7, h8, h10, h11, h12, h13, h14, Ay]; done) | (simp only [h3, h5, h7, h8, h10, h11, h12, h13, h14, Ay]; simp [h6, h9]; done) | (simp [h6, h9]; done) | (simp only [h3, h5, h7, h8, h10, h11, h12, h13, h14, Ay]; simp [h6, h9]; omega)
 ·rw [e]
  first | done | rfl
 refine Ac h14 (Ac h14 (Ac h14 (Ac h14 (A6 h14 (Ah rfl ?_)))))
 have e : Aj p = false := by
  clear s0 s2 s4
  try simp only [Cs] at h6 h9
  unfold Aj Co
  first | (simp only [h3, h5, h7, h8, h10, h11, h12, h13, h14, Ay]; done) | (simp only [h3, h5, h7, h8, h10, h11, h12, h13, h14, Ay]; simp [h6, h9]; done) | (simp [h6, h9]; done) | (simp only [h3, h5, h7, h8, h10, h11, h12, h13, h14, Ay]; simp [h6, h9]; omega)
 ·rw [e]
  first | done | rfl
 refine Ac h13 (Ac h13 (Ac h13 (A6 h13 (Ac rfl (Ac rfl (Ac rfl (Ac rfl (A6 rfl (Ah rfl ?_)))))))))
 have e : Aj p = false := by
  clear s0 s2 s4
  try simp only [Cs] at h6 h9
  unfold Aj Co
  first | (simp only [h3, h5, h7, h8, h10, h11, h12, h13, Ay]; done) | (simp only [h3, h5, h7, h8, h10, h11, h12, h13, Ay]; simp [h6, h9]; done) | (simp [h6, h9]; done) | (simp only [h3, h5, h7, h8, h10, h11, h12, h13, Ay]; simp [h6, h9]; omega)
 ·rw [e]
  first | done | rfl
 refine Ac h12 (Ac h12 (Ac h12 (A6 h12 (Ac rfl (Ac rfl (Ac rfl (A6 rfl (Ac rfl (Ac rfl (Ac rfl (Ac rfl (A6 rfl (Ah rfl ?_)))))))))))))
 have e : Aj p = false := by
  clear s0 s2 s4
  try simp only [Cs] at h6 h9
  unfold Aj Co
  first | (simp only [h3, h5, h7, h8, h10, h11, h12, Ay]; done) | (simp only [h3, h5, h7, h8, h10, h11, h12, Ay]; simp [h6, h9]; done) | (simp [h6, h9]; done) | (simp only [h3, h5, h7, h8, h10, h11, h12, Ay]; simp [h6, h9]; omega)
 ·rw [e]
  first | done | rfl
 refine Ac h11 (Ac h11 (Ac h11 (A6 h11 (Ac rfl (Ac rfl (Ac rfl (A6 rfl (Ac rfl (Ac rfl (Ac rfl (A6 rfl (Ac rfl (Ac rfl (Ac rfl (Ac rfl (A6 rfl (Ah rfl ?_)))))))))))))))))
 have e : Aj p = false := by
  clear s0 s2 s4
  try simp only [Cs] at h6 h9
  unfold Aj Co
  first | (simp only [h3, h5, h7, h8, h10, h11, Ay]; done) | (simp only [h3, h5, h7, h8, h10, h11, Ay]; simp [h6, h9]; done) | (simp [h6, h9]; done) | (simp only [h3, h5, h7, h8, h10, h11, Ay]; simp [h6, h9]; omega)
 ·rw [e]
  first | done | rfl
 refine Au (nT h10) (Ah rfl ?_)
 have e : Aj p = false := by
  clear s0 s2 s4
  try simp only [Cs] at h6 h9
  unfold Aj Co
  first | (simp only [h3, h5, h7, h8, h10, Ay]; done) | (simp only [h3, h5, h7, h8, h10, Ay]; simp [h6, h9]; done) | (simp [h6, h9]; done) | (simp only [h3, h5, h7, h8, h10, Ay]; simp [h6, h9]; omega)
 ·rw [e]
  first | done | rfl
 refine Ac (nT h8) (Ac (nT h8) (Ac (nT h8) (Ac (nT h8) (Af h7 (B4 (nT h8) (Af h7 (Ac rfl (Ac rfl (Ac rfl (Ac rfl (Af h7 (B4 rfl (B4 h7 (Au rfl (Ah rfl ?_)))))))))))))))
 have e : Aj p = false := by
  clear s0 s2 s4
  try simp only [Cs] at h6
  unfold Aj Co
  first | (simp only [h3, h5, h7, h8, Ay]; done) | (simp only [h3, h5, h7, h8, Ay]; simp [h6]; done) | (simp [h6]; done) | (simp only [h3, h5, h7, h8, Ay]; simp [h6]; omega)
 ·rw [e]
  first | done | rfl
 refine Ac h7 (Ac h7 (Ac h7 (Ac h7 (Ac h7 (D7 (D7 (D7 (D7 (Ac h7 (Ac h7 (D7 (D7 (D7 (D7 (Ac h7 (A6 h7 (Ax rfl (Ab (o' := 8) rfl (Aq (c := si p.fLevel) s4 (.here) rfl (Ar (v := (.bool (B6 p.fLevel 0 255))) s4 rfl (Lu .nil) (Gm (n + 8) _ p.fLevel 0 255) (Aa ((B6 p.fLevel 0 255)) (fun h15 => ?_) (fun h15 => ?_))))))))))))))))))))))
 refine Af h15 (Ab (o' := 7) rfl (Af h15 (Aq (c := ss p.fClient) s4 (.here) rfl (Af h15 (Ar (v := (.bool (Bi p.fClient))) s4 rfl (.cons .sc .nil) (Gc (n + 5) (by omega) _ p.fClient) (B4 h15 (Aa ((Bi p.fClient)) (fun h16 => ?_) (fun h16 => ?_))))))))
 refine Af h16 (Ab (o' := 10) rfl (Af h16 (Aq (c := si p.fKeep) s4 (.here) rfl (Af h16 (Ar (v := (.bool (B6 p.fKeep 0 65535))) s4 rfl (Lu .nil) (Gm (n + 8) _ p.fKeep 0 65535) (B4 h16 (Aa ((B6 p.fKeep 0 65535)) (fun h17 => ?_) (fun h17 => ?_))))))))
 refine Af h17 (Ab (o' := 17) rfl (Af h17 (Aq (c := ss p.fUser) s4 (.here) rfl (Af h17 (Ar (v := (.bool (Bi p.fUser))) s4 rfl (.cons .sc .nil) (Gc (n + 5) (by omega) _ p.fUser) (B4 h17 (Aa ((Bi p.fUser)) (fun h18 => ?_) (fun h18 => ?_))))))))
 refine Af h18 (Ab (o' := 19) rfl (Af h18 (Aq (c := Ai p.fPass) s4 (.here) rfl (Af h18 (C4 (Af h18 (J2 (B4 h18 (Ah rfl ?_)))))))))
 have e : Aj p = (decide (((p.fPass.size : Nat) : Int) ≤ 60)) := by
  clear s0 s2 s4
  try simp only [Cs] at h6
  unfold Aj Co
  first | (simp only [h3, h5, h7, h15, h16, h17, h18, Ay]; done) | (simp only [h3, h5, h7, h15, h16, h17, h18, Ay]; simp [h6]; done) | (simp [h6]; done) | (simp only [h3, h5, h7, h15, h16, h17, h18, Ay]; simp [h6]; omega)
 ·rw [e]
  first | done | rfl
 refine Ac h18 (Ac h18 (Ac h18 (Ac h18 (A6 h18 (Ah rfl ?_)))))
 have e : Aj p = false := by
  clear s0 s2 s4
  try simp only [Cs] at h6
  unfold Aj Co
  first | (simp only [h3, h5, h7, h15, h16, h17, h18, Ay]; done) | (simp only [h3, h5, h7, h15, h16, h17, h18, Ay]; simp [h6]; done) | (simp [h6]; done) | (simp only [h3, h5, h7, h15, h16, h17, h18, Ay]; simp [h6]; omega)
 ·rw [e]
  first | done | rfl
 refine Ac h17 (Ac h17 (Ac h17 (A6 h17 (Ac rfl (Ac rfl (Ac rfl (Ac rfl (A6 rfl (Ah rfl ?_)))))))))
 have e : Aj p = false := by
  clear s0 s2 s4
  try simp only [Cs] at h6
  unfold Aj Co
  first | (simp only [h3, h5, h7, h15, h16, h17, Ay]; done) | (simp only [h3, h5, h7, h15, h16, h17, Ay]; simp [h6]; done) | (simp [h6]; done) | (simp only [h3, h5, h7, h15, h16, h17, Ay]; simp [h6]; omega)
 ·rw [e]
  first | done | rfl
 refine Ac h16 (Ac h16 (Ac h16 (A6 h16 (Ac rfl (Ac rfl (Ac rfl (A6 rfl (Ac rfl (Ac rfl (Ac rfl (Ac rfl (A6 rfl (Ah rfl ?_)))))))))))))
 have e : Aj p = false := by
  clear s0 s2 s4
  try simp only [Cs] at h6
  unfold Aj Co
  first | (simp only [h3, h5, h7, h15, h16, Ay]; done) | (simp only [h3, h5, h7, h15, h16, Ay]; simp [h6]; done) | (simp [h6]; done) | (simp only [h3, h5, h7, h15, h16, Ay]; simp [h6]; omega)
 ·rw [e]
  first | done | rfl
 refine Ac h15 (Ac h15 (Ac h15 (A6 h15 (Ac rfl (Ac rfl (Ac rfl (A6 rfl (Ac rfl (Ac rfl (Ac rfl (A6 rfl (Ac rfl (Ac rfl (Ac rfl (Ac rfl (A6 rfl (Ah rfl ?_)))))))))))))))))
 have e : Aj p = false := by
  clear s0 s2 s4
  try simp only [Cs] at h6
  unfold Aj Co
  first | (simp only [h3, h5, h7, h15, Ay]; done) | (simp only [h3, h5, h7, h15, Ay]; simp [h6]; done) | (simp [h6]; done) | (simp only [h3, h5, h7, h15, Ay]; simp [h6]; omega)
 ·rw [e]
  first | done | rfl
 refine Ax h6 (Bd (Aa ((decide (p.fType = 2))) (fun h19 => ?_) (fun h19 => ?_)))
 refine Au h19 (Ab (o' := 20) rfl (Aq (c := si p.fCode) s4 (.here) rfl (Ar (v := (.bool (B6 p.fCode 0 5))) s4 rfl (Lu .nil) (Gm (n + 8) _ p.fCode 0 5) (Ah rfl ?_))))
 have e : Aj p = (B6 p.fCode 0 5) := by
  clear s0 s2 s4
  try simp only [Cs] at h6 h19
  unfold Aj Co
  first | (simp only [h3, h5, Ay]; done) | (simp only [h3, h5, Ay]; simp [h6, h19]; done) | (simp [h6, h19]; done) | (simp only [h3, h5, Ay]; simp [h6, h19]; omega)
 ·rw [e]
  first | done | rfl
 refine Ax h19 (Bd (Aa ((decide (p.fType = 3))) (fun h20 => ?_) (fun h20 => ?_)))
 refine Au h20 (Ab (o' := 2) rfl (Aq (c := si p.fQos) s4 (.here) rfl (Ar (v := (.bool (B6 p.fQos 0 2))) s4 rfl (Lu .nil) (Gm (n + 8) _ p.fQos 0 2) (Aa ((B6 p.fQos 0 2)) (fun h21 => ?_) (fun h21 => ?_)))))
 refine Af h21 (Ab (o' := 2) rfl (Af h21 (Aq (c := si p.fQos) s4 (.here) rfl (Af h21 (Bd (Af h21 (Aa ((decide (p.fQos = 0))) (fun h22 => ?_) (fun h22 => ?_))))))))
 refine Ac h22 (Af h21 (B4 h22 (B4 h21 (Af rfl (Ab (o' := 5) rfl (Af rfl (Aq (c := ss p.fTopic) s4 (.here) rfl (Af rfl (Ar (v := (.bool (Dr p.fTopic))) s4 rfl (.cons .sc .nil) (Jh (n + 4) (by omega) _ p.fTopic hp.t1) (B4 rfl (Aa ((Dr p.fTopic)) (fun h23 => ?_) (fun h23 => ?_))))))))))))
 refine Af h23 (Ab (o' := 6) rfl (Af h23 (Aq (c := Ai p.fBody) s4 (.here) rfl (Af h23 (C4 (Af h23 (J2 (B4 h23 (Ah rfl ?_)))))))))
 have e : Aj p = (decide (((p.fBody.size : Nat) : Int) ≤ 40)) := by
  clear s0 s2 s4
  try simp only [Cs] at h6 h19 h20 h22
  unfold Aj Co
  first | (simp only [h3, h5, h21, h23, Ay]; done) | (simp only [h3, h5, h21, h23, Ay]; simp [h6, h19, h20, h22]; done) | (simp [h6, h19, h20, h22]; done) | (simp only [h3, h5, h21, h23, Ay]; simp [h6, h19, h20, h22]; omega)
 ·rw [e]
  first | done | rfl
 refine Ac h23 (Ac h23 (Ac h23 (Ac h23 (A6 h23 (Ah rfl ?_)))))
 have e : Aj p = false := by
  clear s0 s2 s4
  try simp only [Cs] at h6 h19 h20 h22
  unfold Aj Co
  first | (simp only [h3, h5, h21, h23, Ay]; done) | (simp only [h3, h5, h21, h23, Ay]; simp [h6, h19, h20, h22]; done) | (simp [h6, h19, h20, h22]; done) | (simp only [h3, h5, h21, h23, Ay]; simp [h6, h19, h20, h22]; omega)
 ·rw [e]
  first | done | rfl
 refine Af h22 (Af h21 (A6 h22 (B4 h21 (Aa ((B6 p.fId 1 65535)) (fun h24 => ?_) (fun h24 => ?_)))))
 refine Af h24 (Ab (o' := 5) rfl (Af h24 (Aq (c := ss p.fTopic) s4 (.here) rfl (Af h24 (Ar (v := (.bool (Dr p.fTopic))) s4 rfl (.cons .sc .nil) (Jh (n + 4) (by omega) _ p.fTopic hp.t1) (B4 h24 (Aa ((Dr p.fTopic)) (fun h25 => ?_) (fun h25 => ?_))))))))
 refine Af h25 (Ab (o' := 6) rfl (Af h25 (Aq (c := Ai p.fBody) s4 (.here) rfl (Af h25 (C4 (Af h25 (J2 (B4 h25 (Ah rfl ?_)))))))))
 have e : Aj p = (decide (((p.fBody.size : Nat) : Int) ≤ 40)) := by
  clear s0 s2 s4
  try simp only [Cs] at h6 h19 h20 h22
  unfold Aj Co
  first | (simp only [h3, h5, h21, h24, h25, Ay]; done) | (simp only [h3, h5, h21, h24, h25, Ay]; simp [h6, h19, h20, h22]; done) | (simp [h6, h19, h20, h22]; done) | (simp only [h3, h5, h21, h24, h25, Ay]; simp [h6, h19, h20, h22]; omega)
 ·rw [e]
  first | done | rfl
 refine Ac h25 (Ac h25 (Ac h25 (Ac h25 (A6 h25 (Ah rfl ?_)))))
 have e : Aj p = false := by
  clear s0 s2 s4
  try simp only [Cs] at h6 h19 h20 h22
  unfold Aj Co
  first | (simp only [h3, h5, h21, h24, h25, Ay]; done) | (simp only [h3, h5, h21, h24, h25, Ay]; simp [h6, h19, h20, h22]; done) | (simp [h6, h19, h20, h22]; done) | (simp only [h3, h5, h21, h24, h25, Ay]; simp [h6, h19, h20, h22]; omega)
 ·rw [e]
  first | done | rfl
 refine Ac h24 (Ac h24 (Ac h24 (A6 h24 (Ac rfl (Ac rfl (Ac rfl (Ac rfl (A6 rfl (Ah rfl ?_)))))))))
 have e : Aj p = false := by
  clear s0 s2 s4
  try simp only [Cs] at h6 h19 h20 h22
  unfold Aj Co
  first | (simp only [h3, h5, h21, h24, Ay]; done) | (simp only [h3, h5, h21, h24, Ay]; simp [h6, h19, h20, h22]; done) | (simp [h6, h19, h20, h22]; done) | (simp only [h3, h5, h21, h24, Ay]; simp [h6, h19, h20, h22]; omega)
 ·rw [e]
  first | done | rfl
 refine Ac h21 (Ac h21 (Ac h21 (Ac h21 (D7 (Ac h21 (A6 h21 (Ac rfl (Ac rfl (Ac rfl (A6 rfl (Ac rfl (Ac rfl (Ac rfl (Ac rfl (A6 rfl (Ah rfl ?_))))))))))))))))
 have e : Aj p = false := by
  clear s0 s2 s4
  try simp only [Cs] at h6 h19 h20
  unfold Aj Co
  first | (simp only [h3, h5, h21, Ay]; done) | (simp only [h3, h5, h21, Ay]; simp [h6, h19, h20]; done) | (simp [h6, h19, h20]; done) | (simp only [h3, h5, h21, Ay]; simp [h6, h19, h20]; omega)
 ·rw [e]
  first | done | rfl
 refine Ax h20 (Bd (Dn (Aa ((decide (p.fType = 12))) (fun h26 => ?_) (fun h26 => ?_))))
 refine Au h26 (Au h26 (Ah rfl ?_))
 have e : Aj p = true := by
  clear s0 s2 s4
  try simp only [Cs] at h6 h19 h20 h26
  unfold Aj Co
  first | (simp only [h3, h5, Ay]; done) | (simp only [h3, h5, Ay]; simp [h6, h19, h20, h26]; done) | (simp [h6, h19, h20, h26]; done) | (simp only [h3, h5, Ay]; simp [h6, h19, h20, h26]; omega)
 ·rw [e]
  first | done | rfl
 refine Ax h26 (Bd (Aa ((decide (p.fType = 13))) (fun h27 => ?_) (fun h27 => ?_)))
 refine Au h27 (Au h27 (Ah rfl ?_))
 have e : Aj p = true := by
  clear s0 s2 s4
  try simp only [Cs] at h6 h19 h20 h26 h27
  unfold Aj Co
  first | (simp only [h3, h5, Ay]; done) | (simp only [h3, h5, Ay]; simp [h6, h19, h20, h26, h27]; done) | (simp [h6, h19, h20, h26, h27]; done) | (simp only [h3, h5, Ay]; simp [h6, h19, h20, h26, h27]; omega)
 ·rw [e]
  first | done | rfl
 refine Ax h27 (Bd (Aa ((decide (p.fType = 14))) (fun h28 => ?_) (fun h28 => ?_)))
 refine Au h28 (Ah rfl ?_)
 have e : Aj p = true := by
  clear s0 s2 s4
  try simp only [Cs] at h6 h19 h20 h26 h27 h28
  unfold Aj Co
  first | (simp only [h3, h5, Ay]; done) | (simp only [h3, h5, Ay]; simp [h6, h19, h20, h26, h27, h28]; done) | (simp [h6, h19, h20, h26, h27, h28]; done) | (simp only [h3, h5, Ay]; simp [h6, h19, h20, h26, h27, h28]; omega)
 ·rw [e]
  first | done | rfl
 refine Ax h28 (Bd (Aa ((decide (p.fType = 8))) (fun h29 => ?_) (fun h29 => ?_)))
 refine Au h29 ?_
 have hv : Aj p = (p.fWants.all B0 && (B6 p.fId 1 65535 && B6 ((p.fWants.length : Nat) : Int) 1 4)) := by
  clear s0 s2 s4
  try simp only [Cs] at h6 h19 h20 h26 h27 h28 h29
  unfold Aj Co
  first | (simp only [h3, h5, Ay]; done) | (simp only [h3, h5, Ay]; simp [h6, h19, h20, h26, h27, h28, h29]; done) | (simp [h6, h19, h20, h26, h27, h28, h29]; done) | (simp only [h3, h5, Ay]; simp [h6, h19, h20, h26, h27, h28, h29]; omega)
 rw [hv]
 exact Qi n hn p hp h3 h5 h6 h19 h20 h26 h27 h28 h29  p.fWants [] _ 0 i1 _ rfl rfl (by omega) s4
 refine Ax h29 (Bd (Aa ((decide (p.fType = 9))) (fun h30 => ?_) (fun h30 => ?_)))
 refine Au h30 ?_
 have hv : Aj p = (p.fCodes.all Bt && (B6 p.fId 1 65535 && B6 ((p.fCodes.length : Nat) : Int) 1 4)) := by
  clear s0 s2 s4
  try simp only [Cs] at h6 h19 h20 h26 h27 h28 h29 h30
  unfold Aj Co
  first | (simp only [h3, h5, Ay]; done) | (simp only [h3, h5, Ay]; simp [h6, h19, h20, h26, h27, h28, h29, h30]; done) | (simp [h6, h19, h20, h26, h27, h28, h29, h30]; done) | (simp only [h3, h5, Ay]; simp [h6, h19, h20, h26, h27, h28, h29, h30]; omega)
 rw [hv]
 exact M0 n hn p hp h3 h5 h6 h19 h20 h26 h27 h28 h29 h30  p.fCodes [] _ 0 i1 _ rfl rfl (by omega) s4
 refine Ax h30 (Bd (Aa ((decide (p.fType = 10))) (fun h31 => ?_) (fun h31 => ?_)))
 refine Au h31 ?_
 have hv : Aj p = (p.fNames.all Cd && (B6 p.fId 1 65535 && B6 ((p.fNames.length : Nat) : Int) 1 4)) := by
  clear s0 s2 s4
  try simp only [Cs] at h6 h19 h20 h26 h27 h28 h29 h30 h31
  unfold Aj Co
  first | (simp only [h3, h5, Ay]; done) | (simp only [h3, h5, Ay]; simp [h6, h19, h20, h26, h27, h28, h29, h30, h31]; done) | (simp [h6, h19, h20, h26, h27, h28, h29, h30, h31]; done) | (simp only [h3, h5, Ay]; simp [h6, h19, h20, h26, h27, h28, h29, h30, h31]; omega)
 rw [hv]
 exact Qj n hn p hp h3 h5 h6 h19 h20 h26 h27 h28 h29 h30 h31  p.fNames [] _ 0 i1 _ rfl rfl (by omega) s4
 refine Ax h31 (Ah rfl ?_)
 have e : Aj p = (B6 p.fId 1 65535) := by
  clear s0 s2 s4
  try simp only [Cs] at h6 h19 h20 h26 h27 h28 h29 h30 h31
  unfold Aj Co
  first | (simp only [h3, h5, Ay]; done) | (simp only [h3, h5, Ay]; simp [h6, h19, h20, h26, h27, h28, h29, h30, h31]; done) | (simp [h6, h19, h20, h26, h27, h28, h29, h30, h31]; done) | (simp only [h3, h5, Ay]; simp [h6, h19, h20, h26, h27, h28, h29, h30, h31]; omega)
 ·rw [e]
  first | done | rfl
 refine Au (nT h5) (Ah rfl ?_)
 have e : Aj p = false := by
  clear s0 s2 s4
  unfold Aj Co
  first | (simp only [h3, h5, Ay]; done) | (simp only [h3, h5, Ay]; simp; done) | (simp; done) | (simp only [h3, h5, Ay]; simp; omega)
 ·rw [e]
  first | done | rfl
 refine Af (nF h3) (Ja rfl rfl (T1 (n + 8) (by omega) p s2 fun Rs32 H hRs32 s32 => Af (nF h3) (Av s32 (.here) rfl (Af (nF h3) (Ar (v := (.bool (Cx p (Az true p)))) s32 rfl (.aggF (Dg _) (.agg (hRs32 _) .nil)) (Nb (n + 7) (by omega) _ p (Az true p) hp.l1 hp.l2 hp.l3) (Af (nF h3) (C5 (A6 (nF h3) (Aa ((Cx p (Az true p))) (fun h33 => ?_) (fun h33 => ?_))))))))))
 refine Ax (nF h33) (Ab (o' := 4) rfl (Aq (c := si p.fId) s32 (.here) rfl (Ar (v := (.bool (B6 p.fId 1 65535))) s32 rfl (Lu .nil) (Gm (n + 8) _ p.fId 1 65535) (Ab (o' := 0) rfl (Aq (c := si p.fType) s32 (.here) rfl (Bd (Aa ((decide (p.fType = 1))) (fun h34 => ?_) (fun h34 => ?_))))))))
 refine Au h34 (Ab (o' := 11) rfl (Aq (c := sb p.fHasWill) s32 (.here) rfl (Aa (p.fHasWill) (fun h35 => ?_) (fun h35 => ?_))))
 refine Af h35 (Ab (o' := 12) rfl (Af h35 (Aq (c := ss p.fWTopic) s32 (.here) rfl (Af h35 (Ar (v := (.bool (Dr p.fWTopic))) s32 rfl (.cons .sc .nil) (Jh (n + 4) (by omega) _ p.fWTopic hp.t3) (Af h35 (C5 (Af h35 (Aa ((Dr p.fWTopic)) (fun h36 => ?_) (fun h36 => ?_))))))))))
 refine Af (nF h36) (Ab (o' := 13) rfl (Af (nF h36) (Aq (c := Ai p.fWBody) s32 (.here) rfl (Af (nF h36) (C4 (Af (nF h36) (Eo (Af h35 (A6 (nF h36) (Af h35 (Aa ((decide (40 < ((p.fWBody.size : Nat) : Int)))) (fun h37 => ?_) (fun h37 => ?_))))))))))))
 refine Ac h37 (Ac h37 (Ac h37 (Ac h37 (Af h35 (B4 h37 (B4 h35 (Au rfl (Ah rfl ?_))))))))
 have e : Aj p = false := by
  clear s0 s2 s32
  try simp only [Cs] at h34 h37
  unfold Aj Co
  first | (simp only [h3, h33, h35, h36, Ay]; done) | (simp only [h3, h33, h35, h36, Ay]; simp [h34, h37]; done) | (simp [h34, h37]; done) | (simp only [h3, h33, h35, h36, Ay]; simp [h34, h37]; omega)
 ·rw [e]
  first | done | rfl
 refine Af h37 (Ab (o' := 14) rfl (Af h37 (Aq (c := si p.fWQos) s32 (.here) rfl (Af h37 (Ar (v := (.bool (B6 p.fWQos 0 2))) s32 rfl (Lu .nil) (Gm (n + 8) _ p.fWQos 0 2) (Af h37 (C5 (Af h35 (A6 h37 (B4 h35 (Aa ((B6 p.fWQos 0 2)) (fun h38 => ?_) (fun h38 => ?_))))))))))))
 refine Ax (nF h38) (Ab (o' := 8) rfl (Aq (c := si p.fLevel) s32 (.here) rfl (Ar (v := (.bool (B6 p.fLevel 0 255))) s32 rfl (Lu .nil) (Gm (n + 8) _ p.fLevel 0 255) (Aa ((B6 p.fLevel 0 255)) (fun h39 => ?_) (fun h39 => ?_)))))
 refine Af h39 (Ab (o' := 7) rfl (Af h39 (Aq (c := ss p.fClient) s32 (.here) rfl (Af h39 (Ar (v := (.bool (Bi p.fClient))) s32 rfl (.cons .sc .nil) (Gc (n + 5) (by omega) _ p.fClient) (B4 h39 (Aa ((Bi p.fClient)) (fun h40 => ?_) (fun h40 => ?_))))))))
 refine Af h40 (Ab (o' := 10) rfl (Af h40 (Aq (c := si p.fKeep) s32 (.here) rfl (Af h40 (Ar (v := (.bool (B6 p.fKeep 0 65535))) s32 rfl (Lu .nil) (Gm (n + 8) _ p.fKeep 0 65535) (B4 h40 (Aa ((B6 p.fKeep 0 65535)) (fun h41 => ?_) (fun h41 => ?_))))))))
 refine Af h41 (Ab (o' := 17) rfl (Af h41 (Aq (c := ss p.fUser) s32 (.here) rfl (Af h41 (Ar (v := (.bool (Bi p.fUser))) s32 rfl (.cons .sc .nil) (Gc (n + 5) (by omega) _ p.fUser) (B4 h41 (Aa ((Bi p.fUser)) (fun h42 => ?_) (fun h42 => ?_))))))))
 refine Af h42 (Ab (o' := 19) rfl (Af h42 (Aq (c := Ai p.fPass) s32 (.here) rfl (Af h42 (C4 (Af h42 (J2 (B4 h42 (Ah rfl ?_)))))))))
 have e : Aj p = (decide (((p.fPass.size : Nat) : Int) ≤ 60)) := by
  clear s0 s2 s32
  try simp only [Cs] at h34 h37
  unfold Aj Co
  first | (simp only [h3, h33, h35, h36, h38, h39, h40, h41, h42, Ay]; done) | (simp only [h3, h33, h35, h36, h38, h39, h40, h41, h42, Ay]; simp [h34, h37]; done) | (simp [h34, h37]; done) | (simp only [h3, h33, h35, h36, h38, h39, h40, h41, h42, Ay]; simp [h34, h37]; omega)
 ·rw [e]
  first | done | rfl
 refine Ac h42 (Ac h42 (Ac h42 (Ac h42 (A6 h42 (Ah rfl ?_)))))
 have e : Aj p = false := by
  clear s0 s2 s32
  try simp only [Cs] at h34 h37
  unfold Aj Co
  first | (simp only [h3, h33, h35, h36, h38, h39, h40, h41, h42, Ay]; done) | (simp only [h3, h33, h35, h36, h38, h39, h40, h41, h42, Ay]; simp [h34, h37]; done) | (simp [h34, h37]; done) | (simp only [h3, h33, h35, h36, h38, h39, h40, h41, h42, Ay]; simp [h34, h37]; omega)
 ·rw [e]
  first | done | rfl
 refine Ac h41 (Ac h41 (Ac h41 (A6 h41 (Ac rfl (Ac rfl (Ac rfl (Ac rfl (A6 rfl (Ah rfl ?_)))))))))
 have e : Aj p = false := by
  clear s0 s2 s32
  try simp only [Cs] at h34 h37
  unfold Aj Co
  first | (simp only [h3, h33, h35, h36, h38, h39, h40, h41, Ay]; done) | (simp only [h3, h33, h35, h36, h38, h39, h40, h41, Ay]; simp [h34, h37]; done) | (simp [h34, h37]; done) | (simp only [h3, h33, h35, h36, h38, h39, h40, h41, Ay]; simp [h34, h37]; omega)
 ·rw [e]
  first | done | rfl
 refine Ac h40 (Ac h40 (Ac h40 (A6 h40 (Ac rfl (Ac rfl (Ac rfl (A6 rfl (Ac rfl (Ac rfl (Ac rfl (Ac rfl (A6 rfl (Ah rfl ?_)))))))))))))
 have e : Aj p = false := by
  clear s0 s2 s32
  try simp only [Cs] at h34 h37
  unfold Aj Co
  first | (simp only [h3, h33, h35, h36, h38, h39, h40, Ay]; done) | (simp only [h3, h33, h35, h36, h38, h39, h40, Ay]; simp [h34, h37]; done) | (simp [h34, h37]; done) | (simp only [h3, h33, h35, h36, h38, h39, h40, Ay]; simp [h34, h37]; omega)
 ·rw [e]
  first | done | rfl
 refine Ac h39 (Ac h39 (Ac h39 (A6 h39 (Ac rfl (Ac rfl (Ac rfl (A6 rfl (Ac rfl (Ac rfl (Ac rfl (A6 rfl (Ac rfl (Ac rfl (Ac rfl (Ac rfl (A6 rfl (Ah rfl ?_)))))))))))))))))
 have e : Aj p = false := by
  clear s0 s2 s32
  try simp only [Cs] at h34 h37
  unfold Aj Co
  first | (simp only [h3, h33, h35, h36, h38, h39, Ay]; done) | (simp only [h3, h33, h35, h36, h38, h39, Ay]; simp [h34, h37]; done) | (simp [h34, h37]; done) | (simp only [h3, h33, h35, h36, h38, h39, Ay]; simp [h34, h37]; omega)
 ·rw [e]
  first | done | rfl
 refine Au (nT h38) (Ah rfl ?_)
 have e : Aj p = false := by
  clear s0 s2 s32
  try simp only [Cs] at h34 h37
  unfold Aj Co
  first | (simp only [h3, h33, h35, h36, h38, Ay]; done) | (simp only [h3, h33, h35, h36, h38, Ay]; simp [h34, h37]; done) | (simp [h34, h37]; done) | (simp only [h3, h33, h35, h36, h38, Ay]; simp [h34, h37]; omega)
 ·rw [e]
  first | done | rfl
 refine Ac (nT h36) (Ac (nT h36) (Ac (nT h36) (Ac (nT h36) (Af h35 (B4 (nT h36) (Af h35 (Ac rfl (Ac rfl (Ac rfl (Ac rfl (Af h35 (B4 rfl (B4 h35 (Au rfl (Ah rfl ?_)))))))))))))))
 have e : Aj p = false := by
  clear s0 s2 s32
  try simp only [Cs] at h34
  unfold Aj Co
  first | (simp only [h3, h33, h35, h36, Ay]; done) | (simp only [h3, h33, h35, h36, Ay]; simp [h34]; done) | (simp [h34]; done) | (simp only [h3, h33, h35, h36, Ay]; simp [h34]; omega)
 ·rw [e]
  first | done | rfl
 refine Ac h35 (Ac h35 (Ac h35 (Ac h35 (Ac h35 (D7 (D7 (D7 (D7 (Ac h35 (Ac h35 (D7 (D7 (D7 (D7 (Ac h35 (A6 h35 (Ax rfl (Ab (o' := 8) rfl (Aq (c := si p.fLevel) s32 (.here) rfl (Ar (v := (.bool (B6 p.fLevel 0 255))) s32 rfl (Lu .nil) (Gm (n + 8) _ p.fLevel 0 255) (Aa ((B6 p.fLevel 0 255)) (fun h43 => ?_) (fun h43 => ?_))))))))))))))))))))))
 refine Af h43 (Ab (o' := 7) rfl (Af h43 (Aq (c := ss p.fClient) s32 (.here) rfl (Af h43 (Ar (v := (.bool (Bi p.fClient))) s32 rfl (.cons .sc .nil) (Gc (n + 5) (by omega) _ p.fClient) (B4 h43 (Aa ((Bi p.fClient)) (fun h44 => ?_) (fun h44 => ?_))))))))
 refine Af h44 (Ab (o' := 10) rfl (Af h44 (Aq (c := si p.fKeep) s32 (.here) rfl (Af h44 (Ar (v := (.bool (B6 p.fKeep 0 65535))) s32 rfl (Lu .nil) (Gm (n + 8) _ p.fKeep 0 65535) (B4 h44 (Aa ((B6 p.fKeep 0 65535)) (fun h45 => ?_) (fun h45 => ?_))))))))
 refine Af h45 (Ab (o' := 17) rfl (Af h45 (Aq (c := ss p.fUser) s32 (.here) rfl (Af h45 (Ar (v := (.bool (Bi p.fUser))) s32 rfl (.cons .sc .nil) (Gc (n + 5) (by omega) _ p.fUser) (B4 h45 (Aa ((Bi p.fUser)) (fun h46 => ?_) (fun h46 => ?_))))))))
 refine Af h46 (Ab (o' := 19) rfl (Af h46 (Aq (c := Ai p.fPass) s32 (.here) rfl (Af h46 (C4 (Af h46 (J2 (B4 h46 (Ah rfl ?_)))))))))
 have e : Aj p = (decide (((p.fPass.size : Nat) : Int) ≤ 60)) := by
  clear s0 s2 s32
  try simp only [Cs] at h34
  unfold Aj Co
  first | (simp only [h3, h33, h35, h43, h44, h45, h46, Ay]; done) | (simp only [h3, h33, h35, h43, h44, h45, h46, Ay]; simp [h34]; done) | (simp [h34]; done) | (simp only [h3, h33, h35, h43, h44, h45, h46, Ay]; simp [h34]; omega)
 ·rw [e]
  first | done | rfl
 refine Ac h46 (Ac h46 (Ac h46 (Ac h46 (A6 h46 (Ah rfl ?_)))))
 have e : Aj p = false := by
  clear s0 s2 s32
  try simp only [Cs] at h34
  unfold Aj Co
  first | (simp only [h3, h33, h35, h43, h44, h45, h46, Ay]; done) | (simp only [h3, h33, h35, h43, h44, h45, h46, Ay]; simp [h34]; done) | (simp [h34]; done) | (simp only [h3, h33, h35, h43, h44, h45, h46, Ay]; simp [h34]; omega)
 ·rw [e]
  first | done | rfl
 refine Ac h45 (Ac h45 (Ac h45 (A6 h45 (Ac rfl (Ac rfl (Ac rfl (Ac rfl (A6 rfl (Ah rfl ?_)))))))))
 have e : Aj p = false := by
  clear s0 s2 s32
  try simp only [Cs] at h34
  unfold Aj Co
  first | (simp only [h3, h33, h35, h43, h44, h45, Ay]; done) | (simp only [h3, h33, h35, h43, h44, h45, Ay]; simp [h34]; done) | (simp [h34]; done) | (simp only [h3, h33, h35, h43, h44, h45, Ay]; simp [h34]; omega)
 ·rw [e]
  first | done | rfl
 refine Ac h44 (Ac h44 (Ac h44 (A6 h44 (Ac rfl (Ac rfl (Ac rfl (A6 rfl (Ac rfl (Ac rfl (Ac rfl (Ac rfl (A6 rfl (Ah rfl ?_)))))))))))))
 have e : Aj p = false := by
  clear s0 s2 s32
  try simp only [Cs] at h34
  unfold Aj Co
  first | (simp only [h3, h33, h35, h43, h44, Ay]; done) | (simp only [h3, h33, h35, h43, h44, Ay]; simp [h34]; done) | (simp [h34]; done) | (simp only [h3, h33, h35, h43, h44, Ay]; simp [h34]; omega)
 ·rw [e]
  first | done | rfl
 refine Ac h43 (Ac h43 (Ac h43 (A6 h43 (Ac rfl (Ac rfl (Ac rfl (A6 rfl (Ac rfl (Ac rfl (Ac rfl (A6 rfl (Ac rfl (Ac rfl (Ac rfl (Ac rfl (A6 rfl (Ah rfl ?_)))))))))))))))))
 have e : Aj p = false := by
  clear s0 s2 s32
  try simp only [Cs] at h34
  unfold Aj Co
  first | (simp only [h3, h33, h35, h43, Ay]; done) | (simp only [h3, h33, h35, h43, Ay]; simp [h34]; done) | (simp [h34]; done) | (simp only [h3, h33, h35, h43, Ay]; simp [h34]; omega)
 ·rw [e]
  first | done | rfl
 refine Ax h34 (Bd (Aa ((decide (p.fType = 2))) (fun h47 => ?_) (fun h47 => ?_)))
 refine Au h47 (Ab (o' := 20) rfl (Aq (c := si p.fCode) s32 (.here) rfl (Ar (v := (.bool (B6 p.fCode 0 5))) s32 rfl (Lu .nil) (Gm (n + 8) _ p.fCode 0 5) (Ah rfl ?_))))
 have e : Aj p = (B6 p.fCode 0 5) := by
  clear s0 s2 s32
  try simp only [Cs] at h34 h47
  unfold Aj Co
  first | (simp only [h3, h33, Ay]; done) | (simp only [h3, h33, Ay]; simp [h34, h47]; done) | (simp [h34, h47]; done) | (simp only [h3, h33, Ay]; simp [h34, h47]; omega)
 ·rw [e]
  first | done | rfl
 refine Ax h47 (Bd (Aa ((decide (p.fType = 3))) (fun h48 => ?_) (fun h48 => ?_)))
 refine Au h48 (Ab (o' := 2) rfl (Aq (c := si p.fQos) s32 (.here) rfl (Ar (v := (.bool (B6 p.fQos 0 2))) s32 rfl (Lu .nil) (Gm (n + 8) _ p.fQos 0 2) (Aa ((B6 p.fQos 0 2)) (fun h49 => ?_) (fun h49 => ?_)))))
 refine Af h49 (Ab (o' := 2) rfl (Af h49 (Aq (c := si p.fQos) s32 (.here) rfl (Af h49 (Bd (Af h49 (Aa ((decide (p.fQos = 0))) (fun h50 => ?_) (fun h50 => ?_))))))))
 refine Ac h50 (Af h49 (B4 h50 (B4 h49 (Af rfl (Ab (o' := 5) rfl (Af rfl (Aq (c := ss p.fTopic) s32 (.here) rfl (Af rfl (Ar (v := (.bool (Dr p.fTopic))) s32 rfl (.cons .sc .nil) (Jh (n + 4) (by omega) _ p.fTopic hp.t1) (B4 rfl (Aa ((Dr p.fTopic)) (fun h51 => ?_) (fun h51 => ?_))))))))))))
 refine Af h51 (Ab (o' := 6) rfl (Af h51 (Aq (c := Ai p.fBody) s32 (.here) rfl (Af h51 (C4 (Af h51 (J2 (B4 h51 (Ah rfl ?_)))))))))
 have e : Aj p = (decide (((p.fBody.size : Nat) : Int) ≤ 40)) := by
  clear s0 s2 s32
  try simp only [Cs] at h34 h47 h48 h50
  unfold Aj Co
  first | (simp only [h3, h33, h49, h51, Ay]; done) | (simp only [h3, h33, h49, h51, Ay]; simp [h34, h47, h48, h50]; done) | (simp [h34, h47, h48, h50]; done) | (simp only [h3, h33, h49, h51, Ay]; simp [h34, h47, h48, h50]; omega)
 ·rw [e]
  first | done | rfl
 refine Ac h51 (Ac h51 (Ac h51 (Ac h51 (A6 h51 (Ah rfl ?_)))))
 have e : Aj p = false := by
  clear s0 s2 s32
  try simp only [Cs] at h34 h47 h48 h50
  unfold Aj Co
  first | (simp only [h3, h33, h49, h51, Ay]; done) | (simp only [h3, h33, h49, h51, Ay]; simp [h34, h47, h48, h50]; done) | (simp [h34, h47, h48, h50]; done) | (simp only [h3, h33, h49, h51, Ay]; simp [h34, h47, h48, h50]; omega)
 ·rw [e]
  first | done | rfl
 refine Af h50 (Af h49 (A6 h50 (B4 h49 (Aa ((B6 p.fId 1 65535)) (fun h52 => ?_) (fun h52 => ?_)))))
 refine Af h52 (Ab (o' := 5) rfl (Af h52 (Aq (c := ss p.fTopic) s32 (.here) rfl (Af h52 (Ar (v := (.bool (Dr p.fTopic))) s32 rfl (.cons .sc .nil) (Jh (n + 4) (by omega) _ p.fTopic hp.t1) (B4 h52 (Aa ((Dr p.fTopic)) (fun h53 => ?_) (fun h53 => ?_))))))))
 refine Af h53 (Ab (o' := 6) rfl (Af h53 (Aq (c := Ai p.fBody) s32 (.here) rfl (Af h53 (C4 (Af h53 (J2 (B4 h53 (Ah rfl ?_)))))))))
 have e : Aj p = (decide (((p.fBody.size : Nat) : Int) ≤ 40)) := by
  clear s0 s2 s32
  try simp only [Cs] at h34 h47 h48 h50
  unfold Aj Co
  first | (simp only [h3, h33, h49, h52, h53, Ay]; done) | (simp only [h3, h33, h49, h52, h53, Ay]; simp [h34, h47, h48, h50]; done) | (simp [h34, h47, h48, h50]; done) | (simp only [h3, h33, h49, h52, h53, Ay]; simp [h34, h47, h48, h50]; omega)
 ·rw [e]
  first | done | rfl
 refine Ac h53 (Ac h53 (Ac h53 (Ac h53 (A6 h53 (Ah rfl ?_)))))
 have e : Aj p = false := by
  clear s0 s2 s32
  try simp only [Cs] at h34 h47 h48 h50
  unfold Aj Co
  first | (simp only [h3, h33, h49, h52, h53, Ay]; done) | (simp only [h3, h33, h49, h52, h53, Ay]; simp [h34, h47, h48, h50]; done) | (simp [h34, h47, h48, h50]; done) | (simp only [h3, h33, h49, h52, h53, Ay]; simp [h34, h47, h48, h50]; omega)
 ·rw [e]
  first | done | rfl
 refine Ac h52 (Ac h52 (Ac h52 (A6 h52 (Ac rfl (Ac rfl (Ac rfl (Ac rfl (A6 rfl (Ah rfl ?_)))))))))
 have e : Aj p = false := by
  clear s0 s2 s32
  try simp only [Cs] at h34 h47 h48 h50
  unfold Aj Co
  first | (simp only [h3, h33, h49, h52, Ay]; done) | (simp only [h3, h33, h49, h52, Ay]; simp [h34, h47, h48, h50]; done) | (simp [h34, h47, h48, h50]; done) | (simp only [h3, h33, h49, h52, Ay]; simp [h34, h47, h48, h50]; omega)
 ·rw [e]
  first | done | rfl
 refine Ac h49 (Ac h49 (Ac h49 (Ac h49 (D7 (Ac h49 (A6 h49 (Ac rfl (Ac rfl (Ac rfl (A6 rfl (Ac rfl (Ac rfl (Ac rfl (Ac rfl (A6 rfl (Ah rfl ?_))))))))))))))))
 have e : Aj p = false := by
  clear s0 s2 s32
  try simp only [Cs] at h34 h47 h48
  unfold Aj Co
  first | (simp only [h3, h33, h49, Ay]; done) | (simp only [h3, h33, h49, Ay]; simp [h34, h47, h48]; done) | (simp [h34, h47, h48]; done) | (simp only [h3, h33, h49, Ay]; simp [h34, h47, h48]; omega)
 ·rw [e]
  first | done | rfl
 refine Ax h48 (Bd (Dn (Aa ((decide (p.fType = 12))) (fun h54 => ?_) (fun h54 => ?_))))
 refine Au h54 (Au h54 (Ah rfl ?_))
 have e : Aj p = true := by
  clear s0 s2 s32
  try simp only [Cs] at h34 h47 h48 h54
  unfold Aj Co
  first | (simp only [h3, h33, Ay]; done) | (simp only [h3, h33, Ay]; simp [h34, h47, h48, h54]; done) | (simp [h34, h47, h48, h54]; done) | (simp only [h3, h33, Ay]; simp [h34, h47, h48, h54]; omega)
 ·rw [e]
  first | done | rfl
 refine Ax h54 (Bd (Aa ((decide (p.fType = 13))) (fun h55 => ?_) (fun h55 => ?_)))
 refine Au h55 (Au h55 (Ah rfl ?_))
 have e : Aj p = true := by
  clear s0 s2 s32
  try simp only [Cs] at h34 h47 h48 h54 h55
  unfold Aj Co
  first | (simp only [h3, h33, Ay]; done) | (simp only [h3, h33, Ay]; simp [h34, h47, h48, h54, h55]; done) | (simp [h34, h47, h48, h54, h55]; done) | (simp only [h3, h33, Ay]; simp [h34, h47, h48, h54, h55]; omega)
 ·rw [e]
  first | done | rfl
 refine Ax h55 (Bd (Aa ((decide (p.fType = 14))) (fun h56 => ?_) (fun h56 => ?_)))
 refine Au h56 (Ah rfl ?_)
 have e : Aj p = true := by
  clear s0 s2 s32
  try simp only [Cs] at h34 h47 h48 h54 h55 h56
  unfold Aj Co
  first | (simp only [h3, h33, Ay]; done) | (simp only [h3, h33, Ay]; simp [h34, h47, h48, h54, h55, h56]; done) | (simp [h34, h47, h48, h54, h55, h56]; done) | (simp only [h3, h33, Ay]; simp [h34, h47, h48, h54, h55, h56]; omega)
 ·rw [e]
  first | done | rfl
 refine Ax h56 (Bd (Aa ((decide (p.fType = 8))) (fun h57 => ?_) (fun h57 => ?_)))
 refine Au h57 ?_
 have hv : Aj p = (p.fWants.all B0 && (B6 p.fId 1 65535 && B6 ((p.fWants.length : Nat) : Int) 1 4)) := by
  clear s0 s2 s32
  try simp only [Cs] at h34 h47 h48 h54 h55 h56 h57
  unfold Aj Co
  first | (simp only [h3, h33, Ay]; done) | (simp only [h3, h33, Ay]; simp [h34, h47, h48, h54, h55, h56, h57]; done) | (simp [h34, h47, h48, h54, h55, h56, h57]; done) | (simp only [h3, h33, Ay]; simp [h34, h47, h48, h54, h55, h56, h57]; omega)
 rw [hv]
 exact Oz n hn p hp h3 h33 h34 h47 h48 h54 h55 h56 h57  p.fWants [] _ 0 i1 _ rfl rfl (by omega) s32
 refine Ax h57 (Bd (Aa ((decide (p.fType = 9))) (fun h58 => ?_) (fun h58 => ?_)))
 refine Au h58 ?_
 have hv : Aj p = (p.fCodes.all Bt && (B6 p.fId 1 65535 && B6 ((p.fCodes.length : Nat) : Int) 1 4)) := by
  clear s0 s2 s32
  try simp only [Cs] at h34 h47 h48 h54 h55 h56 h57 h58
  unfold Aj Co
  first | (simp only [h3, h33, Ay]; done) | (simp only [h3, h33, Ay]; simp [h34, h47, h48, h54, h55, h56, h57, h58]; done) | (simp [h34, h47, h48, h54, h55, h56, h57, h58]; done) | (simp only [h3, h33, Ay]; simp [h34, h47, h48, h54, h55, h56, h57, h58]; omega)
 rw [hv]
 exact Lq n hn p hp h3 h33 h34 h47 h48 h54 h55 h56 h57 h58  p.fCodes [] _ 0 i1 _ rfl rfl (by omega) s32
 refine Ax h58 (Bd (Aa ((decide (p.fType = 10))) (fun h59 => ?_) (fun h59 => ?_)))
 refine Au h59 ?_
 have hv : Aj p = (p.fNames.all Cd && (B6 p.fId 1 65535 && B6 ((p.fNames.length : Nat) : Int) 1 4)) := by
  clear s0 s2 s32
  try simp only [Cs] at h34 h47 h48 h54 h55 h56 h57 h58 h59
  unfold Aj Co
  first | (simp only [h3, h33, Ay]; done) | (simp only [h3, h33, Ay]; simp [h34, h47, h48, h54, h55, h56, h57, h58, h59]; done) | (simp [h34, h47, h48, h54, h55, h56, h57, h58, h59]; done) | (simp only [h3, h33, Ay]; simp [h34, h47, h48, h54, h55, h56, h57, h58, h59]; omega)
 rw [hv]
 exact O0 n hn p hp h3 h33 h34 h47 h48 h54 h55 h56 h57 h58 h59  p.fNames [] _ 0 i1 _ rfl rfl (by omega) s32
 refine Ax h59 (Ah rfl ?_)
 have e : Aj p = (B6 p.fId 1 65535) := by
  clear s0 s2 s32
  try simp only [Cs] at h34 h47 h48 h54 h55 h56 h57 h58 h59
  unfold Aj Co
  first | (simp only [h3, h33, Ay]; done) | (simp only [h3, h33, Ay]; simp [h34, h47, h48, h54, h55, h56, h57, h58, h59]; done) | (simp [h34, h47, h48, h54, h55, h56, h57, h58, h59]; done) | (simp only [h3, h33, Ay]; simp [h34, h47, h48, h54, h55, h56, h57, h58, h59]; omega)
 ·rw [e]
  first | done | rfl
 refine Au (nT h33) (Ah rfl ?_)
 have e : Aj p = false := by
  clear s0 s2 s32
  unfold Aj Co
  first | (simp only [h3, h33, Ay]; done) | (simp only [h3, h33, Ay]; simp; done) | (simp; done) | (simp only [h3, h33, Ay]; simp; omega)
 ·rw [e]
  first | done | rfl
 refine Ac (nT h3) (Gd.bothE ?_ ?_)
 refine Ac (nT h3) (Ac (nT h3) (Ac (nT h3) (Ac (nT h3) (B4 (nT h3) (Au rfl (Ah rfl ?_))))))
 have e : Aj p = false := by
  clear s0 s2
  unfold Aj Co
  first | (simp only [h3, Ay]; done) | (simp only [h3, Ay]; simp; done) | (simp; done) | (simp only [h3, Ay]; simp; omega)
 ·rw [e]
  first | done | rfl
 refine Ac (nT h3) (Ac (nT h3) (Ac (nT h3) (Ac (nT h3) (B4 (nT h3) (Au rfl (Ah rfl ?_))))))
 have e : Aj p = false := by
  clear s0 s2
  unfold Aj Co
  first | (simp only [h3, Ay]; done) | (simp only [h3, Ay]; simp; done) | (simp; done) | (simp only [h3, Ay]; simp; omega)
 ·rw [e]
  first | done | rfl
theorem I8 {α : Type} {e : α → α → Bool} {a : List α} (h : Gz e a [] = true) : a = [] := by
 cases a with
 | nil => rfl
 | cons x l => simp [Gz] at h
theorem Aif (p : PacketV) : Aj p = Ag p := by
 unfold Aj Ag
 cases hi : B6 p.fType 1 14
 rfl
 simp only [za1]
 have hi2 : 1 ≤ p.fType ∧ p.fType ≤ 14 := by simpa [B6] using hi
 by_cases h2 : p.fType = 2
 have e1 : Az true p = { Bj p.fType with fCode := p.fCode, fPresent := p.fPresent && decide (p.fCode = 0) } := by unfold Az; simp [h2]
 have e2 : Az false p = { Bj p.fType with fCode := p.fCode, fPresent := p.fPresent } := by unfold Az; simp [h2]
 have k1 : Co p = B6 p.fCode 0 5 := by unfold Co; simp [h2]
 have k2 : Bz p = (B6 p.fCode 0 5 && (!p.fPresent || decide (p.fCode = 0))) := by unfold Bz; simp [h2]
 rw [e1, e2, k1, k2]
 cases hp : p.fPresent
 simp
 by_cases hc : p.fCode = 0
 simp [hc]
 have : Cx p { Bj p.fType with fCode := p.fCode, fPresent := true && decide (p.fCode = 0) } = false := by
  unfold Cx Gw
  simp [hp, hc]
 rw [this]
 simp [hc]
 have hn : Az true p = Az false p := by unfold Az; simp [h2]
 rw [hn]
 cases hs : Cx p (Az false p)
 rfl
 simp only [za1]
 have hl : K3 p (Az false p) = true := by
  unfold Cx at hs
  rw [zaf] at hs
  exact hs.1
 unfold K3 at hl
 simp only [zaf] at hl
 obtain ⟨⟨l1, l2⟩, l3⟩ := hl
 by_cases h1 : p.fType = 1
 unfold Co Bz Cc
 simp only [h1, if_true]
 generalize decide (((p.fWBody.size : Nat) : Int) ≤ 40) = b1
 generalize decide (((p.fPass.size : Nat) : Int) ≤ 60) = b2
 cases p.fHasWill <;> cases Dr p.fWTopic <;> cases B6 p.fLevel 0 255 <;> cases Bi p.fClient <;> cases B6 p.fKeep 0 65535 <;> cases Bi p.fUser <;> cases B6 p.fWQos 0 2 <;> cases b1 <;> cases b2 <;> rfl
 by_cases h3 : p.fType = 3
 unfold Co Bz
 simp only [h3, if_true, show ¬ (3 : Int) = 1 by decide, show ¬ (3 : Int) = 2 by decide, if_false]
 generalize decide (p.fQos = 0) = b1
 generalize decide (((p.fBody.size : Nat) : Int) ≤ 40) = b2
 cases B6 p.fQos 0 2 <;> cases Dr p.fTopic <;> cases B6 p.fId 1 65535 <;> cases b1 <;> cases b2 <;> rfl
 by_cases h8 : p.fType = 8
 have f2 : (Az false p).fNames = [] := by unfold Az; simp [h8, Bj]
 have f3 : (Az false p).fCodes = [] := by unfold Az; simp [h8, Bj]
 rw [f2] at l2
 rw [f3] at l3
 unfold Co Bz E5 Ib Iu F9
 rw [I8 l2, I8 l3]
 simp only [h8, if_true, if_false]
 cases p.fWants.all B0 <;> cases B6 p.fId 1 65535 <;> simp
 by_cases h9 : p.fType = 9
 have f1 : (Az false p).fWants = [] := by unfold Az; simp [h9, Bj]
 have f2 : (Az false p).fNames = [] := by unfold Az; simp [h9, Bj]
 rw [f1] at l1
 rw [f2] at l2
 unfold Co Bz E5 Ib Iu F9
 rw [I8 l1, I8 l2]
 simp only [h9, if_true, if_false]
 cases p.fCodes.all Bt <;> cases B6 p.fId 1 65535 <;> simp
 by_cases h10 : p.fType = 10
 have f1 : (Az false p).fWants = [] := by unfold Az; simp [h10, Bj]
 have f3 : (Az false p).fCodes = [] := by unfold Az; simp [h10, Bj]
 rw [f1] at l1
 rw [f3] at l3
 unfold Co Bz E5 Ib Iu F9
 rw [I8 l1, I8 l3]
 simp only [h10, if_true, if_false]
 cases p.fNames.all Cd <;> cases B6 p.fId 1 65535 <;> simp
 unfold Co Bz
 by_cases h12 : p.fType = 12 ∨ p.fType = 13 ∨ p.fType = 14
 rw [if_neg h1, if_neg h2, if_neg h3, if_pos h12, if_neg h1, if_neg h2, if_neg h3, if_neg (by omega), if_neg (by omega)]
 rw [if_neg h1, if_neg h2, if_neg h3, if_neg h12, if_neg h8, if_neg h9, if_neg h10, if_neg h1, if_neg h2, if_neg h3, if_pos (by omega)]
theorem Q6 (n : Nat) (hn : 1048576 < n) (p : PacketV) (hp : Gx p) : Di E0 (n + 10) 4 64 [.agg (A0 p)] = some (.sc (.bool (Ag p))) := by
 rw [← Aif]
 exact Aci n hn p hp
end
section
open Go
section
variable {β : Type} {n : Nat} {H : Ae} {L L' L1 L2 : List Ck} {G : Option β → Prop} {K : AV → Option β} {KH : KO β}
theorem K9 (n : Int) : bits .and .i64 n 255 = n % 256 := by
 have h255 : (BitVec.ofInt 64 255).toNat = 2 ^ 8 - 1 := by decide
 have key : (BitVec.ofInt 64 n &&& BitVec.ofInt 64 255).toNat = (n % ((2 ^ 64 : Nat) : Int)).toNat % 2 ^ 8 := by
  rw [BitVec.toNat_and, BitVec.toNat_ofInt, h255, Nat.and_two_pow_sub_one_eq_mod]
 show IntKind.i64.wrap ((BitVec.ofInt 64 n &&& BitVec.ofInt 64 255).toNat : Nat) = n % 256
 rw [key, IntKind.wrap_i64]
 omega
theorem Mg (n : Int) (h0 : 0 ≤ n) (h1 : n < 2 ^ 63) : IntKind.i64.wrap n = n := by rw [IntKind.wrap_i64]; omega
theorem Sb (i : Nat) (x y : Int) (hx0 : 0 ≤ x) (hx : x % 2 ^ i = 0) (hx1 : x < 9223372036854775808) (hy0 : 0 ≤ y) (hy : y < 2 ^ i) (hy1 : y < 9223372036854775808) : bits .or .i64 x y = x + y := bits_join .i64 63 (by decide) Mg i x y hx0 hx (by omega) hy0 hy (by omega)
theorem Aid (i : Nat) (x y : Int) (hx0 : 0 ≤ x) (hx : x % 2 ^ i = 0) (hx1 : x < 9223372036854775808) (hy0 : 0 ≤ y) (hy : y < 2 ^ i) (hy1 : y < 9223372036854775808) : bits .or .i64 y x = y + x := by
 have h := Sb i x y hx0 hx hx1 hy0 hy hy1
 obtain ⟨a, rfl⟩ := zbm hx0
 obtain ⟨b, rfl⟩ := zbm hy0
 rw [(bits_nat .i64 63 (by decide) Mg a b (by omega) (by omega)).2] at h
 rw [(bits_nat .i64 63 (by decide) Mg b a (by omega) (by omega)).2, Nat.or_comm, h, zbH]
theorem Acg {x y : Int} (hx0 : 0 ≤ x) (hx1 : x < 9223372036854775808) (hy0 : 0 ≤ y) (hy1 : y < 9223372036854775808) : 0 ≤ bits .or .i64 x y ∧ bits .or .i64 x y < 9223372036854775808 := by
 obtain ⟨a, rfl⟩ := zbm hx0
 obtain ⟨b, rfl⟩ := zbm hy0
 rw [(bits_nat .i64 63 (by decide) Mg a b (by omega) (by omega)).2]
 have := Nat.or_lt_two_pow (x := a) (y := b) (n := 63) (by omega) (by omega)
 omega
theorem Ni {x : Int} (h0 : 0 ≤ x) (h1 : x < 256) : bits .and .i64 x 127 = x % 128 := bits_mask .i64 63 (by decide) Mg 7 (by decide) x h0 (by omega)
theorem Rj {kb : IntKind} {a b : Int} (c : Int) (hc : (2 : Int) ^ b.toNat = c) (h0 : 0 ≤ b ∧ b ≤ 64) (h : Gd G (K (.sc (.int .i64 (a / c))))) : Gd G (En .shr (.sc (.int .i64 a)) (.sc (.int kb b)) fun t => K t) := by
 refine Eg ?_ h
 subst hc
 show (shI .shr .i64 a b).bind _ = _
 unfold shI
 rw [if_pos (show 0 ≤ b ∧ b ≤ ((IntKind.i64.bits : Nat) : Int) from h0)]
 rfl
theorem AdF {kb : IntKind} {a b : Int} (c : Int) (hc : (2 : Int) ^ b.toNat = c) (h0 : 0 ≤ b ∧ b ≤ 64) (h1 : -9223372036854775808 ≤ a * c) (h2 : a * c ≤ 9223372036854775807) (h : Gd G (K (.sc (.int .i64 (a * c))))) : Gd G (En .shl (.sc (.int .i64 a)) (.sc (.int kb b)) fun t => K t) := by
 refine Eg ?_ h
 subst hc
 show (shI .shl .i64 a b).bind _ = _
 unfold shI
 rw [if_pos (show 0 ≤ b ∧ b ≤ ((IntKind.i64.bits : Nat) : Int) from h0)]
 show K (.sc (.int .i64 (IntKind.i64.wrap (a * 2 ^ b.toNat)))) = _
 rw [Iv _ h1 h2]
theorem Gj {a b c : Int} (hc : bits .and .i64 a b = c) (h : Gd G (K (.sc (.int .i64 c)))) : Gd G (En .and (.sc (.int .i64 a)) (.sc (.int .i64 b)) fun t => K t) := by
 subst hc
 exact h
theorem AhP {a b c : Int} (hc : bits .or .i64 a b = c) (h : Gd G (K (.sc (.int .i64 c)))) : Gd G (En .or (.sc (.int .i64 a)) (.sc (.int .i64 b)) fun t => K t) := by
 subst hc
 exact h
theorem Ns {a b : Int} (h0 : 0 ≤ a) (h1 : a ≤ 9223372036854775807) (hb : 0 < b) (h : Gd G (K (.sc (.int .i64 (a / b))))) : Gd G (En .quo (.sc (.int .i64 a)) (.sc (.int .i64 b)) fun t => K t) := by
 refine Eg ?_ h
 have e : Acx .quo .i64 a b = some (.int .i64 (a / b)) := by
  show (if b = 0 then none else some (Value.int .i64 (IntKind.i64.wrap (a.tdiv b)))) = _
  rw [if_neg (by omega), Int.tdiv_eq_ediv_of_nonneg h0]
  have h2 := Int.ediv_nonneg h0 (Int.le_of_lt hb)
  have h3 := Int.ediv_le_self b h0
  rw [Iv _ (by omega) (by omega)]
 show (Acx .quo .i64 a b).bind _ = _
 rw [e]
 rfl
theorem Jz {a : Int} (h0 : 0 ≤ a) (h1 : a < 256) (h : Gd G (K (.sc (.int .i64 a)))) : Gd G (Z7 .i64 (.sc (.int .u8 a)) fun t => K t) := Fu (Iv _ (by omega) (by omega)) h
theorem Wa {m : Nat} {cells r : List AV} {i : Int} (h0 : 0 ≤ i ∧ i < (m : Nat)) (h1 : i.toNat * 1 < cells.length) (hr : cells.drop (i.toNat * 1) = r) (h : Gd G (K (.rp r))) : Gd G (Fv 1 (.ro m cells) (.sc (.int .i64 i)) fun t => K t) := by
 refine Eg ?_ h
 subst hr
 show (if 0 ≤ i ∧ i < (m : Nat) then (if i.toNat * 1 < cells.length then K (.rp (cells.drop (i.toNat * 1))) else none) else none) = _
 rw [if_pos h0, if_pos h1]
theorem Mv {α : Sort _} {γ : Type} {G : Option γ → Prop} {x : α} {f : α → Option γ} (P : α → Prop) (hx : P x) (h : ∀ j, P j → Gd G (f j)) : Gd G (E4 x f) := h x hx
theorem Nr {ty : Nat} {f : FuncId} {args : List AV} (hh : E0.hm f = true) (he : E0.ext f = none) (h : Gd G (Ff E0 n β f args H fun x H => KH x H)) : Gd G ((PR n β).call ty (.fn f [] []) args H fun x H => KH x H) := Ja hh he (by rw [zao]; exact h)
theorem AaZ (s : ByteArray) {a b : Nat} (hab : a ≤ b) (hb : b ≤ s.size) : Ai (s.extract a b) = .ro (b - a) (((Bp s).drop a).take (b - a)) := by
 have e1 : (s.extract a b).size = b - a := by rw [zau]; omega
 show AV.ro (s.extract a b).size (Bp (s.extract a b)) = _
 rw [e1]
 congr 1
 unfold Bp
 rw [ByteArray.data_extract, Array.toList_extract, List.extract_eq_take_drop, List.map_take, List.map_drop]
theorem Gl {s : ByteArray} {lo hi : Option AV} (a b : Int) (hlo : M6 lo 0 = some a) (hhi : M6 hi (s.size : Nat) = some b) (h0 : 0 ≤ a) (hab : a ≤ b) (hb : b ≤ (s.size : Nat)) (h : Gd G (K (Ai (s.extract a.toNat b.toNat)))) : Gd G (Q1 1 (Ai s) lo hi fun t => K t) := by
 refine Eg ?_ h
 rw [AaZ s (by omega) (by omega)]
 have e : (b - a).toNat = b.toNat - a.toNat := by omega
 have hl : I0 (Ai s) = some s.size := rfl
 unfold Q1
 rw [hl, zad, hlo, zad, hhi, zad, if_pos ⟨h0, hab, hb⟩]
 show K (.ro (b - a).toNat (((Bp s).drop (a.toNat * 1)).take ((b - a).toNat * 1))) = _
 rw [zbt, zbt, e]
theorem Re : ∀ (l : List UInt8), (l.map fun b => AV.sc (.int .u8 b.toNat)).mapM Ks = some l
 | [] => rfl
 | b :: l => by
  have e : Ks (su b.toNat) = some b := by
   show some (UInt8.ofNat ((b.toNat : Nat) : Int).toNat) = _
   rw [zbz, UInt8.ofNat_toNat]
  rw [zaq, zaG, e, Re l]
  rfl
theorem Un (s : ByteArray) : Ej H 1 (Ai s) = some (Bp s) := by
 show (if (Bp s).length = s.size * 1 then some (Bp s) else none) = _
 rw [if_pos (by rw [Fb]; omega)]
theorem Ya {x : AV} {ty : Nat} {s : ByteArray} (hs : Sep H L) (hty : ∃ i j, A4 ty = some i ∧ A4 i.elem = some j ∧ j.size = 1 ∧ j.cty = [5]) (hp : Pk L (.own x ty (Ai s)) L1) : Ej H 1 x = some (Bp s) ∧ I0 x = some s.size := by
 obtain ⟨I, hI, hn⟩ := hs
 obtain ⟨raw, J, R, X, q1, q2, q3, q4, q5, q6, q7⟩ := Yl (cb := Bp s) hty hp (Jq s) I hI
 have := (Tp q5 (Jq s)).1
 subst this
 exact ⟨q2, q1⟩
theorem AeH (s : ByteArray) : (⟨s.data.toList.toArray⟩ : ByteArray) = s := by
 cases s
 rfl
theorem Ll {x : AV} {ty : Nat} {s : ByteArray} (hs : Sep H L) (hty : ∃ i j, A4 ty = some i ∧ A4 i.elem = some j ∧ j.size = 1 ∧ j.cty = [5]) (hp : Pk L (.own x ty (Ai s)) L1) (h : Gd G (K (.sc (.string s)))) : Gd G (Rr x H fun t => K t) := by
 refine Eg ?_ h
 have e : (Bp s).mapM Ks = some s.data.toList := Re _
 unfold Rr
 rw [(Ya hs hty hp).1, zad, e, zad, AeH]
theorem AhO {s : ByteArray} (hs : Sep H L) (hb : s.size ≤ 140737488355328) (h : ∀ i H', Sep H' (.blk i (Bp s) false :: L) → Gd G (KH (.sl i 0 s.size 1) H')) : Gd G (Vj (.sc (.string s)) H fun x H => KH x H) := by
 refine Eg (b := Hz s.size 1 (Bp s) false H fun x H => KH x H) ?_ (Ct hs h)
 show (if s.size ≤ 140737488355328 then _ else _) = _
 rw [if_pos hb]
theorem Aez {d : Nat} : ∀ {l : List AV}, l.all Nd = true → VwL L (d + 1) l l
 | [], _ => .nil
 | x :: l, h => by
  rw [zap, zaf] at h
  cases x with
  | sc v => exact .cons .sc (Aez h.2)
  | _ => simp [Nd] at h
theorem vwB {d : Nat} {s : ByteArray} : VwL L (d + 1) (Bp s) (Bp s) := Aez (Jq s)
theorem Aje {s : ByteArray} : (Bp s).length = s.size * 1 := by rw [Fb, zbt]
theorem AaY (s t : ByteArray) : Ai (s ++ t) = .ro (s.size + t.size) (Bp s ++ Bp t) := by
 show AV.ro (s ++ t).size (Bp (s ++ t)) = _
 rw [zac]
 congr 1
 unfold Bp
 rw [zbs, Array.toList_append, za2]
theorem Pv {ty : Nat} {x y : AV} {s t : ByteArray} (hs : Sep H L) (hty : ∃ i j, A4 ty = some i ∧ A4 i.elem = some j ∧ j.size = 1 ∧ j.cty = [5]) (hx : Pk L (.own x ty (Ai s)) L1) (hy : Src H L1 1 [5] y t.size (Bp t) L2) (hb : s.size + t.size ≤ 140737488355328)
  (h : ∀ x' H', Bn x' = true → Sep H' (.own x' ty (Ai (s ++ t)) :: L2) → Gd G (KH x' H')) : Gd G (K6 1 1 x y H fun x H => KH x H) := by
 rw [AaY] at h
 exact Xr hs hty hx hy (P7 (by rw [AaE (w := 1) rfl, Fb, zbt]) (Jq t)) (by omega) h
theorem Se {s : ByteArray} : Src H L 1 [5] (Ai s) s.size (Bp s) L := Aeq rfl Aje (Jq s)
theorem Af7 {ty : Nat} {x : AV} {s t : ByteArray} (hs : Sep H L) (hty : ∃ i j, A4 ty = some i ∧ A4 i.elem = some j ∧ j.size = 1 ∧ j.cty = [5]) (hx : Pk L (.own x ty (Ai s)) L1) (hb : s.size + t.size ≤ 140737488355328)
  (h : ∀ x' H', Bn x' = true → Sep H' (.own x' ty (Ai (s ++ t)) :: L1) → Gd G (KH x' H')) : Gd G (Vi 1 x (ss t) H fun x H => KH x H) := by
 refine Eg (b := K6 1 1 x (Ai t) H fun x H => KH x H) ?_ (Pv hs hty hx Se hb h)
 have e1 : I0 (Ai t) = some t.size := rfl
 have e2 : asS (ss t) = some t := rfl
 unfold Vi K6
 rw [e1, e2, Un]
 simp only [zad, Vz, if_true]
theorem R8 {ty : Nat} {x : AV} {s : ByteArray} {i : Nat} {z w : Int} {a : Bool} (hs : Sep H L) (hx : Pk L (.own x ty (Ai s)) L1) (hp : Pk L1 (.blk i [.sc (.int .u8 z), .sc (.int .u8 w)] a) L2) (hty : ∃ i j, A4 ty = some i ∧ A4 i.elem = some j ∧ j.size = 1 ∧ j.cty = [5]) (hb : (0 ≤ z ∧ z < 256) ∧ (0 ≤ w ∧ w < 256) ∧ s.size + 2 ≤ 140737488355328)
  (h : ∀ x' H', Bn x' = true → Sep H' (.own x' ty (Ai (Bb (Bb s z) w)) :: L2) → Gd G (KH x' H')) : Gd G (K6 1 1 x (.sl i 0 2 1) H fun x H => KH x H) := by
 have e1 : (zaj 2 [5]).flatten = [5, 5] := rfl
 have e3 : Bp (Bb s z) = Bp s ++ [su z] := by
  have := Hm s z hb.1.1 hb.1.2
  exact (AV.ro.inj this).2
 rw [Hm _ w hb.2.1.1 hb.2.1.2, Al, e3, zah] at h
 exact Xr (m := 2) (cb := [.sc (.int .u8 z), .sc (.int .u8 w)]) hs hty hx (Wr hp rfl rfl (by rw [e1]; exact .sc (.sc .nil)) (by rw [e1]; exact ⟨trivial, trivial, trivial⟩)) (by rw [e1]; exact ⟨trivial, trivial, trivial⟩) (by omega) fun x' H' lx hs' => h x' H' lx hs'
theorem Sep.closeB2 {i : Nat} {z w : Int} (hs : Sep H L) (hp : Pk L (.blk i [.sc (.int .u8 z), .sc (.int .u8 w)] true) L1) (hz : (0 ≤ z ∧ z < 256) ∧ 0 ≤ w ∧ w < 256) : Sep H (.own (.sl i 0 2 1) 22 (Ai (Bb (Bb ⟨#[]⟩ z) w)) :: L1) := by
 have e3 : Bp (Bb ⟨#[]⟩ z) = Bp ⟨#[]⟩ ++ [su z] := (AV.ro.inj (Hm ⟨#[]⟩ z hz.1.1 hz.1.2)).2
 rw [Hm _ w hz.2.1 hz.2.2, Al, e3]
 exact Sep.closeR (pre := []) (post := []) (cells := [su z, su w]) (sz := 1) (m := 2) ⟨_, _, rfl, rfl, rfl, rfl⟩ (hs.pick hp) rfl rfl
end
end
section
open Go
abbrev bs0 : ByteArray := ⟨#[]⟩
def Ap (b : ByteArray) (n : Int) : ByteArray := Bb (Bb b (n / 256 % 256 % 256)) (n % 256 % 256)
def Dc (b x : ByteArray) : ByteArray := if decide (60 < ((x.size : Nat) : Int)) then b else Ap b ((x.size : Nat) : Int) ++ x
def Ao (b s : ByteArray) : ByteArray := if Bi s then Ap b ((s.size : Nat) : Int) ++ s else b
def J3 : Nat → ByteArray → Int → ByteArray
  | 0, b, n => b
  | f + 1, b, n => if 127 < n then J3 f (Bb b ((n % 128 + 128) % 256)) (n / 128) else Bb b (n % 256)
def Dl (b : ByteArray) (n : Int) : ByteArray := if B6 n 0 268435455 then J3 4 b n else b
def Bc (b : Bool) (n : Int) : Int := if b then n else 0
def Cf (p : PacketV) : Int := Bc p.fClean 2 + Bc p.fHasWill 4 + 8 * p.fWQos + Bc p.fWRetain 32 + Bc p.fHasPass 64 + Bc p.fHasUser 128
def Da (p : PacketV) : Int :=
  if p.fType = 3 then 16 * p.fType + Bc p.fDup 8 + 2 * p.fQos + Bc p.fRetain 1
  else if p.fType = 6 ∨ p.fType = 8 ∨ p.fType = 10 then 16 * p.fType + 2
  else 16 * p.fType
def mqtt : ByteArray := ⟨#[77, 81, 84, 84]⟩
def C8 (p : PacketV) : ByteArray := Ao (Ap (Bb (Bb (Ao bs0 mqtt) (p.fLevel % 256)) (Cf p % 256)) p.fKeep) p.fClient
def Cu (p : PacketV) (b : ByteArray) : ByteArray := if p.fHasWill then Dc (Ao b p.fWTopic) p.fWBody else b
def Cb (p : PacketV) (b : ByteArray) : ByteArray := if p.fHasUser then Ao b p.fUser else b
def Bu (p : PacketV) (b : ByteArray) : ByteArray := if p.fHasPass then Dc b p.fPass else b
def Cv (p : PacketV) : ByteArray := Bu p (Cb p (Cu p (C8 p)))
def Bo (b : ByteArray) (l : List WantV) : ByteArray := l.foldl (fun b w => Bb (Ao b w.fFilter) (w.fQos % 256)) b
def Dy (b : ByteArray) (l : List Int) : ByteArray := l.foldl (fun b c => Bb b (c % 256)) b
def Fd (b : ByteArray) (l : List ByteArray) : ByteArray := l.foldl Ao b
def Et (p : PacketV) (b : ByteArray) : ByteArray := Fd (Dy (Bo b p.fWants) p.fCodes) p.fNames
def Dh (p : PacketV) : ByteArray := (if 0 < p.fQos then Ap (Ao bs0 p.fTopic) p.fId else Ao bs0 p.fTopic) ++ p.fBody
def Cw (p : PacketV) : ByteArray :=
  if p.fType = 1 then Cv p
  else if p.fType = 2 then Bb (Bb bs0 (Bc p.fPresent 1 % 256)) (p.fCode % 256)
  else if p.fType = 3 then Dh p
  else if p.fType = 12 ∨ p.fType = 13 ∨ p.fType = 14 then bs0
  else Et p (Ap bs0 p.fId)
def Hi (p : PacketV) : ByteArray := Dl (Bb bs0 (Da p % 256)) (((Cw p).size : Nat) : Int) ++ Cw p
def Fe (p : PacketV) : ByteArray := if Ag p then Hi p else bs0
theorem Ak (b : ByteArray) (n : Int) : (Ap b n).size = b.size + 2 := by simp only [Ap, Al]
theorem Hv (b x : ByteArray) : (Dc b x).size ≤ b.size + 62 := by
  unfold Dc
  split
  · omega
  · rename_i h
    rw [zac, Ak]
    simp only [decide_eq_true_eq] at h
    omega
theorem Fo {s : ByteArray} (h : Bi s = true) : s.size ≤ 60 := by
  unfold Bi at h
  rw [zaf] at h
  exact of_decide_eq_true h.1
theorem C3 (b s : ByteArray) : (Ao b s).size ≤ b.size + 62 := by
  unfold Ao
  split
  · rename_i h
    have := Fo h
    rw [zac, Ak]
    omega
  · omega
theorem Ev : ∀ (l : List WantV) (b : ByteArray), (Bo b l).size ≤ b.size + 63 * l.length
  | [], b => zam _
  | w :: l, b => by
    have h1 := Ev l (Bb (Ao b w.fFilter) (w.fQos % 256))
    have h2 := C3 b w.fFilter
    rw [Al] at h1
    simp only [zar]
    exact zaB h1 (by omega)
theorem Eu : ∀ (l : List Int) (b : ByteArray), (Dy b l).size ≤ b.size + l.length
  | [], b => zam _
  | c :: l, b => by
    have h1 := Eu l (Bb b (c % 256))
    rw [Al] at h1
    simp only [zar]
    exact zaB h1 (by omega)
theorem Kq : ∀ (l : List ByteArray) (b : ByteArray), (Fd b l).size ≤ b.size + 62 * l.length
  | [], b => zam _
  | s :: l, b => by
    have h1 := Kq l (Ao b s)
    have h2 := C3 b s
    simp only [zar]
    exact zaB h1 (by omega)
theorem Xx : ∀ (f : Nat) (b : ByteArray) (n : Int), (J3 f b n).size ≤ b.size + f
  | 0, b, n => zam _
  | f + 1, b, n => by
    unfold J3
    split
    · have := Xx f (Bb b ((n % 128 + 128) % 256)) (n / 128)
      rw [Al] at this
      omega
    · rw [Al]
      omega
theorem Uc (b : ByteArray) (n : Int) : (Dl b n).size ≤ b.size + 4 := by
  unfold Dl
  split
  · exact Xx 4 b n
  · omega
def Br (B : ByteArray) (a : Int) : Int × Int × Bool := if a < 0 ∨ ((B.size : Nat) : Int) - 2 < a then (0, 0, false) else (A7 B a * 256 + A7 B (a + 1), a + 2, true)
def Bl (B : ByteArray) (a : Int) : ByteArray × Int × Bool :=
  if (Br B a).2.2 = false ∨ 60 < (Br B a).1 ∨ ((B.size : Nat) : Int) - (Br B a).2.1 < (Br B a).1 then (bs0, 0, false)
  else (B.extract (Br B a).2.1.toNat ((Br B a).2.1 + (Br B a).1).toNat, (Br B a).2.1 + (Br B a).1, true)
def Ce (B : ByteArray) (a : Int) : ByteArray × Int × Bool := if (Bl B a).2.2 && Bi (Bl B a).1 then Bl B a else (bs0, 0, false)
theorem F1 {B : ByteArray} {a w x : Int} {o : Bool} (h : Br B a = (w, x, o)) : 0 ≤ w ∧ w < 65536 ∧ 0 ≤ x ∧ x ≤ ((B.size : Nat) : Int) ∧ (o = true → x = a + 2 ∧ 0 ≤ a) := by
  unfold Br at h
  have h1 := Ed B a
  have h2 := Ed B (a + 1)
  split at h <;> cases h <;> refine ⟨by omega, by omega, by omega, by omega, fun _ => ?_⟩
  · rename_i h; cases h
  · omega
theorem Fj {B v : ByteArray} {a x : Int} {o : Bool} (h : Bl B a = (v, x, o)) : v.size ≤ 60 ∧ 0 ≤ x ∧ x ≤ ((B.size : Nat) : Int) ∧ (o = true → a + 2 ≤ x ∧ 0 ≤ a) := by
  unfold Bl at h
  obtain ⟨w, y, q, e⟩ : ∃ w y q, Br B a = (w, y, q) := ⟨_, _, _, rfl⟩
  have hb := F1 e
  rw [e] at h
  split at h
  · cases h
    exact ⟨by decide, by omega, by omega, fun h => by cases h⟩
  · rename_i hn
    simp only [not_or, Int.not_lt] at hn
    cases h
    have h5 := hb.2.2.2.2 (by simpa using hn.1)
    refine ⟨?_, by show 0 ≤ y + w; omega, by show y + w ≤ _; omega, fun _ => ⟨by show a + 2 ≤ y + w; omega, h5.2⟩⟩
    rw [zau]
    show min (y + w).toNat B.size - y.toNat ≤ 60
    omega
theorem Gp {B v : ByteArray} {a x : Int} {o : Bool} (h : Ce B a = (v, x, o)) : v.size ≤ 60 ∧ 0 ≤ x ∧ x ≤ ((B.size : Nat) : Int) ∧ (o = true → a + 2 ≤ x ∧ 0 ≤ a) := by
  unfold Ce at h
  split at h
  · exact Fj h
  · cases h
    exact ⟨by decide, by omega, by omega, fun h => by cases h⟩
abbrev Sc := Int × Bool
def Kj (B : ByteArray) (s : Sc) : Int × Sc := if s.2 || decide (((B.size : Nat) : Int) ≤ s.1) then (0, s.1, true) else (A7 B s.1, s.1 + 1, s.2)
def G3 (B : ByteArray) (s : Sc) : Int × Sc := if s.2 || !(Br B s.1).2.2 then (0, s.1, true) else ((Br B s.1).1, (Br B s.1).2.1, s.2)
def Es (B : ByteArray) (s : Sc) : ByteArray × Sc := if s.2 || !(Bl B s.1).2.2 then (bs0, s.1, true) else ((Bl B s.1).1, (Bl B s.1).2.1, s.2)
theorem On {B : ByteArray} {a b v : Int} {p q : Bool} (h : Kj B (a, p) = (v, b, q)) (h0 : 0 ≤ a) (h1 : a ≤ ((B.size : Nat) : Int)) : (0 ≤ v ∧ v < 256) ∧ 0 ≤ b ∧ b ≤ ((B.size : Nat) : Int) := by
  unfold Kj at h
  have := Ed B a
  split at h
  · cases h
    exact ⟨by omega, h0, h1⟩
  · rename_i hn
    simp only [zaN, not_or, decide_eq_true_eq, Int.not_le] at hn
    cases h
    exact ⟨this, by omega, by omega⟩
theorem Q9 {B : ByteArray} {a b v : Int} {p q : Bool} (h : G3 B (a, p) = (v, b, q)) (h0 : 0 ≤ a) (h1 : a ≤ ((B.size : Nat) : Int)) : (0 ≤ v ∧ v < 65536) ∧ 0 ≤ b ∧ b ≤ ((B.size : Nat) : Int) := by
  unfold G3 at h
  obtain ⟨w, y, o, e⟩ : ∃ w y o, Br B a = (w, y, o) := ⟨_, _, _, rfl⟩
  have hb := F1 e
  rw [show (a, p).1 = a from rfl, e] at h
  split at h <;> cases h
  · omega
  · show (0 ≤ w ∧ w < 65536) ∧ 0 ≤ y ∧ y ≤ _
    omega
theorem Fg {B v : ByteArray} {a b : Int} {p q : Bool} (h : Es B (a, p) = (v, b, q)) (h0 : 0 ≤ a) (h1 : a ≤ ((B.size : Nat) : Int)) : v.size ≤ 60 ∧ 0 ≤ b ∧ b ≤ ((B.size : Nat) : Int) := by
  unfold Es at h
  obtain ⟨w, y, o, e⟩ : ∃ w y o, Bl B a = (w, y, o) := ⟨_, _, _, rfl⟩
  have hb := Fj e
  rw [show (a, p).1 = a from rfl, e] at h
  split at h <;> cases h
  · exact ⟨by decide, h0, h1⟩
  · exact ⟨hb.1, hb.2.1, hb.2.2.1⟩
def Ee (B : ByteArray) (a : Int) : Nat → Int → Int → Int × Int × Int
  | 0, _, _ => (0, 0, 2)
  | f + 1, i, n =>
    if ((B.size : Nat) : Int) ≤ a + i then (0, 0, 1)
    else if A7 B (a + i) < 128 then (if 0 < i ∧ A7 B (a + i) = 0 then (0, 0, 2) else (bits .or .i64 n (bits .and .i64 (A7 B (a + i)) 127 * 2 ^ (7 * i).toNat), a + i + 1, 0))
    else Ee B a f (i + 1) (bits .or .i64 n (bits .and .i64 (A7 B (a + i)) 127 * 2 ^ (7 * i).toNat))
def De (B : ByteArray) (a : Int) : Int × Int × Int := if a < 0 ∨ ((B.size : Nat) : Int) < a then (0, 0, 2) else Ee B a 4 0 0
def Gi (f m : Int) : Bool := !decide (bits .and .i64 f m = 0)
def Fh (B : ByteArray) : PacketV :=
  let r0 := Es B (0, false)
  let r1 := Kj B r0.2
  let r2 := Kj B r1.2
  let r3 := G3 B r2.2
  let r4 := Es B r3.2
  let q5 := if Gi r2.1 4 then Es B r4.2 else (bs0, r4.2)
  let q6 := if Gi r2.1 4 then Es B q5.2 else (bs0, q5.2)
  let q7 := if Gi r2.1 128 then Es B q6.2 else (bs0, q6.2)
  let q8 := if Gi r2.1 64 then Es B q7.2 else (bs0, q7.2)
  { Bj 1 with fLevel := r1.1, fKeep := r3.1, fClient := r4.1, fClean := Gi r2.1 2, fHasWill := Gi r2.1 4, fHasPass := Gi r2.1 64, fHasUser := Gi r2.1 128, fWQos := if Gi r2.1 4 then bits .and .i64 (r2.1 / 8) 3 else 0, fWRetain := if Gi r2.1 4 then Gi r2.1 32 else false, fWTopic := q5.1, fWBody := q6.1, fUser := q7.1, fPass := q8.1 }
def Cp (t : Int) (B : ByteArray) : Nat → Sc → List WantV → List Int → List ByteArray → List WantV × List Int × List ByteArray
  | 0, _, ws, cs, ns => (ws, cs, ns)
  | f + 1, s, ws, cs, ns =>
    if (!s.2 && decide (s.1 < ((B.size : Nat) : Int))) && decide (((ws.length : Nat) : Int) + ((cs.length : Nat) : Int) + ((ns.length : Nat) : Int) ≤ 4) then
      (if t = 8 then Cp t B f (Kj B (Es B s).2).2 (ws ++ [⟨(Es B s).1, (Kj B (Es B s).2).1⟩]) cs ns
      else if t = 9 then Cp t B f (Kj B s).2 ws (cs ++ [(Kj B s).1]) ns
      else if t = 10 then Cp t B f (Es B s).2 ws cs (ns ++ [(Es B s).1])
      else Cp t B f (s.1, true) ws cs ns)
    else (ws, cs, ns)
def D2 (first : Int) (B : ByteArray) : PacketV :=
  let t := first / 16
  if t = 1 then Fh B
  else if t = 2 then { Bj t with fPresent := decide ((Kj B (0, false)).1 = 1), fCode := (Kj B (Kj B (0, false)).2).1 }
  else if t = 3 then
    (let r := Es B (0, false)
     let w := if 0 < bits .and .i64 (first / 2) 3 then G3 B r.2 else (0, r.2)
     { Bj t with fDup := Gi first 8, fQos := bits .and .i64 (first / 2) 3, fRetain := Gi first 1, fTopic := r.1, fId := w.1, fBody := if w.2.2 then bs0 else B.extract w.2.1.toNat B.size })
  else if t = 12 ∨ t = 13 ∨ t = 14 then Bj t
  else { Bj t with fId := (G3 B (0, false)).1, fWants := (Cp t B 8 (G3 B (0, false)).2 [] [] []).1, fCodes := (Cp t B 8 (G3 B (0, false)).2 [] [] []).2.1, fNames := (Cp t B 8 (G3 B (0, false)).2 [] [] []).2.2 }
def B8 (first : Int) : Bool :=
  if first / 16 = 3 then (!decide (bits .and .i64 (first % 16 / 2) 3 = 3) && (decide (0 < bits .and .i64 (first % 16 / 2) 3) || decide (bits .and .i64 (first % 16) 8 = 0)))
  else if first / 16 = 6 ∨ first / 16 = 8 ∨ first / 16 = 10 then decide (first % 16 = 2)
  else B6 (first / 16) 1 14 && decide (first % 16 = 0)
def Cy (first : Int) : Bool :=
  if first / 16 = 0 ∨ first / 16 = 15 then false
  else if first / 16 = 3 then (decide (first % 16 / 2 % 4 < 3) && (decide (0 < first % 16 / 2 % 4) || decide (first % 16 < 8)))
  else if first / 16 = 6 ∨ first / 16 = 8 ∨ first / 16 = 10 then decide (first % 16 = 2)
  else decide (first % 16 = 0)
theorem AbV : ∀ X : Fin 256, Cy ((X.val : Nat) : Int) = B8 ((X.val : Nat) : Int) := by decide +kernel
theorem Ad8 {f : Int} (h0 : 0 ≤ f) (h1 : f < 256) : Cy f = B8 f := by
  obtain ⟨k, rfl⟩ := zbm h0
  exact AbV ⟨k, by omega⟩
theorem T0 {x i : Int} (hx : 0 ≤ x ∧ x ≤ 127) (hi : 0 ≤ i ∧ i ≤ 3) : 0 ≤ x * 2 ^ (7 * i).toNat ∧ x * 2 ^ (7 * i).toNat ≤ 268435456 := by
  have : i = 0 ∨ i = 1 ∨ i = 2 ∨ i = 3 := by omega
  rcases this with rfl | rfl | rfl | rfl <;> simp <;> omega
theorem Xz (B : ByteArray) (a : Int) (ha : 0 ≤ a) : ∀ (f : Nat) (i z : Int), 0 ≤ i → i + f = 4 → (0 ≤ z ∧ z < 9223372036854775808) → (Ee B a f i z).2.2 = 0 → (0 ≤ (Ee B a f i z).1 ∧ (Ee B a f i z).1 < 9223372036854775808) ∧ a ≤ (Ee B a f i z).2.1 ∧ (Ee B a f i z).2.1 ≤ ((B.size : Nat) : Int)
  | 0, i, z, _, _, _, h => by simp [Ee] at h
  | f + 1, i, z, h0, h1, hz, h => by
    rw [Ee] at h ⊢
    have hb := Ed B (a + i)
    have hs := T0 (x := bits .and .i64 (A7 B (a + i)) 127) (i := i) (by rw [Ni hb.1 hb.2]; omega) (by omega)
    have ho := Acg (x := z) (y := bits .and .i64 (A7 B (a + i)) 127 * 2 ^ (7 * i).toNat) hz.1 hz.2 hs.1 (by omega)
    split at h
    · simp at h
    rename_i h2
    rw [if_neg h2]
    split at h
    · rename_i h3
      rw [if_pos h3]
      split at h
      · simp at h
      rename_i h4
      rw [if_neg h4]
      exact ⟨ho, by show a ≤ a + i + 1; omega, by show a + i + 1 ≤ _; omega⟩
    · rename_i h3
      rw [if_neg h3]
      exact Xz B a ha f (i + 1) _ (by omega) (by omega) ho h
theorem Ph {B : ByteArray} {a : Int} (h : (De B a).2.2 = 0) : (0 ≤ (De B a).1 ∧ (De B a).1 < 9223372036854775808) ∧ a ≤ (De B a).2.1 ∧ (De B a).2.1 ≤ ((B.size : Nat) : Int) := by
  unfold De at h ⊢
  split at h
  · simp at h
  rename_i h2
  rw [if_neg h2]
  exact Xz B a (by omega) 4 0 0 (by omega) (by omega) (by omega) h
def G5 (p : PacketV) (q5 q6 q7 q8 : ByteArray × Int × Bool) : PacketV :=
  if !q5.2.2 || !q6.2.2 then Bj 0 else if !q7.2.2 then Bj 0 else if !q8.2.2 then Bj 0 else { p with fWTopic := q5.1, fWBody := q6.1, fUser := q7.1, fPass := q8.1 }
def El (c : Bool) (x : Int → ByteArray × Int × Bool) (a : Int) : ByteArray × Int × Bool := if c then x a else (bs0, a, true)
def G6 (B : ByteArray) (f : Int) (p : PacketV) (a : Int) : PacketV :=
  G5 p (El (decide (0 < bits .and .i64 f 4)) (Ce B) a)
    (El (decide (0 < bits .and .i64 f 4)) (Bl B) (El (decide (0 < bits .and .i64 f 4)) (Ce B) a).2.1)
    (El (decide (0 < bits .and .i64 f 128)) (Ce B) (El (decide (0 < bits .and .i64 f 4)) (Bl B) (El (decide (0 < bits .and .i64 f 4)) (Ce B) a).2.1).2.1)
    (El (decide (0 < bits .and .i64 f 64)) (Bl B) (El (decide (0 < bits .and .i64 f 128)) (Ce B) (El (decide (0 < bits .and .i64 f 4)) (Bl B) (El (decide (0 < bits .and .i64 f 4)) (Ce B) a).2.1).2.1).2.1)
def F5 (B : ByteArray) (f l k : Int) (c : ByteArray) : PacketV := { Bj 1 with fLevel := l, fClean := decide (0 < bits .and .i64 f 2), fHasWill := decide (0 < bits .and .i64 f 4), fWQos := bits .and .i64 (f / 8) 3, fWRetain := decide (0 < bits .and .i64 f 32), fHasPass := decide (0 < bits .and .i64 f 64), fHasUser := decide (0 < bits .and .i64 f 128), fKeep := k, fClient := c }
def G7 (B : ByteArray) (a : Int) (r3 : Int × Int × Bool) (r4 : ByteArray × Int × Bool) : PacketV :=
  if !r3.2.2 || !r4.2.2 then Bj 0 else G6 B (A7 B (a + 1)) (F5 B (A7 B (a + 1)) (A7 B a) r3.1 r4.1) r4.2.1
def Hj (B : ByteArray) (r0 : ByteArray × Int × Bool) : PacketV :=
  if !r0.2.2 || (!(r0.1.toList == mqtt.toList) || decide (((B.size : Nat) : Int) - 2 < r0.2.1)) then Bj 0 else G7 B r0.2.1 (Br B (r0.2.1 + 2)) (Ce B (Br B (r0.2.1 + 2)).2.1)
def A1 (B : ByteArray) : PacketV := Hj B (Ce B 0)
def Kk (first : Int) : Int := bits .and .i64 (first / 2) 3
def F8 (B : ByteArray) : Nat → Int → List Int → List Int
  | 0, _, cs => cs
  | f + 1, a, cs => if a < ((B.size : Nat) : Int) then F8 B f (a + 1) (cs ++ [A7 B a]) else cs
def Db (t : Int) (B : ByteArray) : Nat → Int → List WantV → List ByteArray → Option (List WantV × List ByteArray)
  | 0, _, ws, ns => some (ws, ns)
  | f + 1, a, ws, ns =>
    if decide (a < ((B.size : Nat) : Int)) && (decide (t = 8) || decide (t = 10)) then
      (if (Ce B a).2.2 then
        (if t = 10 then Db t B f (Ce B a).2.1 ws (ns ++ [(Ce B a).1])
        else if (Ce B a).2.1 = ((B.size : Nat) : Int) then none
        else Db t B f ((Ce B a).2.1 + 1) (ws ++ [⟨(Ce B a).1, A7 B (Ce B a).2.1⟩]) ns)
      else none)
    else some (ws, ns)
def K4 (t id : Int) (cs : List Int) : Option (List WantV × List ByteArray) → PacketV
  | none => Bj 0
  | some r => { Bj t with fId := id, fCodes := cs, fWants := r.1, fNames := r.2 }
def Hk (first : Int) (B : ByteArray) (c : ByteArray) (w : Int × Int × Bool) : PacketV :=
  if !w.2.2 then Bj 0 else { Bj (first / 16) with fDup := decide (0 < bits .and .i64 first 8), fQos := Kk first, fRetain := decide (0 < bits .and .i64 first 1), fTopic := c, fId := w.1, fBody := B.extract w.2.1.toNat B.size }
def Fs (t : Int) (B : ByteArray) (w : Int × Int × Bool) : PacketV :=
  if !w.2.2 then Bj 0 else K4 t w.1 (if t = 9 then F8 B (B.size + 1) w.2.1 [] else []) (Db t B (B.size + 1) w.2.1 [] [])
def Dx (first : Int) (B : ByteArray) : PacketV :=
  if first / 16 = 1 then A1 B
  else if first / 16 = 2 ∧ ((B.size : Nat) : Int) = 2 then { Bj (first / 16) with fPresent := A7 B 0 == 1, fCode := A7 B 1 }
  else if first / 16 = 3 then (if !(Ce B 0).2.2 then Bj 0 else Hk first B (Ce B 0).1 (if 0 < Kk first then Br B (Ce B 0).2.1 else (0, (Ce B 0).2.1, true)))
  else Fs (first / 16) B (if first / 16 < 12 then Br B 0 else (0, 0, true))
end
section
open Go
theorem Ou {a b : ByteArray} (h : (a.toList == b.toList) = true) : a = b := eqB.1 h
theorem Aam {α : Type} {e : α → α → Bool} (he : ∀ x y, e x y = true → x = y) : ∀ (a b : List α), a.length = b.length → Iz e a b = true → a = b
 | [], [], _, _ => rfl
 | x :: a, y :: b, h, h2 => by
  rw [Iz] at h2
  split at h2
  case isFalse => cases h2
  rw [he x y (by assumption), Aam he a b (by simpa using h) h2]
 | [], _ :: _, h, _ => by simp at h
 | _ :: _, [], h, _ => by simp at h
theorem Qp {α : Type} {e : α → α → Bool} (he : ∀ x y, e x y = true → x = y) {a b : List α} (h : Gz e a b = true) : a = b := by
 unfold Gz at h
 split at h
 exact Aam he a b (by assumption) h
 cases h
theorem Agk {a b : PacketV} (h : Cx a b = true) : a = b := by
 unfold Cx K3 Gw at h
 simp only [zaf] at h
 obtain ⟨⟨⟨k1, k2⟩, k3⟩, h⟩ := h
 obtain ⟨⟨⟨⟨⟨⟨⟨⟨⟨⟨⟨⟨⟨⟨⟨⟨⟨⟨⟨⟨⟨h1, h2⟩, h3⟩, h4⟩, h5⟩, h6⟩, h7⟩, h8⟩, h9⟩, h10⟩, h11⟩, h12⟩, h13⟩, h14⟩, h15⟩, h16⟩, h17⟩, h18⟩, h19⟩, h20⟩, h21⟩, h22⟩ := h
 have w1 := Qp (fun x y e => by
  unfold I9 at e
  rw [zaf] at e
  cases x
  cases y
  simp only [WantV.mk.injEq]
  exact ⟨Ou e.1, by simpa using e.2⟩) k1
 have w2 := Qp (fun x y e => Ou e) k2
 have w3 := Qp (fun x y e => by simpa [Xj] using e) k3
 cases a
 cases b
 simp only [PacketV.mk.injEq]
 exact ⟨by simpa using h1, by simpa using h2, by simpa using h3, by simpa using h4, by simpa using h5, Ou h6, Ou h7, Ou h8, by simpa using h9, by simpa using h10, by simpa using h11, by simpa using h12, Ou h13, Ou h14, by simpa using h15, by simpa using h16, by simpa using h17, Ou h18, by simpa using h19, Ou h20, by simpa using h21, by simpa using h22, w1, w2, w3⟩
theorem Gv {p : PacketV} (h : Ag p = true) : (1 ≤ p.fType ∧ p.fType ≤ 14) ∧ p = Az false p ∧ Bz p = true := by
 unfold Ag at h
 simp only [zaf] at h
 refine ⟨by simpa [B6] using h.1, Agk h.2.1, h.2.2⟩
structure PkF (p : PacketV) : Prop where
 ty : 1 ≤ p.fType ∧ p.fType ≤ 14
 q : 0 ≤ p.fQos ∧ p.fQos ≤ 2
 wq : 0 ≤ p.fWQos ∧ p.fWQos ≤ 2
 i : 0 ≤ p.fId ∧ p.fId ≤ 65535
theorem Gt {x a b : Int} : B6 x a b = true ↔ a ≤ x ∧ x ≤ b := by simp [B6]
theorem K0 {p : PacketV} (h : Ag p = true) : (p.fType ≠ 3 → p.fQos = 0) ∧ (p.fType ≠ 1 → p.fWQos = 0) ∧ (p.fHasWill = false → p.fWQos = 0) ∧ (p.fQos = 0 → p.fType = 3 → p.fId = 0) ∧ (p.fType = 1 ∨ p.fType = 2 ∨ 12 ≤ p.fType → p.fId = 0) ∧ (p.fType ≠ 8 → p.fWants = []) ∧ (p.fType ≠ 9 → p.fCodes = []) ∧ (p.fType ≠ 10 → p.fNames = []) := by
 obtain ⟨ht, hn, hk⟩ := Gv h
 have q1 := congrArg PacketV.fQos hn
 have q2 := congrArg PacketV.fWQos hn
 have q3 := congrArg PacketV.fId hn
 have q4 := congrArg PacketV.fWants hn
 have q5 := congrArg PacketV.fCodes hn
 have q6 := congrArg PacketV.fNames hn
 clear hn hk h
 unfold Az D9 Ea at q1 q2 q3 q4 q5 q6
 refine ⟨fun e => ?_, fun e => ?_, fun e => ?_, fun e e2 => ?_, fun e => ?_, fun e => ?_, fun e => ?_, fun e => ?_⟩
 ·rw [q1]; (repeat' split) <;> first | rfl | (exfalso; omega) | contradiction
 ·rw [q2]; (repeat' split) <;> first | rfl | (exfalso; omega) | contradiction
 ·rw [q2, e]; (repeat' split) <;> first | rfl | (exfalso; omega) | contradiction
 ·rw [q3]; (repeat' split) <;> first | rfl | (exfalso; omega) | contradiction
 ·rw [q3]; (repeat' split) <;> first | rfl | (exfalso; omega) | contradiction
 ·rw [q4]; (repeat' split) <;> first | rfl | (exfalso; omega) | contradiction
 ·rw [q5]; (repeat' split) <;> first | rfl | (exfalso; omega) | contradiction
 ·rw [q6]; (repeat' split) <;> first | rfl | (exfalso; omega) | contradiction
theorem Ij {p : PacketV} (h : Ag p = true) : PkF p := by
 obtain ⟨ht, hn, hk⟩ := Gv h
 obtain ⟨k1, k2, k3, k4, k5, _⟩ := K0 h
 unfold Bz at hk
 refine ⟨ht, ?_, ?_, ?_⟩
 by_cases h3 : p.fType = 3
 rw [if_neg (by omega), if_neg (by omega), if_pos h3] at hk
 simp only [zaf, Gt] at hk
 exact hk.1
 rw [k1 h3]
 decide
 by_cases h1 : p.fType = 1
 rw [if_pos h1] at hk
 unfold Cc at hk
 cases hw : p.fHasWill
 rw [k3 hw]
 decide
 simp only [hw, zaf, Gt, zav, za4] at hk
 exact hk.2.2.2.1.2.2
 rw [k2 h1]
 decide
 by_cases h5 : p.fType = 1 ∨ p.fType = 2 ∨ 12 ≤ p.fType
 rw [k5 h5]
 decide
 by_cases h3 : p.fType = 3
 by_cases hq : p.fQos = 0
 rw [k4 hq h3]
 decide
 rw [if_neg (by omega), if_neg (by omega), if_pos h3] at hk
 simp only [zaf, Gt, zaN, decide_eq_true_eq] at hk
 omega
 rw [if_neg (by omega), if_neg (by omega), if_neg h3] at hk
 by_cases h4 : p.fType = 4 ∨ p.fType = 5 ∨ p.fType = 6 ∨ p.fType = 7 ∨ p.fType = 11
 rw [if_pos h4, Gt] at hk
 omega
 rw [if_neg h4, if_pos (by omega)] at hk
 simp only [zaf, Gt] at hk
 omega
end
section
open Go
theorem M2 (B : ByteArray) (a : Int) : (Bl B a).1.size ≤ 60 := by
 obtain ⟨v, x, o, e⟩ : ∃ v x o, Bl B a = (v, x, o) := ⟨_, _, _, rfl⟩
 rw [e]
 exact (Fj e).1
theorem R2 (B : ByteArray) (a : Int) : (Ce B a).1.size ≤ 60 := by
 unfold Ce
 split
 exact M2 B a
 decide
theorem Ua (B : ByteArray) (s : Sc) : (Es B s).1.size ≤ 60 := by
 unfold Es
 split
 exact zax _
 exact M2 B s.1
structure PkB (k : Nat) (p : PacketV) : Prop where
 t1 : p.fTopic.size ≤ 60
 t2 : p.fClient.size ≤ 60
 t3 : p.fWTopic.size ≤ 60
 t4 : p.fUser.size ≤ 60
 b1 : p.fWBody.size ≤ 60
 b2 : p.fPass.size ≤ 60
 b3 : p.fBody.size ≤ k
 l1 : p.fWants.length ≤ k
 l2 : p.fNames.length ≤ k
 l3 : p.fCodes.length ≤ k
 w1 : ∀ y ∈ p.fWants, y.fFilter.size ≤ 60
 w2 : ∀ y ∈ p.fNames, y.size ≤ 60
theorem PkB.hyp {k : Nat} {p : PacketV} (h : PkB k p) (hk : k ≤ 1048576) : Gx p := by
 obtain ⟨t1, t2, t3, t4, b1, b2, b3, l1, l2, l3, w1, w2⟩ := h
 exact ⟨by omega, by omega, by omega, by omega, by omega, by omega, by omega, fun y hy => zaB (w1 y hy) (by decide), fun y hy => zaB (w2 y hy) (by decide)⟩
theorem Ln (k : Nat) (t : Int) : PkB k (Bj t) := ⟨zax _, zax _, zax _, zax _, zax _, zax _, zax _, zax _, zax _, zax _, fun y hy => (nomatch hy), fun y hy => (nomatch hy)⟩
theorem Wc {c : Prop} [Decidable c] {x y : ByteArray × Sc} (hx : x.1.size ≤ 60) (hy : y.1.size ≤ 60) : (if c then x else y).1.size ≤ 60 := by
 split
 exact hx
 exact hy
theorem Ma (t : Int) (B : ByteArray) : ∀ (f : Nat) (s : Sc) (ws : List WantV) (cs : List Int) (ns : List ByteArray), ws.length + cs.length + ns.length ≤ 5 → (∀ y ∈ ws, y.fFilter.size ≤ 60) → (∀ y ∈ ns, y.size ≤ 60) → ((Cp t B f s ws cs ns).1.length ≤ 5 ∧ (Cp t B f s ws cs ns).2.1.length ≤ 5 ∧ (Cp t B f s ws cs ns).2.2.length ≤ 5) ∧ (∀ y ∈ (Cp t B f s ws cs ns).1, y.fFilter.size ≤ 60) ∧ ∀ y ∈ (Cp t B f s ws cs ns).2.2, y.size ≤ 60
 | 0, s, ws, cs, ns, hl, h1, h2 => ⟨⟨by show ws.length ≤ 5; omega, by show cs.length ≤ 5; omega, by show ns.length ≤ 5; omega⟩, h1, h2⟩
 | f + 1, s, ws, cs, ns, hl, h1, h2 => by
  rw [Cp]
  split
  rename_i hc
  simp only [zaf, decide_eq_true_eq] at hc
  have hb := Ua B s
  split
  refine Ma t B f _ _ _ _ (by simp only [zag, zan]; omega) (fun y hy => ?_) h2
  rcases zaR.1 hy with hy | hy
  exact h1 y hy
  rw [zbk.1 hy]
  exact hb
  split
  exact Ma t B f _ _ _ _ (by simp only [zag, zan]; omega) h1 h2
  split
  refine Ma t B f _ _ _ _ (by simp only [zag, zan]; omega) h1 (fun y hy => ?_)
  rcases zaR.1 hy with hy | hy
  exact h2 y hy
  rw [zbk.1 hy]
  exact hb
  exact Ma t B f _ _ _ _ hl h1 h2
  exact ⟨⟨by show ws.length ≤ 5; omega, by show cs.length ≤ 5; omega, by show ns.length ≤ 5; omega⟩, h1, h2⟩
theorem AgP (first : Int) (B : ByteArray) {k : Nat} (hk : B.size ≤ k) : PkB (k + 5) (D2 first B) := by
 have h0 : (0 : Nat) ≤ 60 := zax _
 have hb := Ua B
 unfold D2
 dsimp only
 split
 unfold Fh
 dsimp only
 exact ⟨h0, hb _, Wc (hb _) h0, Wc (hb _) h0, Wc (hb _) h0, Wc (hb _) h0, zax _, zax _, zax _, zax _, fun y hy => (nomatch hy), fun y hy => (nomatch hy)⟩
 split
 exact ⟨h0, h0, h0, h0, h0, h0, zax _, zax _, zax _, zax _, fun y hy => (nomatch hy), fun y hy => (nomatch hy)⟩
 split
 have hB : ∀ (x : Bool) (i : Nat), (if x = true then bs0 else B.extract i B.size).size ≤ k + 5 := fun x i => by
  split
  exact zax _
  rw [zau]
  omega
 exact ⟨hb _, h0, h0, h0, h0, h0, hB _ _, zax _, zax _, zax _, fun y hy => (nomatch hy), fun y hy => (nomatch hy)⟩
 split
 exact Ln _ _
 have h := Ma (first / 16) B 8 (G3 B (0, false)).2 [] [] [] (by decide) (fun y hy => nomatch hy) (fun y hy => nomatch hy)
 exact ⟨h0, h0, h0, h0, h0, h0, zax _, by show (Cp _ _ _ _ _ _ _).1.length ≤ _; omega, by show (Cp _ _ _ _ _ _ _).2.2.length ≤ _; omega, by show (Cp _ _ _ _ _ _ _).2.1.length ≤ _; omega, h.2.1, h.2.2⟩
theorem Vo (B : ByteArray) : ∀ (f : Nat) (a : Int) (cs : List Int), (F8 B f a cs).length ≤ cs.length + f
 | 0, a, cs => zam _
 | f + 1, a, cs => by
  rw [F8]
  split
  have := Vo B f (a + 1) (cs ++ [A7 B a])
  simp only [zag, zan] at this
  omega
  omega
theorem Q2 (t : Int) (B : ByteArray) : ∀ (f : Nat) (a : Int) (ws : List WantV) (ns : List ByteArray) (r : List WantV × List ByteArray), (∀ y ∈ ws, y.fFilter.size ≤ 60) → (∀ y ∈ ns, y.size ≤ 60) → Db t B f a ws ns = some r → (r.1.length + r.2.length ≤ ws.length + ns.length + f) ∧ (∀ y ∈ r.1, y.fFilter.size ≤ 60) ∧ ∀ y ∈ r.2, y.size ≤ 60
 | 0, a, ws, ns, r, h1, h2, h => by
  cases h
  exact ⟨zam _, h1, h2⟩
 | f + 1, a, ws, ns, r, h1, h2, h => by
  have hb := R2 B a
  rw [Db] at h
  split at h
  split at h
  split at h
  have := Q2 t B f _ _ _ r h1 (fun y hy => by
   rcases zaR.1 hy with hy | hy
   exact h2 y hy
   rw [zbk.1 hy]
   exact hb) h
  simp only [zag, zan] at this
  exact ⟨by omega, this.2⟩
  split at h
  cases h
  have := Q2 t B f _ _ _ r (fun y hy => by
   rcases zaR.1 hy with hy | hy
   exact h1 y hy
   rw [zbk.1 hy]
   exact hb) h2 h
  simp only [zag, zan] at this
  exact ⟨by omega, this.2⟩
  cases h
  cases h
  exact ⟨by show ws.length + ns.length ≤ _; omega, h1, h2⟩
theorem AhL (t id : Int) (cs : List Int) (k : Nat) (hc : cs.length ≤ k) (o : Option (List WantV × List ByteArray)) (ho : ∀ r, o = some r → (r.1.length + r.2.length ≤ k) ∧ (∀ y ∈ r.1, y.fFilter.size ≤ 60) ∧ ∀ y ∈ r.2, y.size ≤ 60) : PkB k (K4 t id cs o) := by
 have h0 : (0 : Nat) ≤ 60 := zax _
 cases o with
 | none => exact Ln _ _
 | some r =>
  obtain ⟨h1, h2, h3⟩ := ho r rfl
  exact ⟨h0, h0, h0, h0, h0, h0, zax _, by show r.1.length ≤ k; omega, by show r.2.length ≤ k; omega, hc, h2, h3⟩
theorem Oa {c : Bool} {x : Int → ByteArray × Int × Bool} (hx : ∀ a, (x a).1.size ≤ 60) (a : Int) : (El c x a).1.size ≤ 60 := by
 unfold El
 split
 exact hx a
 exact zax _
theorem AeE {k : Nat} {p : PacketV} {q5 q6 q7 q8 : ByteArray × Int × Bool} (h : PkB k p) (h5 : q5.1.size ≤ 60) (h6 : q6.1.size ≤ 60) (h7 : q7.1.size ≤ 60) (h8 : q8.1.size ≤ 60) : PkB k (G5 p q5 q6 q7 q8) := by
 unfold G5
 split
 exact Ln _ _
 split
 exact Ln _ _
 split
 exact Ln _ _
 exact ⟨h.t1, h.t2, h5, h7, h6, h8, h.b3, h.l1, h.l2, h.l3, h.w1, h.w2⟩
theorem AeF (first : Int) (B c : ByteArray) (w : Int × Int × Bool) {k : Nat} (hc : c.size ≤ 60) (hk : B.size ≤ k) : PkB (k + 5) (Hk first B c w) := by
 have h0 : (0 : Nat) ≤ 60 := zax _
 unfold Hk
 split
 exact Ln _ _
 refine ⟨hc, h0, h0, h0, h0, h0, ?_, zax _, zax _, zax _, fun y hy => (nomatch hy), fun y hy => (nomatch hy)⟩
 show (B.extract _ _).size ≤ _
 rw [zau]
 omega
theorem Ac1 (t : Int) (B : ByteArray) (w : Int × Int × Bool) {k : Nat} (hk : B.size ≤ k) : PkB (k + 5) (Fs t B w) := by
 unfold Fs
 split
 exact Ln _ _
 refine AhL _ _ _ _ ?_ _ fun r hr => ?_
 split
 have := Vo B (B.size + 1) w.2.1 []
 simp only [zat] at this
 omega
 exact zax _
 have := Q2 _ B (B.size + 1) _ [] [] r (fun y hy => nomatch hy) (fun y hy => nomatch hy) hr
 simp only [zat] at this
 exact ⟨by omega, this.2⟩
theorem AgS (first : Int) (B : ByteArray) {k : Nat} (hk : B.size ≤ k) : PkB (k + 5) (Dx first B) := by
 have h0 : (0 : Nat) ≤ 60 := zax _
 have hb := R2 B
 have hb2 := M2 B
 unfold Dx
 split
 unfold A1 Hj G7 G6
 split
 exact Ln _ _
 split
 exact Ln _ _
 exact AeE ⟨h0, hb _, h0, h0, h0, h0, zax _, zax _, zax _, zax _, fun y hy => (nomatch hy), fun y hy => (nomatch hy)⟩ (Oa hb _) (Oa hb2 _) (Oa hb _) (Oa hb2 _)
 split
 exact ⟨h0, h0, h0, h0, h0, h0, zax _, zax _, zax _, zax _, fun y hy => (nomatch hy), fun y hy => (nomatch hy)⟩
 split
 split
 exact Ln _ _
 exact AeF _ _ _ _ (hb _) hk
 exact Ac1 _ _ _ hk
end
section
open Go
abbrev bl (B : ByteArray) : List UInt8 := B.data.toList
def u8 (z : Int) : UInt8 := UInt8.ofNat z.toNat
theorem Ki {z : Int} (h0 : 0 ≤ z) (h1 : z < 256) : (((u8 z).toNat : Nat) : Int) = z := by
 unfold u8
 rw [UInt8.toNat_ofNat']
 omega
theorem H9 (b : ByteArray) (z : Int) : bl (Bb b z) = bl b ++ [u8 z] := by
 unfold bl Bb u8
 rw [zbC, Array.toList_push]
theorem Vx (a b : ByteArray) : bl (a ++ b) = bl a ++ bl b := by
 unfold bl
 rw [zbs, Array.toList_append]
theorem I6 (B : ByteArray) : (bl B).length = B.size := by
 simp [bl]
theorem Y0 {a b : ByteArray} (h : bl a = bl b) : a = b := ByteArray.ext (zbe h)
theorem Vy (B : ByteArray) (i j : Nat) : bl (B.extract i j) = ((bl B).drop i).take (j - i) := by
 unfold bl
 rw [ByteArray.data_extract, Array.toList_extract, List.extract_eq_take_drop]
def N8 (n : Int) : List UInt8 := [u8 (n / 256 % 256 % 256), u8 (n % 256 % 256)]
theorem Pm (b : ByteArray) (n : Int) : bl (Ap b n) = bl b ++ N8 n := by
 unfold Ap N8
 rw [H9, H9, zah]
 rfl
def Hy (s : ByteArray) : List UInt8 := N8 ((s.size : Nat) : Int) ++ bl s
theorem La {s : ByteArray} (h : Bi s = true) (b : ByteArray) : bl (Ao b s) = bl b ++ Hy s := by
 unfold Ao Hy
 rw [if_pos h, Vx, Pm, zah]
theorem W6 {s : ByteArray} (h : s.size ≤ 60) (b : ByteArray) : bl (Dc b s) = bl b ++ Hy s := by
 unfold Dc Hy
 rw [if_neg (by simp; omega), Vx, Pm, zah]
def Sf (B : ByteArray) (a : Int) (l : List UInt8) : Prop := 0 ≤ a ∧ a ≤ ((B.size : Nat) : Int) ∧ (bl B).drop a.toNat = l
theorem Sf.len {B : ByteArray} {a : Int} {l : List UInt8} (h : Sf B a l) : a + l.length = ((B.size : Nat) : Int) := by
 obtain ⟨h0, h1, rfl⟩ := h
 rw [List.length_drop, I6]
 omega
theorem Sf.head {B : ByteArray} {a : Int} {x : UInt8} {l : List UInt8} (h : Sf B a (x :: l)) : A7 B a = ((x.toNat : Nat) : Int) ∧ a < ((B.size : Nat) : Int) ∧ Sf B (a + 1) l := by
 have hl := h.len
 obtain ⟨h0, h1, h2⟩ := h
 simp only [zar] at hl
 refine ⟨?_, by omega, by omega, by omega, ?_⟩
 have e : (bl B)[a.toNat]? = some x := by
  have := congrArg (fun l => l[0]?) h2
  simpa using this
 unfold A7
 rw [zbq, e]
 rfl
 rw [show (a + 1).toNat = a.toNat + 1 by omega, ← zbA, h2]
 rfl
theorem Sf.skip {B : ByteArray} {a : Int} {x l : List UInt8} (h : Sf B a (x ++ l)) : Sf B (a + x.length) l := by
 have hl := h.len
 obtain ⟨h0, h1, h2⟩ := h
 simp only [zag] at hl
 refine ⟨by omega, by omega, ?_⟩
 rw [show (a + (x.length : Int)).toNat = a.toNat + x.length by omega, ← zbA, h2, List.drop_left]
theorem Ty (B : ByteArray) {l : List UInt8} (h : bl B = l) : Sf B 0 l := ⟨by omega, by omega, by simpa using h⟩
theorem Sf.nil {B : ByteArray} {a : Int} (h : Sf B a []) : a = ((B.size : Nat) : Int) := by
 have := h.len
 simpa using this
theorem Pg {B : ByteArray} {a z : Int} {l : List UInt8} (h : Sf B a (u8 z :: l)) (h0 : 0 ≤ z) (h1 : z < 256) : Kj B (a, false) = (z, a + 1, false) ∧ Sf B (a + 1) l := by
 obtain ⟨e1, e2, e3⟩ := h.head
 refine ⟨?_, e3⟩
 unfold Kj
 rw [Ki h0 h1] at e1
 rw [if_neg (by simp; omega), e1]
theorem Ok {B : ByteArray} {a n : Int} {l : List UInt8} (h : Sf B a (N8 n ++ l)) (h0 : 0 ≤ n) (h1 : n < 65536) : Br B a = (n, a + 2, true) ∧ Sf B (a + 2) l := by
 have h' : Sf B a (u8 (n / 256 % 256 % 256) :: u8 (n % 256 % 256) :: l) := h
 obtain ⟨e1, e2, e3⟩ := h'.head
 obtain ⟨f1, f2, f3⟩ := e3.head
 rw [Ki (by omega) (by omega)] at e1 f1
 refine ⟨?_, by rw [show a + 2 = a + 1 + 1 by omega]; exact f3⟩
 unfold Br
 rw [if_neg (by have := h.1; omega), e1, f1]
 congr 1
 omega
theorem Jr {B s : ByteArray} {a : Int} {l : List UInt8} (h : Sf B a (Hy s ++ l)) (hs : s.size ≤ 60) : Bl B a = (s, a + 2 + s.size, true) ∧ Sf B (a + 2 + s.size) l := by
 have h' : Sf B a (N8 ((s.size : Nat) : Int) ++ (bl s ++ l)) := by
  unfold Hy at h
  rwa [zah] at h
 obtain ⟨e1, e2⟩ := Ok h' (by omega) (by omega)
 have e3 := e2.skip
 rw [I6] at e3
 refine ⟨?_, e3⟩
 have hl := e3.len
 have h0 := h.1
 unfold Bl
 rw [e1]
 show (if true = false ∨ 60 < ((s.size : Nat) : Int) ∨ ((B.size : Nat) : Int) - (a + 2) < ((s.size : Nat) : Int) then _ else _) = _
 rw [if_neg (by simp; omega)]
 congr 1
 apply Y0
 show bl (B.extract (a + 2).toNat (a + 2 + ((s.size : Nat) : Int)).toNat) = _
 rw [Vy, e2.2.2, show (a + 2 + ((s.size : Nat) : Int)).toNat - (a + 2).toNat = (bl s).length by rw [I6]; omega, List.take_left]
theorem Mz {B s : ByteArray} {a : Int} {l : List UInt8} (h : Sf B a (Hy s ++ l)) (hs : Bi s = true) : Ce B a = (s, a + 2 + s.size, true) ∧ Sf B (a + 2 + s.size) l := by
 obtain ⟨e1, e2⟩ := Jr h (Fo hs)
 refine ⟨?_, e2⟩
 unfold Ce
 rw [e1]
 show (if true && Bi s then _ else _) = _
 rw [hs]
 rfl
theorem Tz {B : ByteArray} {a n : Int} {l : List UInt8} (h : Sf B a (N8 n ++ l)) (h0 : 0 ≤ n) (h1 : n < 65536) : G3 B (a, false) = (n, a + 2, false) := by
 unfold G3
 rw [show (a, false).1 = a from rfl, (Ok h h0 h1).1]
 rfl
theorem Ko {B s : ByteArray} {a : Int} {l : List UInt8} (h : Sf B a (Hy s ++ l)) (hs : s.size ≤ 60) : Es B (a, false) = (s, a + 2 + s.size, false) := by
 unfold Es
 rw [show (a, false).1 = a from rfl, (Jr h hs).1]
 rfl
theorem AaM {B s : ByteArray} {a : Int} (h : Sf B a (bl s)) : B.extract a.toNat B.size = s := by
 apply Y0
 rw [Vy, h.2.2]
 have := h.len
 have := h.1
 rw [I6] at *
 rw [zaV (by rw [I6]; omega)]
theorem T7 {s : ByteArray} (h : Dr s = true) : Bi s = true := by
 unfold Dr at h
 simp only [zaf] at h
 simp [h]
theorem Rh {s : ByteArray} (h : Cd s = true) : Bi s = true := by
 unfold Cd Fz at h
 simp only [zaf] at h
 exact h.2.1
theorem Pt {p : PacketV} (h : Ag p = true) : (0 ≤ Da p ∧ Da p < 256) ∧ Da p / 16 = p.fType := by
 obtain ⟨ht, hq, _, _⟩ := Ij h
 have h1 : ∀ b, 0 ≤ Bc b 8 ∧ Bc b 8 ≤ 8 := fun b => by cases b <;> decide
 have h2 : ∀ b, 0 ≤ Bc b 1 ∧ Bc b 1 ≤ 1 := fun b => by cases b <;> decide
 have a := h1 p.fDup
 have b := h2 p.fRetain
 unfold Da
 (repeat' split) <;> omega
theorem AbW : ∀ (c w r s u : Bool) (q : Fin 3), let f : Int := Bc c 2 + Bc w 4 + 8 * ((q.val : Nat) : Int) + Bc r 32 + Bc s 64 + Bc u 128; ((0 ≤ f ∧ f < 256) ∧ Gi f 2 = c ∧ Gi f 4 = w ∧ bits .and .i64 (f / 8) 3 = ((q.val : Nat) : Int) ∧ Gi f 32 = r ∧ Gi f 64 = s ∧ Gi f 128 = u) ∧ decide (0 < bits .and .i64 f 2) = c ∧ decide (0 < bits .and .i64 f 4) = w ∧ decide (0 < bits .and .i64 f 32) = r ∧ decide (0 < bits .and .i64 f 64) = s ∧ decide (0 < bits .and .i64 f 128) = u := by decide +kernel
theorem AiT {p : PacketV} (hq : 0 ≤ p.fWQos ∧ p.fWQos ≤ 2) : ((0 ≤ Cf p ∧ Cf p < 256) ∧ Gi (Cf p) 2 = p.fClean ∧ Gi (Cf p) 4 = p.fHasWill ∧ bits .and .i64 (Cf p / 8) 3 = p.fWQos ∧ Gi (Cf p) 32 = p.fWRetain ∧ Gi (Cf p) 64 = p.fHasPass ∧ Gi (Cf p) 128 = p.fHasUser) ∧ decide (0 < bits .and .i64 (Cf p) 2) = p.fClean ∧ decide (0 < bits .and .i64 (Cf p) 4) = p.fHasWill ∧ decide (0 < bits .and .i64 (Cf p) 32) = p.fWRetain ∧ decide (0 < bits .and .i64 (Cf p) 64) = p.fHasPass ∧ decide (0 < bits .and .i64 (Cf p) 128) = p.fHasUser := by
 have h := AbW p.fClean p.fHasWill p.fWRetain p.fHasPass p.fHasUser ⟨p.fWQos.toNat, by omega⟩
 have e : ((p.fWQos.toNat : Nat) : Int) = p.fWQos := by omega
 simp only [e] at h
 exact h
theorem Age : ∀ (d r : Bool) (q : Fin 3), let f : Int := 48 + Bc d 8 + 2 * ((q.val : Nat) : Int) + Bc r 1; (Gi f 8 = d ∧ bits .and .i64 (f / 2) 3 = ((q.val : Nat) : Int) ∧ Gi f 1 = r) ∧ decide (0 < bits .and .i64 f 8) = d ∧ decide (0 < bits .and .i64 f 1) = r := by decide +kernel
def Hx (c : Bool) (l : List UInt8) : List UInt8 := if c then l else []
theorem AeB {p : PacketV} (hc : Bi p.fClient = true) (hw : p.fHasWill = true → Bi p.fWTopic = true ∧ p.fWBody.size ≤ 60) (hu : Bi p.fUser = true) (hp : p.fPass.size ≤ 60) :
  bl (Cv p) = Hy mqtt ++ (u8 (p.fLevel % 256) :: u8 (Cf p % 256) :: (N8 p.fKeep ++ (Hy p.fClient ++ (Hx p.fHasWill (Hy p.fWTopic ++ Hy p.fWBody) ++ (Hx p.fHasUser (Hy p.fUser) ++ Hx p.fHasPass (Hy p.fPass)))))) := by
 have h3 : ∀ b, bl (Bu p b) = bl b ++ Hx p.fHasPass (Hy p.fPass) := fun b => by
  unfold Bu Hx
  split
  exact W6 hp b
  simp
 have h2 : ∀ b, bl (Cb p b) = bl b ++ Hx p.fHasUser (Hy p.fUser) := fun b => by
  unfold Cb Hx
  split
  exact La hu b
  simp
 have h1 : ∀ b, bl (Cu p b) = bl b ++ Hx p.fHasWill (Hy p.fWTopic ++ Hy p.fWBody) := fun b => by
  unfold Cu Hx
  split
  rename_i h
  rw [W6 (hw h).2, La (hw h).1, zah]
  simp
 unfold Cv C8
 rw [h3, h2, h1, La hc, Pm, H9, H9, La (by decide +kernel)]
 simp only [zah, zak, za0]
 rfl
theorem Hu {B : ByteArray} {a : Int} {c : Bool} {x l : List UInt8} (h : Sf B a (Hx c x ++ l)) : (c = true → Sf B a (x ++ l)) ∧ (c = false → Sf B a l) := by
 unfold Hx at h
 constructor <;> intro hc <;> simpa [hc] using h
end
section
open Go
theorem Sp {p : PacketV} (h : Ag p = true) (h1 : p.fType = 1) : (Bi p.fClient = true ∧ (p.fHasWill = true → Bi p.fWTopic = true ∧ p.fWBody.size ≤ 60) ∧ Bi p.fUser = true ∧ p.fPass.size ≤ 60) ∧ (0 ≤ p.fLevel ∧ p.fLevel ≤ 255) ∧ (0 ≤ p.fKeep ∧ p.fKeep ≤ 65535) := by
 obtain ⟨_, _, hk⟩ := Gv h
 unfold Bz at hk
 rw [if_pos h1] at hk
 unfold Cc at hk
 simp only [zaf, Gt, decide_eq_true_eq, zaN] at hk
 obtain ⟨k1, k2, k3, k4, k5, k6⟩ := hk
 refine ⟨⟨k2, fun hw => ?_, k5, by omega⟩, k1, k3⟩
 rcases k4 with k4 | k4
 rw [hw] at k4
 cases k4
 exact ⟨T7 k4.1, by omega⟩
theorem Aaq {p : PacketV} (h : Ag p = true) (h1 : p.fType = 1) : p = { Bj 1 with fLevel := p.fLevel, fKeep := p.fKeep, fClient := p.fClient, fClean := p.fClean, fHasWill := p.fHasWill, fHasPass := p.fHasPass, fHasUser := p.fHasUser, fWQos := p.fWQos, fWRetain := p.fWRetain, fWTopic := p.fWTopic, fWBody := p.fWBody, fUser := p.fUser, fPass := p.fPass } ∧ (p.fHasWill = false → p.fWTopic = bs0 ∧ p.fWBody = bs0 ∧ p.fWRetain = false ∧ p.fWQos = 0) ∧ (p.fHasUser = false → p.fUser = bs0 ∧ p.fHasPass = false) ∧ (p.fHasPass = false → p.fPass = bs0) := by
 obtain ⟨_, hn, _⟩ := Gv h
 clear h
 unfold Az at hn
 rw [if_pos h1] at hn
 obtain ⟨a1, a2, a3, a4, a5, a6, a7, a8, a9, a10, a11, a12, a13, a14, a15, a16, a17, a18, a19, a20, a21, a22, a23, a24, a25⟩ := p
 dsimp only at hn h1 ⊢
 subst h1
 cases a12 <;> cases a17 <;> cases a19 <;> simp only [D9, Ea, Bj, if_true, if_false, zaa, PacketV.mk.injEq, true_and, and_true, false_and, and_false, reduceCtorEq] at hn <;> simp [Bj, hn]
theorem Aeb (c : Bool) (x y : List UInt8) : Hx c (x ++ y) = Hx c x ++ Hx c y := by cases c <;> rfl
theorem Oh {B s : ByteArray} {a : Int} {c : Bool} {l : List UInt8} (h : Sf B a (Hx c (Hy s) ++ l)) (hs : s.size ≤ 60) (hz : c = false → s = bs0) : ∃ a', (if c then Es B (a, false) else (bs0, (a, false))) = (s, a', false) ∧ Sf B a' l := by
 cases c with
 | true => exact ⟨_, Ko ((Hu h).1 rfl) hs, (Jr ((Hu h).1 rfl) hs).2⟩
 | false => exact ⟨a, by rw [hz rfl]; rfl, (Hu h).2 rfl⟩
theorem Tn {B s : ByteArray} {a : Int} {c : Bool} {l : List UInt8} (h : Sf B a (Hx c (Hy s) ++ l)) (hs : s.size ≤ 60) (hz : c = false → s = bs0) : ∃ a', El c (Bl B) a = (s, a', true) ∧ Sf B a' l := by
 cases c with
 | true => exact ⟨_, (Jr ((Hu h).1 rfl) hs).1, (Jr ((Hu h).1 rfl) hs).2⟩
 | false => exact ⟨a, by rw [hz rfl]; rfl, (Hu h).2 rfl⟩
theorem Vd {B s : ByteArray} {a : Int} {c : Bool} {l : List UInt8} (h : Sf B a (Hx c (Hy s) ++ l)) (hs : c = true → Bi s = true) (hz : c = false → s = bs0) : ∃ a', El c (Ce B) a = (s, a', true) ∧ Sf B a' l := by
 cases c with
 | true => exact ⟨_, (Mz ((Hu h).1 rfl) (hs rfl)).1, (Mz ((Hu h).1 rfl) (hs rfl)).2⟩
 | false => exact ⟨a, by rw [hz rfl]; rfl, (Hu h).2 rfl⟩
theorem Aec (c : Bool) (x : List UInt8) : Hx c x = Hx c x ++ [] := (zao _).symm
theorem Y4 {p : PacketV} (h : Ag p = true) (h1 : p.fType = 1) : p.fWTopic.size ≤ 60 ∧ p.fWBody.size ≤ 60 ∧ p.fUser.size ≤ 60 ∧ p.fPass.size ≤ 60 := by
 obtain ⟨⟨c1, c2, c3, c4⟩, _⟩ := Sp h h1
 obtain ⟨_, hz, _⟩ := Aaq h h1
 cases hw : p.fHasWill
 rw [(hz hw).1, (hz hw).2.1]
 exact ⟨by decide, by decide, Fo c3, c4⟩
 exact ⟨Fo (c2 hw).1, (c2 hw).2, Fo c3, c4⟩
theorem Agf {p : PacketV} (h : Ag p = true) (h1 : p.fType = 1) : Fh (Cv p) = p ∧ A1 (Cv p) = p := by
 obtain ⟨⟨c1, c2, c3, c4⟩, c5, c6⟩ := Sp h h1
 obtain ⟨z0, z1, z2, z3⟩ := Aaq h h1
 obtain ⟨y1, y2, y3, y4⟩ := Y4 h h1
 obtain ⟨⟨f0, f1, f2, f3, f4, f5, f6⟩, g1, g2, g4, g5, g6⟩ := AiT (Ij h).wq
 have s0 := Ty (Cv p) (AeB c1 c2 c3 c4)
 have e0 := Ko s0 (by decide)
 have k0 := (Mz s0 (by decide +kernel)).1
 have s1 := (Jr s0 (by decide)).2
 generalize ha : (0 + 2 + ((mqtt.size : Nat) : Int)) = a at e0 k0 s1
 obtain ⟨e1, s2⟩ := Pg s1 (by omega) (by omega)
 obtain ⟨e2, s3⟩ := Pg s2 (by omega) (by omega)
 have hb1 := s1.head.1
 have hb2 := s2.head.1
 have hlt := s2.head.2.1
 rw [Ki (by omega) (by omega)] at hb1 hb2
 have e3 := Tz s3 c6.1 (by omega)
 obtain ⟨k3, s4⟩ := Ok s3 c6.1 (by omega)
 have e4 := Ko s4 (Fo c1)
 obtain ⟨k4, s5⟩ := Mz s4 c1
 rw [Aeb, zah] at s5
 rw [Aec p.fHasPass] at s5
 have fl : Cf p % 256 = Cf p := by omega
 have ll : p.fLevel % 256 = p.fLevel := by omega
 rw [fl] at e2 hb2
 rw [ll] at e1 hb1
 have hz1 : p.fHasUser = false → p.fUser = bs0 := fun e => (z2 e).1
 constructor
 obtain ⟨a5, e5, s6⟩ := Oh s5 y1 (fun e => (z1 e).1)
 obtain ⟨a6, e6, s7⟩ := Oh s6 y2 (fun e => (z1 e).2.1)
 obtain ⟨a7, e7, s8⟩ := Oh s7 y3 hz1
 obtain ⟨a8, e8, s9⟩ := Oh s8 y4 z3
 unfold Fh
 simp only [e0, e1, e2, e3, e4, f1, f2, f3, f4, f5, f6, e5, e6, e7, e8]
 have w1 : (if p.fHasWill = true then p.fWQos else 0) = p.fWQos := by
  split
  rfl
  rename_i hw
  exact ((z1 (by simpa using hw)).2.2.2).symm
 have w2 : (if p.fHasWill = true then p.fWRetain else false) = p.fWRetain := by
  split
  rfl
  rename_i hw
  exact ((z1 (by simpa using hw)).2.2.1).symm
 rw [w1, w2]
 exact z0.symm
 obtain ⟨a5, e5, s6⟩ := Vd s5 (fun e => (c2 e).1) (fun e => (z1 e).1)
 obtain ⟨a6, e6, s7⟩ := Tn s6 y2 (fun e => (z1 e).2.1)
 obtain ⟨a7, e7, s8⟩ := Vd s7 (fun _ => c3) hz1
 obtain ⟨a8, e8, s9⟩ := Tn s8 y4 z3
 unfold A1
 rw [k0]
 unfold Hj
 rw [if_neg (by simp; omega)]
 show G7 _ a (Br _ (a + 2)) (Ce _ (Br _ (a + 2)).2.1) = p
 rw [show a + 2 = a + 1 + 1 by omega, k3, k4]
 unfold G7
 rw [if_neg (by simp), hb2, hb1]
 show G6 _ (Cf p) _ (a + 1 + 1 + 2 + 2 + ((p.fClient.size : Nat) : Int)) = p
 unfold G6
 rw [g2, e5]
 dsimp only
 rw [e6]
 dsimp only
 rw [g6, e7]
 dsimp only
 rw [g5, e8]
 unfold G5 F5
 rw [if_neg (by simp), if_neg (by simp), if_neg (by simp)]
 simp only [g1, g2, g4, g5, g6, f3]
 exact z0.symm
end
section
open Go
theorem Aii {p : PacketV} (h : Ag p = true) (h2 : p.fType = 2) {B : ByteArray} (hB : B = Bb (Bb bs0 (Bc p.fPresent 1 % 256)) (p.fCode % 256)) : { Bj 2 with fPresent := decide ((Kj B (0, false)).1 = 1), fCode := (Kj B (Kj B (0, false)).2).1 } = p ∧ ((B.size : Nat) : Int) = 2 ∧ { Bj 2 with fPresent := A7 B 0 == 1, fCode := A7 B 1 } = p := by
 obtain ⟨_, hn, hk⟩ := Gv h
 unfold Bz at hk
 rw [if_neg (by omega), if_pos h2] at hk
 simp only [zaf, Gt] at hk
 have hb : 0 ≤ Bc p.fPresent 1 ∧ Bc p.fPresent 1 ≤ 1 ∧ (Bc p.fPresent 1 = 1 ↔ p.fPresent = true) := by
  unfold Bc
  cases p.fPresent <;> simp
 have s0 := Ty B (l := u8 (Bc p.fPresent 1 % 256) :: u8 (p.fCode % 256) :: []) (by rw [hB, H9, H9]; rfl)
 have hs := s0.len
 obtain ⟨e1, s1⟩ := Pg s0 (by omega) (by omega)
 obtain ⟨e2, s2⟩ := Pg s1 (by omega) (by omega)
 have b1 := s0.head.1
 have b2 := s1.head.1
 rw [Ki (by omega) (by omega)] at b1 b2
 have eb : Bc p.fPresent 1 % 256 = Bc p.fPresent 1 := by omega
 have ec : p.fCode % 256 = p.fCode := by omega
 rw [eb] at e1 b1
 rw [ec] at e2 b2
 have hz : { Bj 2 with fCode := p.fCode, fPresent := p.fPresent } = p := by
  unfold Az at hn
  rw [if_neg (by omega), if_pos h2, h2] at hn
  simpa using hn.symm
 have hd : decide (Bc p.fPresent 1 = 1) = p.fPresent := by
  cases hq : p.fPresent <;> simp [Bc]
 refine ⟨?_, by simpa using hs.symm, ?_⟩
 rw [e1]
 show { Bj 2 with fPresent := decide (Bc p.fPresent 1 = 1), fCode := (Kj B (0 + 1, false)).1 } = p
 rw [e2, hd]
 exact hz
 have b3 : A7 B 1 = p.fCode := b2
 have : (Bc p.fPresent 1 == 1) = p.fPresent := by
  cases hq : p.fPresent <;> simp [Bc]
 rw [b1, b3, this]
 exact hz
theorem Ach {p : PacketV} (h : Ag p = true) (h3 : p.fType = 3) : (Gi (Da p) 8 = p.fDup ∧ bits .and .i64 (Da p / 2) 3 = p.fQos ∧ Gi (Da p) 1 = p.fRetain) ∧ decide (0 < bits .and .i64 (Da p) 8) = p.fDup ∧ decide (0 < bits .and .i64 (Da p) 1) = p.fRetain := by
 obtain ⟨_, hq, _, _⟩ := Ij h
 have k := Age p.fDup p.fRetain ⟨p.fQos.toNat, by omega⟩
 have e : ((p.fQos.toNat : Nat) : Int) = p.fQos := by omega
 have e2 : Da p = 48 + Bc p.fDup 8 + 2 * p.fQos + Bc p.fRetain 1 := by
  unfold Da
  rw [if_pos h3, h3]
  omega
 simp only [e, ← e2] at k
 exact k
theorem Aij {p : PacketV} (h : Ag p = true) (h3 : p.fType = 3) : D2 (Da p) (Dh p) = p ∧ Dx (Da p) (Dh p) = p := by
 obtain ⟨_, hn, hk⟩ := Gv h
 obtain ⟨hf, hi⟩ := (Ij h).q, (Ij h).i
 unfold Bz at hk
 rw [if_neg (by omega), if_neg (by omega), if_pos h3] at hk
 simp only [zaf, Gt, decide_eq_true_eq, zaN] at hk
 obtain ⟨k1, k2, k3, k4⟩ := hk
 obtain ⟨⟨q1, q2, q3⟩, q4, q5⟩ := Ach h h3
 have ht := (Pt h).2
 have hT := T7 k2
 have s0 := Ty (Dh p) (l := Hy p.fTopic ++ (Hx (decide (0 < p.fQos)) (N8 p.fId) ++ bl p.fBody)) (by
  unfold Dh
  rw [Vx]
  split
  rename_i hq
  rw [Pm, La hT]
  simp [Hx, hq]
  rename_i hq
  rw [La hT]
  simp [Hx, hq])
 have e0 := Ko s0 (Fo hT)
 obtain ⟨k0, s1⟩ := Mz s0 hT
 generalize ha : (0 + 2 + ((p.fTopic.size : Nat) : Int)) = a at e0 k0 s1
 have hz : p = { Bj 3 with fQos := p.fQos, fRetain := p.fRetain, fTopic := p.fTopic, fBody := p.fBody, fDup := p.fDup, fId := p.fId } ∧ (¬ 0 < p.fQos → p.fDup = false ∧ p.fId = 0) := by
  unfold Az at hn
  rw [if_neg (by omega), if_neg (by omega), if_pos h3, h3] at hn
  split at hn
  rename_i hq
  exact ⟨hn, fun e => absurd hq e⟩
  rename_i hq
  have d1 : p.fDup = false := congrArg PacketV.fDup hn
  have d2 : p.fId = 0 := congrArg PacketV.fId hn
  exact ⟨by rw [d1, d2]; exact hn, fun _ => ⟨d1, d2⟩⟩
 have e3 : Da p / 16 = 3 := by omega
 have fin : ∀ (w : Int × Int × Bool), w = (if 0 < p.fQos then (p.fId, a + 2, true) else (0, a, true)) → p = { Bj 3 with fDup := p.fDup, fQos := p.fQos, fRetain := p.fRetain, fTopic := p.fTopic, fId := w.1, fBody := (Dh p).extract w.2.1.toNat (Dh p).size } := by
  rintro w rfl
  by_cases hq : 0 < p.fQos
  have s2 := (Hu s1).1 (by simp [hq])
  obtain ⟨_, s3⟩ := Ok s2 hi.1 (by omega)
  rw [if_pos hq]
  dsimp only
  rw [AaM s3]
  exact hz.1
  have s2 := (Hu s1).2 (by simp [hq])
  rw [if_neg hq]
  dsimp only
  rw [AaM s2, ← (hz.2 hq).2]
  exact hz.1
 constructor
 have e1 : (if 0 < p.fQos then G3 (Dh p) (a, false) else (0, a, false)) = ((if 0 < p.fQos then (p.fId, a + 2, true) else (0, a, true)).1, (if 0 < p.fQos then (p.fId, a + 2, true) else (0, a, true)).2.1, false) := by
  by_cases hq : 0 < p.fQos
  rw [if_pos hq, if_pos hq, Tz ((Hu s1).1 (by simp [hq])) hi.1 (by omega)]
  rw [if_neg hq, if_neg hq]
 unfold D2
 dsimp only
 rw [e3, if_neg (by decide), if_neg (by decide), if_pos rfl, e0, q1, q2, q3]
 dsimp only
 rw [e1]
 dsimp only
 simp only [zaa, if_false]
 exact (fin _ rfl).symm
 have e1 : (if 0 < p.fQos then Br (Dh p) a else (0, a, true)) = (if 0 < p.fQos then (p.fId, a + 2, true) else (0, a, true)) := by
  by_cases hq : 0 < p.fQos
  rw [if_pos hq, if_pos hq, (Ok ((Hu s1).1 (by simp [hq])) hi.1 (by omega)).1]
  rw [if_neg hq, if_neg hq]
 unfold Dx Kk
 rw [e3, if_neg (by decide), if_neg (by omega), if_pos rfl, k0, q2]
 dsimp only
 rw [if_neg (by simp), e1]
 unfold Hk Kk
 rw [q2, q4, q5, e3, if_neg (by split <;> simp)]
 exact (fin _ rfl).symm
def Mf (w : WantV) : List UInt8 := Hy w.fFilter ++ [u8 (w.fQos % 256)]
theorem W9 : ∀ (l : List WantV) (b : ByteArray), (∀ w ∈ l, Bi w.fFilter = true) → bl (Bo b l) = bl b ++ (l.map Mf).flatten
 | [], b, _ => by simp [Bo]
 | w :: l, b, h => by
  have e := W9 l (Bb (Ao b w.fFilter) (w.fQos % 256)) fun x hx => h x (zay _ hx)
  rw [H9, La (h w (zaz ..))] at e
  show bl (Bo (Bb (Ao b w.fFilter) (w.fQos % 256)) l) = _
  rw [e, zaq, za6]
  simp only [Mf, zah]
theorem W7 : ∀ (l : List Int) (b : ByteArray), bl (Dy b l) = bl b ++ l.map fun c => u8 (c % 256)
 | [], b => by simp [Dy]
 | c :: l, b => by
  have e := W7 l (Bb b (c % 256))
  rw [H9] at e
  show bl (Dy (Bb b (c % 256)) l) = _
  rw [e, zaq, zah]
  rfl
theorem W8 : ∀ (l : List ByteArray) (b : ByteArray), (∀ w ∈ l, Bi w = true) → bl (Fd b l) = bl b ++ (l.map Hy).flatten
 | [], b, _ => by simp [Fd]
 | w :: l, b, h => by
  have e := W8 l (Ao b w) fun x hx => h x (zay _ hx)
  rw [La (h w (zaz ..))] at e
  show bl (Fd (Ao b w) l) = _
  rw [e, zaq, za6, zah]
theorem Sd {t : Int} {B : ByteArray} {f : Nat} {a : Int} {ws : List WantV} {cs : List Int} {ns : List ByteArray} (s : Sf B a []) : Cp t B (f + 1) (a, false) ws cs ns = (ws, cs, ns) := by
 rw [Cp, if_neg (by have := s.nil; simp; omega)]
theorem Ajm {B : ByteArray} : ∀ (l ws : List WantV) (f : Nat) (a : Int), Sf B a (l.map Mf).flatten → (∀ w ∈ l, Bi w.fFilter = true ∧ 0 ≤ w.fQos ∧ w.fQos < 256) → ws.length + l.length ≤ 4 → l.length < f → Cp 8 B f (a, false) ws [] [] = (ws ++ l, [], [])
 | [], ws, f + 1, a, s, h, hl, hf => by
  rw [Sd s, zao]
 | w :: l, ws, f + 1, a, s, h, hl, hf => by
  simp only [zar] at hl hf
  rw [zaq, za6] at s
  obtain ⟨h1, h2⟩ := h w (zaz ..)
  have s' : Sf B a (Hy w.fFilter ++ (u8 (w.fQos % 256) :: (l.map Mf).flatten)) := by
   unfold Mf at s
   rw [zah] at s
   exact s
  have e1 := Ko s' (Fo h1)
  obtain ⟨_, s2⟩ := Jr s' (Fo h1)
  obtain ⟨e2, s3⟩ := Pg s2 (by omega) (by omega)
  have hlt := s'.head.2.1
  rw [Cp, if_pos (by simp; omega), if_pos rfl, e1]
  dsimp only
  rw [e2, show w.fQos % 256 = w.fQos by omega]
  dsimp only
  rw [Ajm l (ws ++ [(⟨w.fFilter, w.fQos⟩ : WantV)]) f _ s3 (fun x hx => h x (zay _ hx)) (by simp only [zag, zan]; omega) (by omega), zah]
  rfl
theorem Ajn {B : ByteArray} : ∀ (l cs : List Int) (f : Nat) (a : Int), Sf B a (l.map fun c => u8 (c % 256)) → (∀ c ∈ l, 0 ≤ c ∧ c < 256) → cs.length + l.length ≤ 4 → l.length < f → Cp 9 B f (a, false) [] cs [] = ([], cs ++ l, [])
 | [], cs, f + 1, a, s, h, hl, hf => by
  rw [Sd s, zao]
 | c :: l, cs, f + 1, a, s, h, hl, hf => by
  simp only [zar] at hl hf
  rw [zaq] at s
  have h2 := h c (zaz ..)
  obtain ⟨e2, s3⟩ := Pg s (by omega) (by omega)
  have hlt := s.head.2.1
  rw [Cp, if_pos (by simp; omega), if_neg (by decide), if_pos rfl, e2, show c % 256 = c by omega]
  dsimp only
  rw [Ajn l (cs ++ [c]) f _ s3 (fun x hx => h x (zay _ hx)) (by simp only [zag, zan]; omega) (by omega), zah]
  rfl
theorem AgQ {B : ByteArray} : ∀ (l ns : List ByteArray) (f : Nat) (a : Int), Sf B a (l.map Hy).flatten → (∀ w ∈ l, Bi w = true) → ns.length + l.length ≤ 4 → l.length < f → Cp 10 B f (a, false) [] [] ns = ([], [], ns ++ l)
 | [], ns, f + 1, a, s, h, hl, hf => by
  rw [Sd s, zao]
 | w :: l, ns, f + 1, a, s, h, hl, hf => by
  simp only [zar] at hl hf
  rw [zaq, za6] at s
  have h1 := h w (zaz ..)
  have e1 := Ko s (Fo h1)
  obtain ⟨_, s2⟩ := Jr s (Fo h1)
  have hlt := s.head.2.1
  rw [Cp, if_pos (by simp; omega), if_neg (by decide), if_neg (by decide), if_pos rfl, e1]
  dsimp only
  rw [AgQ l (ns ++ [w]) f _ s2 (fun x hx => h x (zay _ hx)) (by simp only [zag, zan]; omega) (by omega), zah]
  rfl
theorem Qf {t : Int} {B : ByteArray} {f : Nat} {a : Int} {ws : List WantV} {ns : List ByteArray} (h : ((B.size : Nat) : Int) ≤ a ∨ (t ≠ 8 ∧ t ≠ 10)) : Db t B (f + 1) a ws ns = some (ws, ns) := by
 rw [Db, if_neg (by simp; omega)]
theorem Ajo {B : ByteArray} : ∀ (l ws : List WantV) (f : Nat) (a : Int), Sf B a (l.map Mf).flatten → (∀ w ∈ l, Bi w.fFilter = true ∧ 0 ≤ w.fQos ∧ w.fQos < 256) → l.length < f → Db 8 B f a ws [] = some (ws ++ l, [])
 | [], ws, f + 1, a, s, h, hf => by
  rw [Qf (.inl (by have := s.nil; omega)), zao]
 | w :: l, ws, f + 1, a, s, h, hf => by
  simp only [zar] at hf
  rw [zaq, za6] at s
  obtain ⟨h1, h2⟩ := h w (zaz ..)
  have s' : Sf B a (Hy w.fFilter ++ (u8 (w.fQos % 256) :: (l.map Mf).flatten)) := by
   unfold Mf at s
   rw [zah] at s
   exact s
  obtain ⟨e1, s2⟩ := Mz s' h1
  obtain ⟨e2, s3⟩ := Pg s2 (by omega) (by omega)
  obtain ⟨hb, hl2, _⟩ := s2.head
  rw [Ki (by omega) (by omega), show w.fQos % 256 = w.fQos by omega] at hb
  have hlt := s'.head.2.1
  rw [Db, if_pos (by simp; omega), e1]
  dsimp only
  rw [if_pos rfl, if_neg (by decide), if_neg (by omega), hb, Ajo l (ws ++ [(⟨w.fFilter, w.fQos⟩ : WantV)]) f _ s3 (fun x hx => h x (zay _ hx)) (by omega), zah]
  rfl
theorem AgR {B : ByteArray} : ∀ (l ns : List ByteArray) (f : Nat) (a : Int), Sf B a (l.map Hy).flatten → (∀ w ∈ l, Bi w = true) → l.length < f → Db 10 B f a [] ns = some ([], ns ++ l)
 | [], ns, f + 1, a, s, h, hf => by
  rw [Qf (.inl (by have := s.nil; omega)), zao]
 | w :: l, ns, f + 1, a, s, h, hf => by
  simp only [zar] at hf
  rw [zaq, za6] at s
  have h1 := h w (zaz ..)
  obtain ⟨e1, s2⟩ := Mz s h1
  have hlt := s.head.2.1
  rw [Db, if_pos (by simp; omega), e1]
  dsimp only
  rw [if_pos rfl, if_pos rfl, AgR l (ns ++ [w]) f _ s2 (fun x hx => h x (zay _ hx)) (by omega), zah]
  rfl
theorem rdC {B : ByteArray} : ∀ (l cs : List Int) (f : Nat) (a : Int), Sf B a (l.map fun c => u8 (c % 256)) → (∀ c ∈ l, 0 ≤ c ∧ c < 256) → l.length < f → F8 B f a cs = cs ++ l
 | [], cs, f + 1, a, s, h, hf => by
  rw [F8, if_neg (by have := s.nil; omega), zao]
 | c :: l, cs, f + 1, a, s, h, hf => by
  simp only [zar] at hf
  rw [zaq] at s
  have h2 := h c (zaz ..)
  obtain ⟨hb, hlt, s3⟩ := s.head
  rw [Ki (by omega) (by omega), show c % 256 = c by omega] at hb
  rw [F8, if_pos hlt, hb, rdC l (cs ++ [c]) f _ s3 (fun x hx => h x (zay _ hx)) (by omega), zah]
  rfl
end
section
open Go
theorem As : bs0.size = 0 := rfl
theorem Acy (z : Int) (hz : 0 ≤ z ∧ z < 256) : AV.ro 1 [.sc (.int .u8 z)] = Ai (Bb bs0 z) := by
 rw [Hm _ z hz.1 hz.2]
 rfl
theorem AgW (z w : Int) (hz : (0 ≤ z ∧ z < 256) ∧ 0 ≤ w ∧ w < 256) : AV.ro 2 [.sc (.int .u8 z), .sc (.int .u8 w)] = Ai (Bb (Bb bs0 z) w) := by
 rw [Hm _ w hz.2.1 hz.2.2, Al, (AV.ro.inj (Hm bs0 z hz.1.1 hz.1.2)).2]
 rfl
theorem Pj (b c : ByteArray) (z : Int) : b ++ Bb c z = Bb (b ++ c) z := by
 apply ByteArray.ext
 unfold Bb
 rw [zbs, zbC, zbC, zbs, Array.append_push]
theorem Aan (a : ByteArray) : a ++ bs0 = a := by
 apply ByteArray.ext
 rw [zbs]
 exact Array.append_empty ..
theorem L5 (n : Nat) (hn : 1048576 < n) (a : ByteArray) (hs : a.size ≤ 140737488355327) : Di E0 (n + 4) 22 77 [.ro 1 [Ai a]] = some (Ai (a)) := by
 rw [Be, Adm, f77]
 refine C7 (G := (· = some (Ai (a)))) ?_
 try simp only [B3]
 have s0 : Sep [] [] := C1
 refine C4 ?_
 rw [Ms]
 try simp only [A9, A5, Aw, Bw, D3]
 refine D4 (Au (by decide) (Wa (r := [Ai a]) (by decide) (Cr rfl) rfl (Fc (c := Ai a) rfl (Ip s0 (by omega) fun x1 H lx1 s2 => Ca (by omega) (by omega) ?_))))
 rw [Ms]
 try simp only [A9, A5, Aw, Bw, D3]
 refine D4 (Ax (by decide) (Ah (Ds s2 (.here)) ?_))
 first | done | rfl
theorem L6 (n : Nat) (hn : 1048576 < n) (a : ByteArray) (b : ByteArray) (hs : a.size + b.size ≤ 140737488355327) : Di E0 (n + 4) 22 77 [.ro 2 [Ai a, Ai b]] = some (Ai (a ++ b)) := by
 rw [Be, Adm, f77]
 refine C7 (G := (· = some (Ai (a ++ b)))) ?_
 try simp only [B3]
 have s0 : Sep [] [] := C1
 refine C4 ?_
 rw [Ms]
 try simp only [A9, A5, Aw, Bw, D3]
 refine D4 (Au (by decide) (Wa (r := [Ai a, Ai b]) (by decide) (Cr rfl) rfl (Fc (c := Ai a) rfl (Ip s0 (by omega) fun x1 H lx1 s2 => Ca (by omega) (by omega) ?_))))
 rw [Ms]
 try simp only [A9, A5, Aw, Bw, D3]
 refine D4 (Au (by decide) (Wa (r := [Ai b]) (by decide) (Cr rfl) rfl (Fc (c := Ai b) rfl (Pv (s := a) s2 ⟨_, _, rfl, rfl, rfl, rfl⟩ (.here) Se (by first | omega | (simp only [Al, Ak, As]; omega)) fun x3 H lx3 s4 => Ca (by omega) (by omega) ?_))))
 rw [Ms]
 try simp only [A9, A5, Aw, Bw, D3]
 refine D4 (Ax (by decide) (Ah (Ds s4 (.here)) ?_))
 first | done | rfl
theorem Py (n : Nat) (hn : 1048576 < n) (b : ByteArray) (n_ : Int) (hs : b.size ≤ 70368744177664) : Di E0 (n + 5) 22 142 [Ai b, .sc (.int .i64 n_)] = some (Ai (Ap b n_)) := by
 rw [Be, Afo, f142]
 refine C7 (G := (· = some (Ai (Ap b n_)))) ?_
 try simp only [Cz, A5, C2, Dm]
 have s0 : Sep [] [] := C1
 refine Rj 256 rfl (by decide) (Gj (K9 _) (Fu (IntKind.wrap_u8 _) (Gj (K9 _) (Fu (IntKind.wrap_u8 _) (Bh (cs := [.sc (.int .u8 (((n_ / 256) % 256) % 256)), .sc (.int .u8 ((n_ % 256) % 256))]) rfl (Ct s0 fun i1 H s2 => Bh (cs := [Ai b, .sl i1 0 2 1]) rfl (Ct s2 fun i3 H s4 => Cl s4 rfl (.sl (.here) rfl (.cons .ro (.sl C6 rfl (H5 .nil) .nil)) .nil) (by rw [AgW (((n_ / 256) % 256) % 256) ((n_ % 256) % 256) (by omega)]; exact L6 n (by omega) b (Bb (Bb bs0 (((n_ / 256) % 256) % 256)) ((n_ % 256) % 256)) (by first | omega | (simp only [Al, Ak, As]; omega))) (Df (b ++ (Bb (Bb bs0 (((n_ / 256) % 256) % 256)) ((n_ % 256) % 256)))) fun x5 H lx5 s6 => Ah (Ds s6 (.here)) ?_)))))))
 first | rfl | (rw [Pj, Pj, Aan]; rfl)
theorem Qh (n : Nat) (hn : 1048576 < n) (b : ByteArray) (n_ : Int) (hs : b.size ≤ 70368744177664) : Di E0 (n + 1) 22 95 [Ai b, .sc (.int .i64 n_)] = some (Ai (Ap b n_)) := by
 rw [Be, AhG, f95]
 refine C7 (G := (· = some (Ai (Ap b n_)))) ?_
 try simp only [Cz, A5, C2, D3, Dm]
 have s0 : Sep [] [] := C1
 refine Ip s0 (by omega) fun x1 H lx1 s2 => Rj 256 rfl (by decide) (Gj (K9 _) (Fu (IntKind.wrap_u8 _) (Gj (K9 _) (Fu (IntKind.wrap_u8 _) (Bh (cs := [.sc (.int .u8 (((n_ / 256) % 256) % 256)), .sc (.int .u8 ((n_ % 256) % 256))]) rfl (Ct s2 fun i3 H s4 => R8 (s := b) (z := (((n_ / 256) % 256) % 256)) (w := ((n_ % 256) % 256)) s4 C6 (.here) ⟨_, _, rfl, rfl, rfl, rfl⟩ (by first | omega | (simp only [Al, As]; omega)) fun x5 H lx5 s6 => Ah (Ds s6 (.here)) ?_))))))
 first | rfl | (rw [Pj, Pj, Aan]; rfl)
theorem Kd (n : Nat) (hn : 1048576 < n) (b : ByteArray) (s : ByteArray) (hb : b.size ≤ 70368744177664) (hs : s.size ≤ 1048576) : Di E0 (n + 6) 22 141 [Ai b, .sc (.string s)] = some (Ai (Ao b s)) := by
 rw [Be, Afn, f141]
 refine C7 (G := (· = some (Ai (Ao b s)))) ?_
 try simp only [Cz, D8, Aw, Gr, C2, Aaj]
 have s0 : Sep [] [] := C1
 refine Mt rfl rfl (Hs _ s (zaB hs (by decide))) (C5 (Aa ((Bi s)) (fun h1 => ?_) (fun h1 => ?_)))
 refine Ax (nF h1) (AdE (Cl s0 rfl (.cons .ro (.cons .sc .nil)) (Py n (by omega) b (s.size : Int) (by omega)) (Df (Ap b (s.size : Int))) fun x2 H lx2 s3 => AhO s3 (by omega) fun i4 H s5 => Bh (cs := [x2, .sl i4 0 s.size 1]) (Js (z' := [x2, .nl]) (Ef lx2) rfl (Cr rfl) rfl (Js (z' := [x2, .sl i4 0 s.size 1]) (Ef rfl) rfl (Cr rfl) rfl (rfl))) (Ct s5 fun i6 H s7 => Cl s7 rfl (.sl (.here) rfl (.cons (.own (by decide) Do) (.sl C6 Aje vwB .nil)) .nil) (L6 (n + 1) (by omega) (Ap b (s.size : Int)) s (by first | omega | (simp only [Al, Ak, As]; omega))) (Df ((Ap b (s.size : Int)) ++ s)) fun x8 H lx8 s9 => Ah (Ds s9 (.here)) ?_)))
 have e : Ao b s = ((Ap b (s.size : Int)) ++ s) := by
  unfold Ao
  simp only [h1, if_true, if_false, zaa]
 ·rw [e]
  first | done | rfl
 refine Au (nT h1) (Bh (cs := [Ai b]) rfl (Ct s0 fun i10 H s11 => Cl s11 rfl (.sl (.here) rfl (.cons .ro .nil) .nil) (L5 (n + 1) (by omega) b (by omega)) (Df b) fun x12 H lx12 s13 => Ah (Ds s13 (.here)) ?_))
 have e : Ao b s = b := by
  unfold Ao
  simp only [h1, if_true, if_false, zaa]
 ·rw [e]
  first | done | rfl
theorem Kh (n : Nat) (hn : 1048576 < n) (b : ByteArray) (s : ByteArray) (hb : b.size ≤ 70368744177664) (hs : s.size ≤ 1048576) : Di E0 (n + 5) 22 93 [Ai b, .sc (.string s)] = some (Ai (Ao b s)) := by
 rw [Be, AhE, f93]
 refine C7 (G := (· = some (Ai (Ao b s)))) ?_
 try simp only [D8, Aw, Gr, D3, Ae6]
 have s0 : Sep [] [] := C1
 refine Ar (v := (.bool (Bi s))) s0 rfl (.cons .sc .nil) (Gc n (by omega) _ s) (C5 (Aa ((Bi s)) (fun h1 => ?_) (fun h1 => ?_)))
 refine Ax (nF h1) (AdE (Cl s0 rfl (.cons .ro (.cons .sc .nil)) (Qh (n + 3) (by omega) b (s.size : Int) (by omega)) (Df (Ap b (s.size : Int))) fun x2 H lx2 s3 => Af7 (s := (Ap b (s.size : Int))) s3 ⟨_, _, rfl, rfl, rfl, rfl⟩ (.here) (by first | omega | (simp only [Al, Ak, As]; omega)) fun x4 H lx4 s5 => Ah (Ds s5 (.here)) ?_))
 have e : Ao b s = ((Ap b (s.size : Int)) ++ s) := by
  unfold Ao
  simp only [h1, if_true, if_false, zaa]
 ·rw [e]
  first | done | rfl
 refine Au (nT h1) (Ip s0 (by omega) fun x6 H lx6 s7 => Ah (Ds s7 (.here)) ?_)
 have e : Ao b s = b := by
  unfold Ao
  simp only [h1, if_true, if_false, zaa]
 ·rw [e]
  first | done | rfl
theorem AaC (n : Nat) (hn : 1048576 < n) (b : ByteArray) (s : ByteArray) (hb : b.size ≤ 70368744177664) (hs : s.size ≤ 1048576) : Di E0 (n + 6) 22 151 [Ai b, Ai s] = some (Ai (Dc b s)) := by
 rw [Be, Afs, f151]
 refine C7 (G := (· = some (Ai (Dc b s)))) ?_
 try simp only [Cz, A5, Aw, B3, C2]
 have s0 : Sep [] [] := C1
 refine C4 (Eo (Aa ((decide (60 < ((s.size : Nat) : Int)))) (fun h1 => ?_) (fun h1 => ?_)))
 refine Au h1 (Bh (cs := [Ai b]) rfl (Ct s0 fun i2 H s3 => Cl s3 rfl (.sl (.here) rfl (.cons .ro .nil) .nil) (L5 (n + 1) (by omega) b (by omega)) (Df b) fun x4 H lx4 s5 => Ah (Ds s5 (.here)) ?_))
 have e : Dc b s = b := by
  unfold Dc
  simp only [h1, if_true, if_false, zaa]
 ·rw [e]
  first | done | rfl
 refine Ax h1 (C4 (Cl s0 rfl (.cons .ro (.cons .sc .nil)) (Py n (by omega) b ((s.size : Nat) : Int) (by omega)) (Df (Ap b ((s.size : Nat) : Int))) fun x6 H lx6 s7 => Bh (cs := [x6, Ai s]) (Js (z' := [x6, .nl]) (Ef lx6) rfl (Cr rfl) rfl (Js (z' := [x6, Ai s]) (Ef rfl) rfl (Cr rfl) rfl (rfl))) (Ct s7 fun i8 H s9 => Cl s9 rfl (.sl (.here) rfl (.cons (.own (by decide) C6) (.cons .ro .nil)) .nil) (L6 (n + 1) (by omega) (Ap b ((s.size : Nat) : Int)) s (by first | omega | (simp only [Al, Ak, As]; omega))) (Df ((Ap b ((s.size : Nat) : Int)) ++ s)) fun x10 H lx10 s11 => Ah (Ds s11 (.here)) ?_)))
 have e : Dc b s = ((Ap b ((s.size : Nat) : Int)) ++ s) := by
  unfold Dc
  simp only [h1, if_true, if_false, zaa]
 ·rw [e]
  first | done | rfl
theorem AaN (n : Nat) (hn : 1048576 < n) (b : ByteArray) (s : ByteArray) (hb : b.size ≤ 70368744177664) (hs : s.size ≤ 1048576) : Di E0 (n + 2) 22 96 [Ai b, Ai s] = some (Ai (Dc b s)) := by
 rw [Be, AhH, f96]
 refine C7 (G := (· = some (Ai (Dc b s)))) ?_
 try simp only [A5, Aw, B3, D3]
 have s0 : Sep [] [] := C1
 refine C4 (Eo (Aa ((decide (60 < ((s.size : Nat) : Int)))) (fun h1 => ?_) (fun h1 => ?_)))
 refine Au h1 (Ip s0 (by omega) fun x2 H lx2 s3 => Ah (Ds s3 (.here)) ?_)
 have e : Dc b s = b := by
  unfold Dc
  simp only [h1, if_true, if_false, zaa]
 ·rw [e]
  first | done | rfl
 refine Ax h1 (C4 (Cl s0 rfl (.cons .ro (.cons .sc .nil)) (Qh n (by omega) b ((s.size : Nat) : Int) (by omega)) (Df (Ap b ((s.size : Nat) : Int))) fun x4 H lx4 s5 => Pv (s := (Ap b ((s.size : Nat) : Int))) s5 ⟨_, _, rfl, rfl, rfl, rfl⟩ (.here) Se (by first | omega | (simp only [Al, Ak, As]; omega)) fun x6 H lx6 s7 => Ah (Ds s7 (.here)) ?_))
 have e : Dc b s = ((Ap b ((s.size : Nat) : Int)) ++ s) := by
  unfold Dc
  simp only [h1, if_true, if_false, zaa]
 ·rw [e]
  first | done | rfl
theorem U5 {m : Int} (h : B6 m 0 268435455 = true) : 0 ≤ m ∧ m ≤ 268435455 ∧ ¬ 127 < m / 128 / 128 / 128 := by
 simp only [B6, zaf, decide_eq_true_eq] at h
 omega
theorem AfG (n : Nat) (hn : 1048576 < n) (b : ByteArray) (m_ : Int) (hb : b.size ≤ 70368744177664) : Di E0 (n + 6) 22 112 [Ai b, .sc (.int .i64 m_)] = some (Ai (Dl b m_)) := by
 rw [Be, AeW, f112]
 refine C7 (G := (· = some (Ai (Dl b m_)))) ?_
 try simp only [Cz, D8, Aw, C2]
 have s0 : Sep [] [] := C1
 refine Bh (cs := [Ai b]) rfl (Ct s0 fun i1 H s2 => Cl s2 rfl (.sl (.here) rfl (.cons .ro .nil) .nil) (L5 (n + 1) (by omega) b (by omega)) (Df b) fun x3 H lx3 s4 => Ar (v := (.bool (B6 m_ 0 268435455))) s4 rfl (Lu .nil) (Hl (n + 4) _ m_ 0 268435455) (C5 (Aa ((B6 m_ 0 268435455)) (fun h5 => ?_) (fun h5 => ?_))))
 obtain ⟨hm0, hm1, hq⟩ := U5 h5
 refine Ax (nF h5) ?_
 rw [Lf]
 try simp only [Cz, A5, Aw, C2, D3, Dm]
 refine Eo (Aa ((decide (127 < m_))) (fun h6 => ?_) (fun h6 => ?_))
 refine Au h6 (Ov (v := .sc (.int .i64 (m_ % 128))) (fun k => by show k (.sc (.int .i64 (Int.tmod (m_) 128))) = _; rw [zaE (by omega)]) (Ca (by omega) (by omega) (Fu (IntKind.wrap_u8 _) (Bh (cs := [.sc (.int .u8 (((m_ % 128) + 128) % 256))]) rfl (Ct s4 fun i7 H s8 => Fa (s := b) (z := (((m_ % 128) + 128) % 256)) s8 C6 (.here) ⟨_, _, rfl, rfl, rfl, rfl⟩ rfl (by first | omega | (simp only [Al, As]; omega)) fun x9 H lx9 s10 => Ns (by omega) (by omega) (by decide) ?_)))))
 rw [Lf]
 try simp only [Cz, A5, Aw, C2, D3, Dm]
 refine Eo (Aa ((decide (127 < (m_ / 128)))) (fun h11 => ?_) (fun h11 => ?_))
 refine Au h11 (Ov (v := .sc (.int .i64 ((m_ / 128) % 128))) (fun k => by show k (.sc (.int .i64 (Int.tmod ((m_ / 128)) 128))) = _; rw [zaE (by omega)]) (Ca (by omega) (by omega) (Fu (IntKind.wrap_u8 _) (Bh (cs := [.sc (.int .u8 ((((m_ / 128) % 128) + 128) % 256))]) rfl (Ct s10 fun i12 H s13 => Fa (s := (Bb b (((m_ % 128) + 128) % 256))) (z := ((((m_ / 128) % 128) + 128) % 256)) s13 C6 (.here) ⟨_, _, rfl, rfl, rfl, rfl⟩ rfl (by first | omega | (simp only [Al, As]; omega)) fun x14 H lx14 s15 => Ns (by omega) (by omega) (by decide) ?_)))))
 rw [Lf]
 try simp only [Cz, A5, Aw, C2, D3, Dm]
 refine Eo (Aa ((decide (127 < ((m_ / 128) / 128)))) (fun h16 => ?_) (fun h16 => ?_))
 refine Au h16 (Ov (v := .sc (.int .i64 (((m_ / 128) / 128) % 128))) (fun k => by show k (.sc (.int .i64 (Int.tmod (((m_ / 128) / 128)) 128))) = _; rw [zaE (by omega)]) (Ca (by omega) (by omega) (Fu (IntKind.wrap_u8 _) (Bh (cs := [.sc (.int .u8 (((((m_ / 128) / 128) % 128) + 128) % 256))]) rfl (Ct s15 fun i17 H s18 => Fa (s := (Bb (Bb b (((m_ % 128) + 128) % 256)) ((((m_ / 128) % 128) + 128) % 256))) (z := (((((m_ / 128) / 128) % 128) + 128) % 256)) s18 C6 (.here) ⟨_, _, rfl, rfl, rfl, rfl⟩ rfl (by first | omega | (simp only [Al, As]; omega)) fun x19 H lx19 s20 => Ns (by omega) (by omega) (by decide) ?_)))))
 rw [Lf]
 try simp only [Cz, A5, Aw, C2, D3, Dm]
 refine Eo (Ax (decide_eq_false (by omega)) (Fu (IntKind.wrap_u8 _) (Bh (cs := [.sc (.int .u8 ((((m_ / 128) / 128) / 128) % 256))]) rfl (Ct s20 fun i21 H s22 => Fa (s := (Bb (Bb (Bb b (((m_ % 128) + 128) % 256)) ((((m_ / 128) % 128) + 128) % 256)) (((((m_ / 128) / 128) % 128) + 128) % 256))) (z := ((((m_ / 128) / 128) / 128) % 256)) s22 C6 (.here) ⟨_, _, rfl, rfl, rfl, rfl⟩ rfl (by first | omega | (simp only [Al, As]; omega)) fun x23 H lx23 s24 => Ah (Ds s24 (.here)) ?_))))
 have e : Dl b m_ = (Bb (Bb (Bb (Bb b (((m_ % 128) + 128) % 256)) ((((m_ / 128) % 128) + 128) % 256)) (((((m_ / 128) / 128) % 128) + 128) % 256)) ((((m_ / 128) / 128) / 128) % 256)) := by
  simp only [Cs] at h5 h6 h11 h16
  unfold Dl
  simp only [h5, h6, h11, h16, if_true, if_false, zaa, J3, hq]
 ·rw [e]
  first | done | rfl
 refine Ax h16 (Fu (IntKind.wrap_u8 _) (Bh (cs := [.sc (.int .u8 (((m_ / 128) / 128) % 256))]) rfl (Ct s15 fun i25 H s26 => Fa (s := (Bb (Bb b (((m_ % 128) + 128) % 256)) ((((m_ / 128) % 128) + 128) % 256))) (z := (((m_ / 128) / 128) % 256)) s26 C6 (.here) ⟨_, _, rfl, rfl, rfl, rfl⟩ rfl (by first | omega | (simp only [Al, As]; omega)) fun x27 H lx27 s28 => Ah (Ds s28 (.here)) ?_)))
 have e : Dl b m_ = (Bb (Bb (Bb b (((m_ % 128) + 128) % 256)) ((((m_ / 128) % 128) + 128) % 256)) (((m_ / 128) / 128) % 256)) := by
  simp only [Cs] at h5 h6 h11 h16
  unfold Dl
  simp only [h5, h6, h11, h16, if_true, if_false, zaa, J3, hq]
 ·rw [e]
  first | done | rfl
 refine Ax h11 (Fu (IntKind.wrap_u8 _) (Bh (cs := [.sc (.int .u8 ((m_ / 128) % 256))]) rfl (Ct s10 fun i29 H s30 => Fa (s := (Bb b (((m_ % 128) + 128) % 256))) (z := ((m_ / 128) % 256)) s30 C6 (.here) ⟨_, _, rfl, rfl, rfl, rfl⟩ rfl (by first | omega | (simp only [Al, As]; omega)) fun x31 H lx31 s32 => Ah (Ds s32 (.here)) ?_)))
 have e : Dl b m_ = (Bb (Bb b (((m_ % 128) + 128) % 256)) ((m_ / 128) % 256)) := by
  simp only [Cs] at h5 h6 h11
  unfold Dl
  simp only [h5, h6, h11, if_true, if_false, zaa, J3, hq]
 ·rw [e]
  first | done | rfl
 refine Ax h6 (Fu (IntKind.wrap_u8 _) (Bh (cs := [.sc (.int .u8 (m_ % 256))]) rfl (Ct s4 fun i33 H s34 => Fa (s := b) (z := (m_ % 256)) s34 C6 (.here) ⟨_, _, rfl, rfl, rfl, rfl⟩ rfl (by first | omega | (simp only [Al, As]; omega)) fun x35 H lx35 s36 => Ah (Ds s36 (.here)) ?_)))
 have e : Dl b m_ = (Bb b (m_ % 256)) := by
  simp only [Cs] at h5 h6
  unfold Dl
  simp only [h5, h6, if_true, if_false, zaa, J3, hq]
 ·rw [e]
  first | done | rfl
 refine Au (nT h5) (Ah (Ds s4 (.here)) ?_)
 have e : Dl b m_ = b := by
  unfold Dl
  simp only [h5, if_true, if_false, zaa, J3]
 ·rw [e]
  first | done | rfl
theorem Agm (n : Nat) (hn : 1048576 < n) (b : ByteArray) (m_ : Int) (hb : b.size ≤ 70368744177664) : Di E0 (n + 6) 22 97 [Ai b, .sc (.int .i64 m_)] = some (Ai (Dl b m_)) := by
 rw [Be, AhI, f97]
 refine C7 (G := (· = some (Ai (Dl b m_)))) ?_
 try simp only [D8, Aw, D3]
 have s0 : Sep [] [] := C1
 refine Ip s0 (by omega) fun x1 H lx1 s2 => Ar (v := (.bool (B6 m_ 0 268435455))) s2 rfl (Lu .nil) (Gm (n + 4) _ m_ 0 268435455) (C5 (Aa ((B6 m_ 0 268435455)) (fun h3 => ?_) (fun h3 => ?_)))
 obtain ⟨hm0, hm1, hq⟩ := U5 h3
 refine Ax (nF h3) ?_
 rw [Nq]
 try simp only [Cz, A5, Aw, C2, D3, Dm]
 refine Eo (Aa ((decide (127 < m_))) (fun h4 => ?_) (fun h4 => ?_))
 refine Au h4 (Ov (v := .sc (.int .i64 (m_ % 128))) (fun k => by show k (.sc (.int .i64 (Int.tmod (m_) 128))) = _; rw [zaE (by omega)]) (Ca (by omega) (by omega) (Fu (IntKind.wrap_u8 _) (Bh (cs := [.sc (.int .u8 ((128 + (m_ % 128)) % 256))]) rfl (Ct s2 fun i5 H s6 => Fa (s := b) (z := ((128 + (m_ % 128)) % 256)) s6 C6 (.here) ⟨_, _, rfl, rfl, rfl, rfl⟩ rfl (by first | omega | (simp only [Al, As]; omega)) fun x7 H lx7 s8 => Ns (by omega) (by omega) (by decide) ?_)))))
 rw [Nq]
 try simp only [Cz, A5, Aw, C2, D3, Dm]
 refine Eo (Aa ((decide (127 < (m_ / 128)))) (fun h9 => ?_) (fun h9 => ?_))
 refine Au h9 (Ov (v := .sc (.int .i64 ((m_ / 128) % 128))) (fun k => by show k (.sc (.int .i64 (Int.tmod ((m_ / 128)) 128))) = _; rw [zaE (by omega)]) (Ca (by omega) (by omega) (Fu (IntKind.wrap_u8 _) (Bh (cs := [.sc (.int .u8 ((128 + ((m_ / 128) % 128)) % 256))]) rfl (Ct s8 fun i10 H s11 => Fa (s := (Bb b ((128 + (m_ % 128)) % 256))) (z := ((128 + ((m_ / 128) % 128)) % 256)) s11 C6 (.here) ⟨_, _, rfl, rfl, rfl, rfl⟩ rfl (by first | omega | (simp only [Al, As]; omega)) fun x12 H lx12 s13 => Ns (by omega) (by omega) (by decide) ?_)))))
 rw [Nq]
 try simp only [Cz, A5, Aw, C2, D3, Dm]
 refine Eo (Aa ((decide (127 < ((m_ / 128) / 128)))) (fun h14 => ?_) (fun h14 => ?_))
 refine Au h14 (Ov (v := .sc (.int .i64 (((m_ / 128) / 128) % 128))) (fun k => by show k (.sc (.int .i64 (Int.tmod (((m_ / 128) / 128)) 128))) = _; rw [zaE (by omega)]) (Ca (by omega) (by omega) (Fu (IntKind.wrap_u8 _) (Bh (cs := [.sc (.int .u8 ((128 + (((m_ / 128) / 128) % 128)) % 256))]) rfl (Ct s13 fun i15 H s16 => Fa (s := (Bb (Bb b ((128 + (m_ % 128)) % 256)) ((128 + ((m_ / 128) % 128)) % 256))) (z := ((128 + (((m_ / 128) / 128) % 128)) % 256)) s16 C6 (.here) ⟨_, _, rfl, rfl, rfl, rfl⟩ rfl (by first | omega | (simp only [Al, As]; omega)) fun x17 H lx17 s18 => Ns (by omega) (by omega) (by decide) ?_)))))
 rw [Nq]
 try simp only [Cz, A5, Aw, C2, D3, Dm]
 refine Eo (Ax (decide_eq_false (by omega)) (Fu (IntKind.wrap_u8 _) (Bh (cs := [.sc (.int .u8 ((((m_ / 128) / 128) / 128) % 256))]) rfl (Ct s18 fun i19 H s20 => Fa (s := (Bb (Bb (Bb b ((128 + (m_ % 128)) % 256)) ((128 + ((m_ / 128) % 128)) % 256)) ((128 + (((m_ / 128) / 128) % 128)) % 256))) (z := ((((m_ / 128) / 128) / 128) % 256)) s20 C6 (.here) ⟨_, _, rfl, rfl, rfl, rfl⟩ rfl (by first | omega | (simp only [Al, As]; omega)) fun x21 H lx21 s22 => Ah (Ds s22 (.here)) ?_))))
 have e : Dl b m_ = (Bb (Bb (Bb (Bb b ((128 + (m_ % 128)) % 256)) ((128 + ((m_ / 128) % 128)) % 256)) ((128 + (((m_ / 128) / 128) % 128)) % 256)) ((((m_ / 128) / 128) / 128) % 256)) := by
  simp only [Cs] at h3 h4 h9 h14
  unfold Dl
  simp only [h3, h4, h9, h14, if_true, if_false, zaa, J3, hq]
  try simp only [zbH]
 ·rw [e]
  first | done | rfl
 refine Ax h14 (Fu (IntKind.wrap_u8 _) (Bh (cs := [.sc (.int .u8 (((m_ / 128) / 128) % 256))]) rfl (Ct s13 fun i23 H s24 => Fa (s := (Bb (Bb b ((128 + (m_ % 128)) % 256)) ((128 + ((m_ / 128) % 128)) % 256))) (z := (((m_ / 128) / 128) % 256)) s24 C6 (.here) ⟨_, _, rfl, rfl, rfl, rfl⟩ rfl (by first | omega | (simp only [Al, As]; omega)) fun x25 H lx25 s26 => Ah (Ds s26 (.here)) ?_)))
 have e : Dl b m_ = (Bb (Bb (Bb b ((128 + (m_ % 128)) % 256)) ((128 + ((m_ / 128) % 128)) % 256)) (((m_ / 128) / 128) % 256)) := by
  simp only [Cs] at h3 h4 h9 h14
  unfold Dl
  simp only [h3, h4, h9, h14, if_true, if_false, zaa, J3, hq]
  try simp only [zbH]
 ·rw [e]
  first | done | rfl
 refine Ax h9 (Fu (IntKind.wrap_u8 _) (Bh (cs := [.sc (.int .u8 ((m_ / 128) % 256))]) rfl (Ct s8 fun i27 H s28 => Fa (s := (Bb b ((128 + (m_ % 128)) % 256))) (z := ((m_ / 128) % 256)) s28 C6 (.here) ⟨_, _, rfl, rfl, rfl, rfl⟩ rfl (by first | omega | (simp only [Al, As]; omega)) fun x29 H lx29 s30 => Ah (Ds s30 (.here)) ?_)))
 have e : Dl b m_ = (Bb (Bb b ((128 + (m_ % 128)) % 256)) ((m_ / 128) % 256)) := by
  simp only [Cs] at h3 h4 h9
  unfold Dl
  simp only [h3, h4, h9, if_true, if_false, zaa, J3, hq]
  try simp only [zbH]
 ·rw [e]
  first | done | rfl
 refine Ax h4 (Fu (IntKind.wrap_u8 _) (Bh (cs := [.sc (.int .u8 (m_ % 256))]) rfl (Ct s2 fun i31 H s32 => Fa (s := b) (z := (m_ % 256)) s32 C6 (.here) ⟨_, _, rfl, rfl, rfl, rfl⟩ rfl (by first | omega | (simp only [Al, As]; omega)) fun x33 H lx33 s34 => Ah (Ds s34 (.here)) ?_)))
 have e : Dl b m_ = (Bb b (m_ % 256)) := by
  simp only [Cs] at h3 h4
  unfold Dl
  simp only [h3, h4, if_true, if_false, zaa, J3, hq]
  try simp only [zbH]
 ·rw [e]
  first | done | rfl
 refine Au (nT h3) (Ah (Ds s2 (.here)) ?_)
 have e : Dl b m_ = b := by
  unfold Dl
  simp only [h3, if_true, if_false, zaa, J3]
  try simp only [zbH]
 ·rw [e]
  first | done | rfl
end
section
open Go
theorem Gs (b : Bool) (n : Int) (h : 0 ≤ n) : 0 ≤ Bc b n ∧ Bc b n ≤ n := by
 unfold Bc
 split <;> omega
theorem W5 (n : Nat) (b : Bool) (i : Int) : Di E0 (n + 1) 3 140 [.sc (.bool b), .sc (.int .i64 i)] = some (.sc (.int .i64 (Bc b i))) := by
 rw [Be, Afm, f140]
 refine C7 (G := (· = some (si (Bc b i)))) ?_
 try simp only [Aw]
 have s0 : Sep [] [] := C1
 refine Aa (b) (fun h1 => ?_) (fun h1 => ?_)
 refine Au h1 (Ah rfl ?_)
 have e : Bc b i = i := by
  first | rfl | (simp only [Bc, h1, if_true, if_false, zaa]; done) | (simp only [Bc, h1, if_true, if_false, zaa]; rfl) | (simp [Bc, h1]; done)
 ·rw [e]
  first | done | rfl
 refine Ax h1 (Ah rfl ?_)
 have e : Bc b i = 0 := by
  first | rfl | (simp only [Bc, h1, if_true, if_false, zaa]; done) | (simp only [Bc, h1, if_true, if_false, zaa]; rfl) | (simp [Bc, h1]; done)
 ·rw [e]
  first | done | rfl
theorem Ri (n : Nat) (b : Bool) (i : Int) : Di E0 (n + 1) 3 94 [.sc (.bool b), .sc (.int .i64 i)] = some (.sc (.int .i64 (Bc b i))) := by
 rw [Be, AhF, f94]
 refine C7 (G := (· = some (si (Bc b i)))) ?_
 try simp only [Aw]
 have s0 : Sep [] [] := C1
 refine Aa (b) (fun h1 => ?_) (fun h1 => ?_)
 refine Au h1 (Ah rfl ?_)
 have e : Bc b i = i := by
  first | rfl | (simp only [Bc, h1, if_true, if_false, zaa]; done) | (simp only [Bc, h1, if_true, if_false, zaa]; rfl) | (simp [Bc, h1]; done)
 ·rw [e]
  first | done | rfl
 refine Ax h1 (Ah rfl ?_)
 have e : Bc b i = 0 := by
  first | rfl | (simp only [Bc, h1, if_true, if_false, zaa]; done) | (simp only [Bc, h1, if_true, if_false, zaa]; rfl) | (simp [Bc, h1]; done)
 ·rw [e]
  first | done | rfl
theorem Y3 (n : Nat) (hn : 1048576 < n) (p : PacketV) (hp : Gx p) (hb1 : p.fWBody.size ≤ 1048576) (hb2 : p.fPass.size ≤ 1048576) (hq : 0 ≤ p.fWQos ∧ p.fWQos ≤ 2) : Di E0 (n + 7) 22 139 [.agg (A0 p)] = some (Ai (Cv p)) := by
 rw [Be, Afl, f139]
 refine C7 (G := (· = some (Ai (Cv p)))) ?_
 try simp only [Fx, Cz, Bx, A9, A5, Aw, C2, D3, Dm]
 have s0 : Sep [] [] := C1
 refine Lg s0 (F4 (Dg _)) fun i1 H s2 => Ab (o' := 9) rfl (Aq (c := sb p.fClean) s2 (.here) rfl (Ab (o' := 11) rfl (Aq (c := sb p.fHasWill) s2 (.here) rfl (Ab (o' := 14) rfl (Aq (c := si p.fWQos) s2 (.here) rfl (Px (by omega) (by omega) (Ab (o' := 15) rfl (Aq (c := sb p.fWRetain) s2 (.here) rfl (Ab (o' := 18) rfl (Aq (c := sb p.fHasPass) s2 (.here) rfl (Ab (o' := 16) rfl (Aq (c := sb p.fHasUser) s2 (.here) rfl ?_))))))))))))
 have q3 := Gs p.fClean 2 (by decide)
 refine Ar (v := (.int .i64 (Bc p.fClean 2))) s2 rfl (H5 .nil) (W5 (n + 5) p.fClean 2) ?_
 have q4 := Gs p.fHasWill 4 (by decide)
 refine Ar (v := (.int .i64 (Bc p.fHasWill 4))) s2 rfl (H5 .nil) (W5 (n + 5) p.fHasWill 4) (Ca (by omega) (by omega) (Ca (by omega) (by omega) ?_))
 have q5 := Gs p.fWRetain 32 (by decide)
 refine Ar (v := (.int .i64 (Bc p.fWRetain 32))) s2 rfl (H5 .nil) (W5 (n + 5) p.fWRetain 32) (Ca (by omega) (by omega) ?_)
 have q6 := Gs p.fHasPass 64 (by decide)
 refine Ar (v := (.int .i64 (Bc p.fHasPass 64))) s2 rfl (H5 .nil) (W5 (n + 5) p.fHasPass 64) (Ca (by omega) (by omega) ?_)
 have q7 := Gs p.fHasUser 128 (by decide)
 refine Ar (v := (.int .i64 (Bc p.fHasUser 128))) s2 rfl (H5 .nil) (W5 (n + 5) p.fHasUser 128) (Ca (by omega) (by omega) (Ab (o' := 8) rfl (Aq (c := si p.fLevel) s2 (.here) rfl (Fu (IntKind.wrap_u8 _) (Fu (IntKind.wrap_u8 _) (Mv (P := fun j => ∀ (x8 : AV) (z8t4 : ByteArray) (H : Ae), Bn x8 = true → (z8t4.size ≤ 100) → Sep H [.own x8 22 (Ai z8t4), .blk i1 (A0 p) true] → Gd (· = some (Ai (Bu p (Cb p (Cu p (Ao (Ap z8t4 p.fKeep) p.fClient)))))) (j (.ptr i1 0) x8 H)) ?_ fun j8 hj8 => ?_))))))
 intro x8 z8t4 H lx8 hz80 s9
 refine Ab (o' := 10) rfl (Aq (c := .sc (.int .i64 p.fKeep)) s9 C6 rfl (Ab (o' := 7) rfl (Aq (c := .sc (.string p.fClient)) s9 C6 rfl (Cl s9 rfl (.cons (.own (by decide) (.here)) (.cons .sc .nil)) (Py (n + 1) (by omega) z8t4 p.fKeep (by first | omega | (simp only [Al, Ak, As, zac]; omega))) (Df (Ap z8t4 p.fKeep)) fun x10 H lx10 s11 => ?_))))
 have z12 := C3 (Ap z8t4 p.fKeep) p.fClient
 simp only [Al, Ak, As, zac] at z12
 refine Cl s11 rfl (.cons (.own (by decide) (.here)) (.cons .sc .nil)) (Kd n (by omega) (Ap z8t4 p.fKeep) p.fClient (by first | omega | (simp only [Al, Ak, As, zac]; omega)) hp.t2) (Df (Ao (Ap z8t4 p.fKeep) p.fClient)) fun x13 H lx13 s14 => Ab (o' := 11) rfl (Aq (c := .sc (.bool p.fHasWill)) s14 Ls rfl (Mv (P := fun j => ∀ (x15 : AV) (z15t4 : ByteArray) (H : Ae), Bn x15 = true → (z15t4.size ≤ 400) → Sep H [.own x15 22 (Ai z15t4), .blk i1 (A0 p) true] → Gd (· = some (Ai (Bu p (Cb p z15t4)))) (j (.ptr i1 0) x15 H)) ?_ fun j15 hj15 => ?_))
 intro x15 z15t4 H lx15 hz150 s16
 refine Ab (o' := 16) rfl (Aq (c := sb p.fHasUser) s16 C6 rfl (Mv (P := fun j => ∀ (x17 : AV) (z17t4 : ByteArray) (H : Ae), Bn x17 = true → (z17t4.size ≤ 600) → Sep H [.own x17 22 (Ai z17t4), .blk i1 (A0 p) true] → Gd (· = some (Ai (Bu p z17t4))) (j (.ptr i1 0) x17 H)) ?_ fun j17 hj17 => ?_))
 intro x17 z17t4 H lx17 hz170 s18
 refine Ab (o' := 18) rfl (Aq (c := sb p.fHasPass) s18 C6 rfl (Dn (Aa (p.fHasPass) (fun h19 => ?_) (fun h19 => ?_))))
 refine Au h19 (Ab (o' := 19) rfl (Aq (c := Ai p.fPass) s18 C6 rfl ?_))
 have z20 := Hv z17t4 p.fPass
 refine Cl s18 rfl (.cons (.own (by decide) (.here)) (.cons .ro .nil)) (AaC n (by omega) z17t4 p.fPass (by first | omega | (simp only [Al, Ak, As, zac]; omega)) hb2) (Df (Dc z17t4 p.fPass)) fun x21 H lx21 s22 => Ah (Ds s22 (.here)) ?_
 have e : Bu p z17t4 = (Dc z17t4 p.fPass) := by
  first | rfl | (simp only [Cv, C8, Cu, Cb, Bu, Cf, h19, if_true, if_false, zaa]; done) | (simp only [Cv, C8, Cu, Cb, Bu, Cf, h19, if_true, if_false, zaa]; rfl) | (simp [Cv, C8, Cu, Cb, Bu, Cf, h19]; done)
 ·rw [e]
  first | done | rfl
 refine Ax h19 (Ah (Ds s18 (.here)) ?_)
 have e : Bu p z17t4 = z17t4 := by
  first | rfl | (simp only [Cv, C8, Cu, Cb, Bu, Cf, h19, if_true, if_false, zaa]; done) | (simp only [Cv, C8, Cu, Cb, Bu, Cf, h19, if_true, if_false, zaa]; rfl) | (simp [Cv, C8, Cu, Cb, Bu, Cf, h19]; done)
 ·rw [e]
  first | done | rfl
 refine Aa (p.fHasUser) (fun h23 => ?_) (fun h23 => ?_)
 refine Au h23 (Ab (o' := 17) rfl (Aq (c := ss p.fUser) s16 C6 rfl ?_))
 have z24 := C3 z15t4 p.fUser
 refine Cl s16 rfl (.cons (.own (by decide) (.here)) (.cons .sc .nil)) (Kd n (by omega) z15t4 p.fUser (by first | omega | (simp only [Al, Ak, As, zac]; omega)) hp.t4) (Df (Ao z15t4 p.fUser)) fun x25 H lx25 s26 => ?_
 have e27 : Bu p (Cb p z15t4) = Bu p (Ao z15t4 p.fUser) := by
  first | rfl | (simp only [Cv, C8, Cu, Cb, Bu, Cf, h23, if_true, if_false, zaa]; done) | (simp only [Cv, C8, Cu, Cb, Bu, Cf, h23, if_true, if_false, zaa]; rfl)
 rw [e27]
 exact hj17 x25 (Ao z15t4 p.fUser)  _ lx25 (by first | omega | (simp only [Al, Ak, As, zac]; omega)) (s26.sel (.cons (.here) (.cons C6 .nil)))
 refine Ax h23 ?_
 have e28 : Bu p (Cb p z15t4) = Bu p z15t4 := by
  first | rfl | (simp only [Cv, C8, Cu, Cb, Bu, Cf, h23, if_true, if_false, zaa]; done) | (simp only [Cv, C8, Cu, Cb, Bu, Cf, h23, if_true, if_false, zaa]; rfl)
 rw [e28]
 exact hj17 x15 z15t4  _ lx15 (by first | omega | (simp only [Al, Ak, As, zac]; omega)) (s16.sel (.cons (.here) (.cons (.here) .nil)))
 refine Aa (p.fHasWill) (fun h29 => ?_) (fun h29 => ?_)
 refine Au h29 (Ab (o' := 12) rfl (Aq (c := ss p.fWTopic) s14 Ls rfl (Ab (o' := 13) rfl (Aq (c := Ai p.fWBody) s14 Ls rfl ?_))))
 have z30 := C3 (Ao (Ap z8t4 p.fKeep) p.fClient) p.fWTopic
 refine Cl s14 rfl (.cons (.own (by decide) (.here)) (.cons .sc .nil)) (Kd n (by omega) (Ao (Ap z8t4 p.fKeep) p.fClient) p.fWTopic (by first | omega | (simp only [Al, Ak, As, zac]; omega)) hp.t3) (Df (Ao (Ao (Ap z8t4 p.fKeep) p.fClient) p.fWTopic)) fun x31 H lx31 s32 => ?_
 have z33 := Hv (Ao (Ao (Ap z8t4 p.fKeep) p.fClient) p.fWTopic) p.fWBody
 refine Cl s32 rfl (.cons (.own (by decide) (.here)) (.cons .ro .nil)) (AaC n (by omega) (Ao (Ao (Ap z8t4 p.fKeep) p.fClient) p.fWTopic) p.fWBody (by first | omega | (simp only [Al, Ak, As, zac]; omega)) hb1) (Df (Dc (Ao (Ao (Ap z8t4 p.fKeep) p.fClient) p.fWTopic) p.fWBody)) fun x34 H lx34 s35 => ?_
 have e36 : Bu p (Cb p (Cu p (Ao (Ap z8t4 p.fKeep) p.fClient))) = Bu p (Cb p (Dc (Ao (Ao (Ap z8t4 p.fKeep) p.fClient) p.fWTopic) p.fWBody)) := by
  first | rfl | (simp only [Cv, C8, Cu, Cb, Bu, Cf, h29, if_true, if_false, zaa]; done) | (simp only [Cv, C8, Cu, Cb, Bu, Cf, h29, if_true, if_false, zaa]; rfl)
 rw [e36]
 exact hj15 x34 (Dc (Ao (Ao (Ap z8t4 p.fKeep) p.fClient) p.fWTopic) p.fWBody)  _ lx34 (by first | omega | (simp only [Al, Ak, As, zac]; omega)) (s35.sel (.cons (.here) (.cons Lt .nil)))
 refine Ax h29 ?_
 have e37 : Bu p (Cb p (Cu p (Ao (Ap z8t4 p.fKeep) p.fClient))) = Bu p (Cb p (Ao (Ap z8t4 p.fKeep) p.fClient)) := by
  first | rfl | (simp only [Cv, C8, Cu, Cb, Bu, Cf, h29, if_true, if_false, zaa]; done) | (simp only [Cv, C8, Cu, Cb, Bu, Cf, h29, if_true, if_false, zaa]; rfl)
 rw [e37]
 exact hj15 x13 (Ao (Ap z8t4 p.fKeep) p.fClient)  _ lx13 (by first | omega | (simp only [Al, Ak, As, zac]; omega)) (s14.sel (.cons (.here) (.cons Do .nil)))
 refine Gd.bothE ?_ ?_
 have z38 := C3 bs0 mqtt
 simp only [Al, Ak, As, zac] at z38
 refine Cl s2 rfl (.cons .nl (.cons .sc .nil)) (Kd n (by omega) bs0 mqtt (by first | omega | (simp only [Al, Ak, As, zac]; omega)) (by decide)) (Df (Ao bs0 mqtt)) fun x39 H lx39 s40 => Bh (cs := [.sc (.int .u8 (p.fLevel % 256)), .sc (.int .u8 (((((((Bc p.fClean 2) + (Bc p.fHasWill 4)) + (8 * p.fWQos)) + (Bc p.fWRetain 32)) + (Bc p.fHasPass 64)) + (Bc p.fHasUser 128)) % 256))]) rfl (Ct s40 fun i41 H s42 => R8 (s := (Ao bs0 mqtt)) (z := (p.fLevel % 256)) (w := (((((((Bc p.fClean 2) + (Bc p.fHasWill 4)) + (8 * p.fWQos)) + (Bc p.fWRetain 32)) + (Bc p.fHasPass 64)) + (Bc p.fHasUser 128)) % 256)) s42 C6 (.here) ⟨_, _, rfl, rfl, rfl, rfl⟩ (by first | omega | (simp only [Al, As]; omega)) fun x43 H lx43 s44 => ?_)
 have e45 : Cv p = Bu p (Cb p (Cu p (Ao (Ap (Bb (Bb (Ao bs0 mqtt) (p.fLevel % 256)) (((((((Bc p.fClean 2) + (Bc p.fHasWill 4)) + (8 * p.fWQos)) + (Bc p.fWRetain 32)) + (Bc p.fHasPass 64)) + (Bc p.fHasUser 128)) % 256)) p.fKeep) p.fClient))) := by
  first | rfl | (simp only [Cv, C8, Cu, Cb, Bu, Cf, if_true, if_false, zaa]; done) | (simp only [Cv, C8, Cu, Cb, Bu, Cf, if_true, if_false, zaa]; rfl)
 rw [e45]
 exact hj8 x43 (Bb (Bb (Ao bs0 mqtt) (p.fLevel % 256)) (((((((Bc p.fClean 2) + (Bc p.fHasWill 4)) + (8 * p.fWQos)) + (Bc p.fWRetain 32)) + (Bc p.fHasPass 64)) + (Bc p.fHasUser 128)) % 256))  _ lx43 (by first | omega | (simp only [Al, Ak, As, zac]; omega)) (s44.sel (.cons (.here) (.cons (.here) .nil)))
 refine Bh (cs := [su (p.fLevel % 256), .sc (.int .u8 (((((((Bc p.fClean 2) + (Bc p.fHasWill 4)) + (8 * p.fWQos)) + (Bc p.fWRetain 32)) + (Bc p.fHasPass 64)) + (Bc p.fHasUser 128)) % 256))]) rfl (Ct s2 fun i46 H s47 => ?_)
 have z48 := C3 bs0 mqtt
 simp only [Al, Ak, As, zac] at z48
 refine Cl s47 rfl (.cons .nl (.cons .sc .nil)) (Kd n (by omega) bs0 mqtt (by first | omega | (simp only [Al, Ak, As, zac]; omega)) (by decide)) (Df (Ao bs0 mqtt)) fun x49 H lx49 s50 => R8 (s := (Ao bs0 mqtt)) (z := (p.fLevel % 256)) (w := (((((((Bc p.fClean 2) + (Bc p.fHasWill 4)) + (8 * p.fWQos)) + (Bc p.fWRetain 32)) + (Bc p.fHasPass 64)) + (Bc p.fHasUser 128)) % 256)) s50 (.here) (.here) ⟨_, _, rfl, rfl, rfl, rfl⟩ (by first | omega | (simp only [Al, As]; omega)) fun x51 H lx51 s52 => ?_
 have e53 : Cv p = Bu p (Cb p (Cu p (Ao (Ap (Bb (Bb (Ao bs0 mqtt) (p.fLevel % 256)) (((((((Bc p.fClean 2) + (Bc p.fHasWill 4)) + (8 * p.fWQos)) + (Bc p.fWRetain 32)) + (Bc p.fHasPass 64)) + (Bc p.fHasUser 128)) % 256)) p.fKeep) p.fClient))) := by
  first | rfl | (simp only [Cv, C8, Cu, Cb, Bu, Cf, if_true, if_false, zaa]; done) | (simp only [Cv, C8, Cu, Cb, Bu, Cf, if_true, if_false, zaa]; rfl)
 rw [e53]
 exact hj8 x51 (Bb (Bb (Ao bs0 mqtt) (p.fLevel % 256)) (((((((Bc p.fClean 2) + (Bc p.fHasWill 4)) + (8 * p.fWQos)) + (Bc p.fWRetain 32)) + (Bc p.fHasPass 64)) + (Bc p.fHasUser 128)) % 256))  _ lx51 (by first | omega | (simp only [Al, Ak, As, zac]; omega)) (s52.sel (.cons (.here) (.cons (.here) .nil)))
theorem Zu (n : Nat) (hn : 1048576 < n) (p : PacketV) (ht : 1 ≤ p.fType ∧ p.fType ≤ 14) (hq : 0 ≤ p.fQos ∧ p.fQos ≤ 2) : Di E0 (n + 3) 3 113 [.agg (A0 p)] = some (.sc (.int .i64 (Da p))) := by
 rw [Be, AeX, f113]
 refine C7 (G := (· = some (si (Da p)))) ?_
 try simp only [Fx, Bx, A9, A5, Aw]
 have s0 : Sep [] [] := C1
 refine Lg s0 (F4 (Dg _)) fun i1 H s2 => Ab (o' := 0) rfl (Aq (c := si p.fType) s2 (.here) rfl (Px (by omega) (by omega) (Ab (o' := 0) rfl (Aq (c := si p.fType) s2 (.here) rfl (Bd (Aa ((decide (p.fType = 3))) (fun h3 => ?_) (fun h3 => ?_)))))))
 refine Au h3 (Ab (o' := 1) rfl (Aq (c := sb p.fDup) s2 (.here) rfl (Ab (o' := 2) rfl (Aq (c := si p.fQos) s2 (.here) rfl (Px (by omega) (by omega) (Ab (o' := 3) rfl (Aq (c := sb p.fRetain) s2 (.here) rfl ?_)))))))
 have q4 := Gs p.fDup 8 (by decide)
 refine Ar (v := (.int .i64 (Bc p.fDup 8))) s2 rfl (H5 .nil) (W5 (n + 1) p.fDup 8) (Ca (by omega) (by omega) ?_)
 have q5 := Gs p.fRetain 1 (by decide)
 refine Ar (v := (.int .i64 (Bc p.fRetain 1))) s2 rfl (H5 .nil) (W5 (n + 1) p.fRetain 1) (Ca (by omega) (by omega) (Ca (by omega) (by omega) (Ah rfl ?_)))
 have e : Da p = ((16 * p.fType) + (((Bc p.fDup 8) + (2 * p.fQos)) + (Bc p.fRetain 1))) := by
  clear s0 s2
  simp only [Cs] at h3
  unfold Da; (repeat' split) <;> omega
 ·rw [e]
  first | done | rfl
 refine Ax h3 (Bd (Dn (Aa ((decide (p.fType = 6))) (fun h6 => ?_) (fun h6 => ?_))))
 refine Au h6 (Au h6 (Ca (by omega) (by omega) (Ah rfl ?_)))
 have e : Da p = ((16 * p.fType) + 2) := by
  clear s0 s2
  simp only [Cs] at h3 h6
  unfold Da; (repeat' split) <;> omega
 ·rw [e]
  first | done | rfl
 refine Ax h6 (Bd (Aa ((decide (p.fType = 8))) (fun h7 => ?_) (fun h7 => ?_)))
 refine Au h7 (Au h7 (Ca (by omega) (by omega) (Ah rfl ?_)))
 have e : Da p = ((16 * p.fType) + 2) := by
  clear s0 s2
  simp only [Cs] at h3 h6 h7
  unfold Da; (repeat' split) <;> omega
 ·rw [e]
  first | done | rfl
 refine Ax h7 (Bd (Aa ((decide (p.fType = 10))) (fun h8 => ?_) (fun h8 => ?_)))
 refine Au h8 (Ca (by omega) (by omega) (Ah rfl ?_))
 have e : Da p = ((16 * p.fType) + 2) := by
  clear s0 s2
  simp only [Cs] at h3 h6 h7 h8
  unfold Da; (repeat' split) <;> omega
 ·rw [e]
  first | done | rfl
 refine Ax h8 (Ah rfl ?_)
 have e : Da p = (16 * p.fType) := by
  clear s0 s2
  simp only [Cs] at h3 h6 h7 h8
  unfold Da; (repeat' split) <;> omega
 ·rw [e]
  first | done | rfl
theorem S7 (n : Nat) (hn : 1048576 < n) (p : PacketV) (hp : Gx p) (hb1 : p.fWBody.size ≤ 1048576) (hb2 : p.fPass.size ≤ 1048576) (hb3 : p.fBody.size ≤ 1048576) (hq : 0 ≤ p.fWQos ∧ p.fWQos ≤ 2) (h3 : (decide (p.fType = 1)) = false) (h6 : (decide (p.fType = 2)) = false) (h11 : (decide (p.fType = 3)) = false) (h26 : (decide (p.fType = 12)) = false) (h28 : (decide (p.fType = 13)) = false) (h30 : (decide (p.fType = 14)) = false)  : ∀ (t pre : List ByteArray) (m : Nat) (i : Int) (a0 : AV) (H : Ae), p.fNames = pre ++ t → i = ((pre.length : Nat) : Int) → t.length < m → Bn a0 = true → Sep H [.own a0 22 (Ai (Fd (Dy (Bo (Ap bs0 p.fId) p.fWants) p.fCodes) pre))] → Gd (· = some (Ai (Cw p))) (Mn (PR (n + 7) AV) (n + 7) (fun x H => Bm A4 E0.tp 22 H x) m (a0) (E3 p.fNames) (.sc (.int .i64 ((p.fNames.length : Nat) : Int))) (.sc (.int .i64 i)) H)
 | [], pre, m + 1, i, a0, H, he, hi, hm, la0, s0 => by
  obtain rfl : pre = p.fNames := by simpa using he.symm
  have hl1 := hp.l1
  have hl2 := hp.l2
  have hl3 := hp.l3
  have zl1 := Ev p.fWants (Ap bs0 p.fId)
  have zl2 := Eu p.fCodes (Bo (Ap bs0 p.fId) p.fWants)
  have zl0 := Kq p.fNames (Dy (Bo (Ap bs0 p.fId) p.fWants) p.fCodes)
  simp only [Ak, As] at zl1
  rw [Mn]
  try simp only [A9, A5, Aw, Bw]
  refine D4 (Ax (by simp [hi]) (Ah (Ds s0 (.here)) ?_))
  have e : Cw p = (Fd (Dy (Bo (Ap bs0 p.fId) p.fWants) p.fCodes) p.fNames) := by
   simp only [Cs] at h3 h6 h11 h26 h28 h30
   first | rfl | (simp only [Cw, Et, Dh, h3, h6, h11, h26, h28, h30, if_true, if_false, zaa]; done) | (simp only [Cw, Et, Dh, h3, h6, h11, h26, h28, h30, if_true, if_false, zaa]; rfl) | (simp [Cw, Et, Dh, h3, h6, h11, h26, h28, h30]; done)
  ·rw [e]
   first | done | rfl
 | y :: t, pre, m + 1, i, a0, H, he, hi, hm, la0, s0 => by
  have hlt : pre.length < p.fNames.length := by rw [he]; simp
  have hl1 := hp.l1
  have hl2 := hp.l2
  have hl3 := hp.l3
  have zl1 := Ev p.fWants (Ap bs0 p.fId)
  have zl2 := Eu p.fCodes (Bo (Ap bs0 p.fId) p.fWants)
  have zl0 := Kq pre (Dy (Bo (Ap bs0 p.fId) p.fWants) p.fCodes)
  simp only [Ak, As] at zl1
  rw [Mn]
  try simp only [A9, A5, Aw, Bw]
  refine D4 (Au (by simp [hi]; omega) (Md hi he (Fc (c := .sc (.string y)) rfl ?_)))
  have z201 := C3 (Fd (Dy (Bo (Ap bs0 p.fId) p.fWants) p.fCodes) pre) y
  refine Cl s0 rfl (.cons (.own (by decide) (.here)) (.cons .sc .nil)) (Kd (n + 1) (by omega) (Fd (Dy (Bo (Ap bs0 p.fId) p.fWants) p.fCodes) pre) y (by first | omega | (simp only [Al, Ak, As, zac]; omega)) (hp.w2 y (by rw [he]; simp))) (Df (Ao (Fd (Dy (Bo (Ap bs0 p.fId) p.fWants) p.fCodes) pre) y)) fun x202 H lx202 s203 => Ca (by omega) (by omega) ?_
  have e204 : (Fd (Dy (Bo (Ap bs0 p.fId) p.fWants) p.fCodes) (pre ++ [y])) = (Ao (Fd (Dy (Bo (Ap bs0 p.fId) p.fWants) p.fCodes) pre) y) := by
   try simp only [bne_iff_ne, beq_iff_eq, beq_eq_false_iff_ne, Cs] at h3 h6 h11 h26 h28 h30
   simp only [Fd, zbg, zbd, zbu, h3, h6, h11, h26, h28, h30, if_true, if_false, zaa]
   first | done | rfl
  exact S7 n hn p hp hb1 hb2 hb3 hq h3 h6 h11 h26 h28 h30  t (pre ++ [y]) m _ x202 _ (by rw [he]; simp) (by rw [hi]; simp) (by simpa using hm) lx202 (by rw [e204]; exact (s203.sel (.cons (.here) .nil)))
theorem S6 (n : Nat) (hn : 1048576 < n) (p : PacketV) (hp : Gx p) (hb1 : p.fWBody.size ≤ 1048576) (hb2 : p.fPass.size ≤ 1048576) (hb3 : p.fBody.size ≤ 1048576) (hq : 0 ≤ p.fWQos ∧ p.fWQos ≤ 2) (h3 : (decide (p.fType = 1)) = false) (h6 : (decide (p.fType = 2)) = false) (h11 : (decide (p.fType = 3)) = false) (h26 : (decide (p.fType = 12)) = false) (h28 : (decide (p.fType = 13)) = false) (h30 : (decide (p.fType = 14)) = false)  : ∀ (t pre : List Int) (m : Nat) (i : Int) (i1 : Nat) (a1 : AV) (H : Ae), p.fCodes = pre ++ t → i = ((pre.length : Nat) : Int) → t.length < m → Bn a1 = true → Sep H [.own a1 22 (Ai (Dy (Bo (Ap bs0 p.fId) p.fWants) pre)), .blk i1 (A0 p) true] → Gd (· = some (Ai (Cw p))) (Kb (PR (n + 7) AV) (n + 7) (fun x H => Bm A4 E0.tp 22 H x) m (.ptr i1 0) (a1) (E1 p.fCodes) (.sc (.int .i64 ((p.fCodes.length : Nat) : Int))) (.sc (.int .i64 i)) H)
 | [], pre, m + 1, i, i1, a1, H, he, hi, hm, la1, s0 => by
  obtain rfl : pre = p.fCodes := by simpa using he.symm
  have hl1 := hp.l1
  have hl2 := hp.l2
  have hl3 := hp.l3
  have zl1 := Ev p.fWants (Ap bs0 p.fId)
  have zl2 := Eu p.fCodes (Bo (Ap bs0 p.fId) p.fWants)
  have zl0 := Eu p.fCodes (Bo (Ap bs0 p.fId) p.fWants)
  simp only [Ak, As] at zl1
  rw [Kb]
  try simp only [Cz, Bx, A9, A5, Aw, B3, Bw, C2, D3, Dm]
  refine D4 (Ax (by simp [hi]) (Ab (o' := 23) rfl (Aq (c := E3 p.fNames) s0 C6 rfl (C4 ?_))))
  have s201 : Sep _ [.own a1 22 (Ai (Fd (Dy (Bo (Ap bs0 p.fId) p.fWants) p.fCodes) []))] := s0.sel (.cons (.here) .nil)
  exact S7 n hn p hp hb1 hb2 hb3 hq h3 h6 h11 h26 h28 h30  p.fNames [] _ 0 a1 _ rfl rfl (by omega) la1 s201
 | y :: t, pre, m + 1, i, i1, a1, H, he, hi, hm, la1, s0 => by
  have hlt : pre.length < p.fCodes.length := by rw [he]; simp
  have hl1 := hp.l1
  have hl2 := hp.l2
  have hl3 := hp.l3
  have zl1 := Ev p.fWants (Ap bs0 p.fId)
  have zl2 := Eu p.fCodes (Bo (Ap bs0 p.fId) p.fWants)
  have zl0 := Eu pre (Bo (Ap bs0 p.fId) p.fWants)
  simp only [Ak, As] at zl1
  rw [Kb]
  try simp only [Cz, Bx, A9, A5, Aw, B3, Bw, C2, D3, Dm]
  refine D4 (Au (by simp [hi]; omega) (Jf hi he (Fc (c := .sc (.int .i64 y)) rfl (Fu (IntKind.wrap_u8 _) (Bh (cs := [.sc (.int .u8 (y % 256))]) rfl (Ct s0 fun i201 H s202 => Fa (s := (Dy (Bo (Ap bs0 p.fId) p.fWants) pre)) (z := (y % 256)) s202 C6 (.here) ⟨_, _, rfl, rfl, rfl, rfl⟩ rfl (by first | omega | (simp only [Al, As]; omega)) fun x203 H lx203 s204 => Ca (by omega) (by omega) ?_))))))
  have e205 : (Dy (Bo (Ap bs0 p.fId) p.fWants) (pre ++ [y])) = (Bb (Dy (Bo (Ap bs0 p.fId) p.fWants) pre) (y % 256)) := by
   try simp only [bne_iff_ne, beq_iff_eq, beq_eq_false_iff_ne, Cs] at h3 h6 h11 h26 h28 h30
   simp only [Dy, zbg, zbd, zbu, h3, h6, h11, h26, h28, h30, if_true, if_false, zaa]
   first | done | rfl
  exact S6 n hn p hp hb1 hb2 hb3 hq h3 h6 h11 h26 h28 h30  t (pre ++ [y]) m _ i1 x203 _ (by rw [he]; simp) (by rw [hi]; simp) (by simpa using hm) lx203 (by rw [e205]; exact (s204.sel (.cons (.here) (.cons (.here) .nil))))
theorem Pa (n : Nat) (hn : 1048576 < n) (p : PacketV) (hp : Gx p) (hb1 : p.fWBody.size ≤ 1048576) (hb2 : p.fPass.size ≤ 1048576) (hb3 : p.fBody.size ≤ 1048576) (hq : 0 ≤ p.fWQos ∧ p.fWQos ≤ 2) (h3 : (decide (p.fType = 1)) = false) (h6 : (decide (p.fType = 2)) = false) (h11 : (decide (p.fType = 3)) = false) (h26 : (decide (p.fType = 12)) = false) (h28 : (decide (p.fType = 13)) = false) (h30 : (decide (p.fType = 14)) = false)  : ∀ (t pre : List WantV) (m : Nat) (i : Int) (i1 : Nat) (a1 : AV) (H : Ae), p.fWants = pre ++ t → i = ((pre.length : Nat) : Int) → t.length < m → Bn a1 = true → Sep H [.own a1 22 (Ai (Bo (Ap bs0 p.fId) pre)), .blk i1 (A0 p) true] → Gd (· = some (Ai (Cw p))) (Ka (PR (n + 7) AV) (n + 7) (fun x H => Bm A4 E0.tp 22 H x) m (.ptr i1 0) (a1) (Dk Cj p.fWants) (.sc (.int .i64 ((p.fWants.length : Nat) : Int))) (.sc (.int .i64 i)) H)
 | [], pre, m + 1, i, i1, a1, H, he, hi, hm, la1, s0 => by
  obtain rfl : pre = p.fWants := by simpa using he.symm
  have hl1 := hp.l1
  have hl2 := hp.l2
  have hl3 := hp.l3
  have zl1 := Ev p.fWants (Ap bs0 p.fId)
  have zl2 := Eu p.fCodes (Bo (Ap bs0 p.fId) p.fWants)
  have zl0 := Ev p.fWants (Ap bs0 p.fId)
  simp only [Ak, As] at zl1
  simp only [Ak, As] at zl0
  rw [Ka]
  try simp only [Fk, Cz, Bx, A9, Dz, A5, Aw, B3, Bw, C2, D3, Dm]
  refine D4 (Ax (by simp [hi]) (Ab (o' := 24) rfl (Aq (c := E1 p.fCodes) s0 C6 rfl (C4 ?_))))
  have s201 : Sep _ [.own a1 22 (Ai (Dy (Bo (Ap bs0 p.fId) p.fWants) [])), .blk i1 (A0 p) true] := s0.sel (.cons (.here) (.cons (.here) .nil))
  exact S6 n hn p hp hb1 hb2 hb3 hq h3 h6 h11 h26 h28 h30  p.fCodes [] _ 0 i1 a1 _ rfl rfl (by omega) la1 s201
 | y :: t, pre, m + 1, i, i1, a1, H, he, hi, hm, la1, s0 => by
  have hlt : pre.length < p.fWants.length := by rw [he]; simp
  have hl1 := hp.l1
  have hl2 := hp.l2
  have hl3 := hp.l3
  have zl1 := Ev p.fWants (Ap bs0 p.fId)
  have zl2 := Eu p.fCodes (Bo (Ap bs0 p.fId) p.fWants)
  have zl0 := Ev pre (Ap bs0 p.fId)
  simp only [Ak, As] at zl1
  simp only [Ak, As] at zl0
  rw [Ka]
  try simp only [Fk, Cz, Bx, A9, Dz, A5, Aw, B3, Bw, C2, D3, Dm]
  refine D4 (Au (by simp [hi]; omega) (Lm hi G1 (by decide) he (AgK (G1 _) (Hw s0 fun i201 H s202 => Cm (cs' := Cj y) s202 (.here) (F4 (Ad9 _)) rfl (Cr rfl) rfl fun H s203 => Ab (o' := 0) rfl (Aq (c := .sc (.string y.fFilter)) s203 (.here) rfl (Ab (o' := 1) rfl (Aq (c := .sc (.int .i64 y.fQos)) s203 (.here) rfl (Fu (IntKind.wrap_u8 _) (Dn (Gd.bothE ?_ ?_))))))))))
  have z204 := C3 (Bo (Ap bs0 p.fId) pre) y.fFilter
  refine Cl s203 rfl (.cons (.own (by decide) C6) (.cons .sc .nil)) (Kd (n + 1) (by omega) (Bo (Ap bs0 p.fId) pre) y.fFilter (by first | omega | (simp only [Al, Ak, As, zac]; omega)) (hp.w1 y (by rw [he]; simp))) (Df (Ao (Bo (Ap bs0 p.fId) pre) y.fFilter)) fun x205 H lx205 s206 => Bh (cs := [.sc (.int .u8 (y.fQos % 256))]) rfl (Ct s206 fun i207 H s208 => Fa (s := (Ao (Bo (Ap bs0 p.fId) pre) y.fFilter)) (z := (y.fQos % 256)) s208 C6 (.here) ⟨_, _, rfl, rfl, rfl, rfl⟩ rfl (by first | omega | (simp only [Al, As]; omega)) fun x209 H lx209 s210 => Ca (by omega) (by omega) ?_)
  have e211 : (Bo (Ap bs0 p.fId) (pre ++ [y])) = (Bb (Ao (Bo (Ap bs0 p.fId) pre) y.fFilter) (y.fQos % 256)) := by
   try simp only [bne_iff_ne, beq_iff_eq, beq_eq_false_iff_ne, Cs] at h3 h6 h11 h26 h28 h30
   simp only [Bo, zbg, zbd, zbu, h3, h6, h11, h26, h28, h30, if_true, if_false, zaa]
   first | done | rfl
  exact Pa n hn p hp hb1 hb2 hb3 hq h3 h6 h11 h26 h28 h30  t (pre ++ [y]) m _ i1 x209 _ (by rw [he]; simp) (by rw [hi]; simp) (by simpa using hm) lx209 (by rw [e211]; exact (s210.sel (.cons (.here) (.cons Do .nil))))
  refine Bh (cs := [su (y.fQos % 256)]) rfl (Ct s203 fun i212 H s213 => ?_)
  have z214 := C3 (Bo (Ap bs0 p.fId) pre) y.fFilter
  refine Cl s213 rfl (.cons (.own (by decide) Do) (.cons .sc .nil)) (Kd (n + 1) (by omega) (Bo (Ap bs0 p.fId) pre) y.fFilter (by first | omega | (simp only [Al, Ak, As, zac]; omega)) (hp.w1 y (by rw [he]; simp))) (Df (Ao (Bo (Ap bs0 p.fId) pre) y.fFilter)) fun x215 H lx215 s216 => Fa (s := (Ao (Bo (Ap bs0 p.fId) pre) y.fFilter)) (z := (y.fQos % 256)) s216 (.here) (.here) ⟨_, _, rfl, rfl, rfl, rfl⟩ rfl (by first | omega | (simp only [Al, As]; omega)) fun x217 H lx217 s218 => Ca (by omega) (by omega) ?_
  have e219 : (Bo (Ap bs0 p.fId) (pre ++ [y])) = (Bb (Ao (Bo (Ap bs0 p.fId) pre) y.fFilter) (y.fQos % 256)) := by
   try simp only [bne_iff_ne, beq_iff_eq, beq_eq_false_iff_ne, Cs] at h3 h6 h11 h26 h28 h30
   simp only [Bo, zbg, zbd, zbu, h3, h6, h11, h26, h28, h30, if_true, if_false, zaa]
   first | done | rfl
  exact Pa n hn p hp hb1 hb2 hb3 hq h3 h6 h11 h26 h28 h30  t (pre ++ [y]) m _ i1 x217 _ (by rw [he]; simp) (by rw [hi]; simp) (by simpa using hm) lx217 (by rw [e219]; exact (s218.sel (.cons (.here) (.cons Do .nil))))
theorem Af6 (n : Nat) (hn : 1048576 < n) (p : PacketV) (hp : Gx p) (hb1 : p.fWBody.size ≤ 1048576) (hb2 : p.fPass.size ≤ 1048576) (hb3 : p.fBody.size ≤ 1048576) (hq : 0 ≤ p.fWQos ∧ p.fWQos ≤ 2) : Di E0 (n + 8) 22 111 [.agg (A0 p)] = some (Ai (Cw p)) := by
 rw [Be, AeV, f111]
 refine C7 (G := (· = some (Ai (Cw p)))) ?_
 have hl1 := hp.l1
 have hl2 := hp.l2
 have hl3 := hp.l3
 try simp only [Fx, Cz, Bx, A9, A5, Aw, B3, C2, Dm]
 have s0 : Sep [] [] := C1
 refine Lg s0 (F4 (Dg _)) fun i1 H s2 => Ab (o' := 0) rfl (Aq (c := si p.fType) s2 (.here) rfl (Bd (Dn (Aa ((decide (p.fType = 1))) (fun h3 => ?_) (fun h3 => ?_)))))
 refine Au h3 (Av s2 (.here) rfl (Cl s2 rfl (.aggF (Dg _) .nil) (Y3 n (by omega) p hp hb1 hb2 hq) (Df (Cv p)) fun x4 H lx4 s5 => Ah (Ds s5 (.here)) ?_))
 have e : Cw p = (Cv p) := by
  simp only [Cs] at h3
  first | rfl | (simp only [Cw, Et, Dh, h3, if_true, if_false, zaa]; done) | (simp only [Cw, Et, Dh, h3, if_true, if_false, zaa]; rfl) | (simp [Cw, Et, Dh, h3]; done)
 ·rw [e]
  first | done | rfl
 refine Ax h3 (Bd (Aa ((decide (p.fType = 2))) (fun h6 => ?_) (fun h6 => ?_)))
 refine Au h6 (Ab (o' := 21) rfl (Aq (c := sb p.fPresent) s2 (.here) rfl (Ab (o' := 20) rfl (Aq (c := si p.fCode) s2 (.here) rfl (Fu (IntKind.wrap_u8 _) ?_)))))
 have q7 := Gs p.fPresent 1 (by decide)
 refine Ar (v := (.int .i64 (Bc p.fPresent 1))) s2 rfl (H5 .nil) (W5 (n + 6) p.fPresent 1) (Fu (IntKind.wrap_u8 _) (Bh (cs := [su ((Bc p.fPresent 1) % 256), su (p.fCode % 256)]) rfl (Ct s2 fun i8 H s9 => ?_)))
 have s10 := s9.closeB2 (.here) (by omega)
 refine Ah (Ds s10 (.here)) ?_
 have e : Cw p = (Bb (Bb bs0 ((Bc p.fPresent 1) % 256)) (p.fCode % 256)) := by
  simp only [Cs] at h3 h6
  first | rfl | (simp only [Cw, Et, Dh, h3, h6, if_true, if_false, zaa]; done) | (simp only [Cw, Et, Dh, h3, h6, if_true, if_false, zaa]; rfl) | (simp [Cw, Et, Dh, h3, h6]; done)
 ·rw [e]
  first | done | rfl
 refine Ax h6 (Bd (Aa ((decide (p.fType = 3))) (fun h11 => ?_) (fun h11 => ?_)))
 refine Au h11 (Ab (o' := 5) rfl (Aq (c := ss p.fTopic) s2 (.here) rfl ?_))
 have z12 := C3 bs0 p.fTopic
 simp only [Al, Ak, As, zac] at z12
 refine Cl s2 rfl (.cons .nl (.cons .sc .nil)) (Kd (n + 1) (by omega) bs0 p.fTopic (by first | omega | (simp only [Al, Ak, As, zac]; omega)) hp.t1) (Df (Ao bs0 p.fTopic)) fun x13 H lx13 s14 => Ab (o' := 2) rfl (Aq (c := .sc (.int .i64 p.fQos)) s14 C6 rfl (Eo (Dn (Aa ((decide (0 < p.fQos))) (fun h15 => ?_) (fun h15 => ?_)))))
 refine Au h15 (Ab (o' := 4) rfl (Aq (c := .sc (.int .i64 p.fId)) s14 C6 rfl (Cl s14 rfl (.cons (.own (by decide) (.here)) (.cons .sc .nil)) (Py (n + 2) (by omega) (Ao bs0 p.fTopic) p.fId (by first | omega | (simp only [Al, Ak, As, zac]; omega))) (Df (Ap (Ao bs0 p.fTopic) p.fId)) fun x16 H lx16 s17 => Ab (o' := 6) rfl (Aq (c := Ai p.fBody) s17 Do rfl (Bh (cs := [x16, Ai p.fBody]) (Js (z' := [x16, .nl]) (Ef lx16) rfl (Cr rfl) rfl (Js (z' := [x16, Ai p.fBody]) (Ef rfl) rfl (Cr rfl) rfl (rfl))) (Ct s17 fun i18 H s19 => Cl s19 rfl (.sl (.here) rfl (.cons (.own (by decide) C6) (.cons .ro .nil)) .nil) (L6 (n + 3) (by omega) (Ap (Ao bs0 p.fTopic) p.fId) p.fBody (by first | omega | (simp only [Al, Ak, As, zac]; omega))) (Df ((Ap (Ao bs0 p.fTopic) p.fId) ++ p.fBody)) fun x20 H lx20 s21 => Ah (Ds s21 (.here)) ?_))))))
 have e : Cw p = ((Ap (Ao bs0 p.fTopic) p.fId) ++ p.fBody) := by
  simp only [Cs] at h3 h6 h11 h15
  first | rfl | (simp only [Cw, Et, Dh, h3, h6, h11, h15, if_true, if_false, zaa]; done) | (simp only [Cw, Et, Dh, h3, h6, h11, h15, if_true, if_false, zaa]; rfl) | (simp [Cw, Et, Dh, h3, h6, h11, h15]; done)
 ·rw [e]
  first | done | rfl
 refine Ax h15 (Ab (o' := 6) rfl (Aq (c := Ai p.fBody) s14 C6 rfl (Bh (cs := [x13, Ai p.fBody]) (Js (z' := [x13, .nl]) (Ef lx13) rfl (Cr rfl) rfl (Js (z' := [x13, Ai p.fBody]) (Ef rfl) rfl (Cr rfl) rfl (rfl))) (Ct s14 fun i22 H s23 => Cl s23 rfl (.sl (.here) rfl (.cons (.own (by decide) C6) (.cons .ro .nil)) .nil) (L6 (n + 3) (by omega) (Ao bs0 p.fTopic) p.fBody (by first | omega | (simp only [Al, Ak, As, zac]; omega))) (Df ((Ao bs0 p.fTopic) ++ p.fBody)) fun x24 H lx24 s25 => Ah (Ds s25 (.here)) ?_))))
 have e : Cw p = ((Ao bs0 p.fTopic) ++ p.fBody) := by
  simp only [Cs] at h3 h6 h11 h15
  first | rfl | (simp only [Cw, Et, Dh, h3, h6, h11, h15, if_true, if_false, zaa]; done) | (simp only [Cw, Et, Dh, h3, h6, h11, h15, if_true, if_false, zaa]; rfl) | (simp [Cw, Et, Dh, h3, h6, h11, h15]; done)
 ·rw [e]
  first | done | rfl
 refine Ax h11 (Bd (Dn (Aa ((decide (p.fType = 12))) (fun h26 => ?_) (fun h26 => ?_))))
 refine Au h26 (Au h26 ?_)
 have s27 := s2.nl (ty := 22) ⟨_, _, rfl, rfl⟩
 refine Ah (Ds s27 .here) ?_
 have e : Cw p = bs0 := by
  simp only [Cs] at h3 h6 h11 h26
  first | rfl | (simp only [Cw, Et, Dh, h3, h6, h11, h26, if_true, if_false, zaa]; done) | (simp only [Cw, Et, Dh, h3, h6, h11, h26, if_true, if_false, zaa]; rfl) | (simp [Cw, Et, Dh, h3, h6, h11, h26]; done)
 ·rw [e]
  first | done | rfl
 refine Ax h26 (Bd (Aa ((decide (p.fType = 13))) (fun h28 => ?_) (fun h28 => ?_)))
 refine Au h28 (Au h28 ?_)
 have s29 := s2.nl (ty := 22) ⟨_, _, rfl, rfl⟩
 refine Ah (Ds s29 .here) ?_
 have e : Cw p = bs0 := by
  simp only [Cs] at h3 h6 h11 h26 h28
  first | rfl | (simp only [Cw, Et, Dh, h3, h6, h11, h26, h28, if_true, if_false, zaa]; done) | (simp only [Cw, Et, Dh, h3, h6, h11, h26, h28, if_true, if_false, zaa]; rfl) | (simp [Cw, Et, Dh, h3, h6, h11, h26, h28]; done)
 ·rw [e]
  first | done | rfl
 refine Ax h28 (Bd (Aa ((decide (p.fType = 14))) (fun h30 => ?_) (fun h30 => ?_)))
 refine Au h30 ?_
 have s31 := s2.nl (ty := 22) ⟨_, _, rfl, rfl⟩
 refine Ah (Ds s31 .here) ?_
 have e : Cw p = bs0 := by
  simp only [Cs] at h3 h6 h11 h26 h28 h30
  first | rfl | (simp only [Cw, Et, Dh, h3, h6, h11, h26, h28, h30, if_true, if_false, zaa]; done) | (simp only [Cw, Et, Dh, h3, h6, h11, h26, h28, h30, if_true, if_false, zaa]; rfl) | (simp [Cw, Et, Dh, h3, h6, h11, h26, h28, h30]; done)
 ·rw [e]
  first | done | rfl
 refine Ax h30 (Ab (o' := 4) rfl (Aq (c := .sc (.int .i64 p.fId)) s2 (.here) rfl (Cl s2 rfl (.cons .nl (.cons .sc .nil)) (Py (n + 2) (by omega) bs0 p.fId (by first | omega | (simp only [Al, Ak, As, zac]; omega))) (Df (Ap bs0 p.fId)) fun x32 H lx32 s33 => Ab (o' := 22) rfl (Aq (c := Dk Cj p.fWants) s33 C6 rfl (C4 ?_)))))
 have s34 : Sep _ [.own x32 22 (Ai (Bo (Ap bs0 p.fId) [])), .blk i1 (A0 p) true] := s33.sel (.cons (.here) (.cons (.here) .nil))
 exact Pa n hn p hp hb1 hb2 hb3 hq h3 h6 h11 h26 h28 h30  p.fWants [] _ 0 i1 x32 _ rfl rfl (by omega) lx32 s34
theorem Aex (p : PacketV) (hp : Gx p) (hb3 : p.fBody.size ≤ 1048576) : (Cw p).size ≤ 137438953472 := by
 have hl1 := hp.l1
 have hl2 := hp.l2
 have hl3 := hp.l3
 have z1 := Ev p.fWants (Ap bs0 p.fId)
 have z2 := Eu p.fCodes (Bo (Ap bs0 p.fId) p.fWants)
 have z3 := Kq p.fNames (Dy (Bo (Ap bs0 p.fId) p.fWants) p.fCodes)
 have z4 := C3 bs0 p.fTopic
 have b1 : (Cv p).size ≤ 1000 := by
  have c3 : ∀ b, (Bu p b).size ≤ b.size + 62 := fun b => by
   unfold Bu
   split
   exact Hv _ _
   omega
  have c2 : ∀ b, (Cb p b).size ≤ b.size + 62 := fun b => by
   unfold Cb
   split
   exact C3 _ _
   omega
  have c1 : ∀ b, (Cu p b).size ≤ b.size + 124 := fun b => by
   unfold Cu
   split
   have d1 := Hv (Ao b p.fWTopic) p.fWBody
   have d2 := C3 b p.fWTopic
   omega
   omega
  have c0 : (C8 p).size ≤ 200 := by
   unfold C8
   have d1 := C3 (Ap (Bb (Bb (Ao bs0 mqtt) (p.fLevel % 256)) (Cf p % 256)) p.fKeep) p.fClient
   have d2 := C3 bs0 mqtt
   simp only [Ak, Al, As] at d1 d2
   omega
  have e1 := c1 (C8 p)
  have e2 := c2 (Cu p (C8 p))
  have e3 := c3 (Cb p (Cu p (C8 p)))
  unfold Cv
  omega
 unfold Cw Dh Et
 simp only [Ak, As] at z1 z2 z3 z4
 (repeat' split) <;> (try simp only [Al, As, zac, Ak]) <;> omega
theorem Xu (n : Nat) (hn : 1048576 < n) (p : PacketV) (hp : Gx p) (hb1 : p.fWBody.size ≤ 1048576) (hb2 : p.fPass.size ≤ 1048576) (hb3 : p.fBody.size ≤ 1048576) : Di E0 (n + 11) 22 72 [.agg (A0 p)] = some (Ai (Fe p)) := by
 rw [Be, Ah4, f72]
 refine C7 (G := (· = some (Ai (Fe p)))) ?_
 try simp only [Fx, Cz, A9, D8, Aw, B3, C2, Dm]
 have s0 : Sep [] [] := C1
 refine Lg s0 (F4 (Dg _)) fun i1 H s2 => Av s2 (.here) rfl (Ar (v := (.bool (Ag p))) s2 rfl (.aggF (Dg _) .nil) (Qt n (by omega) p hp) (C5 (Aa ((Ag p)) (fun h3 => ?_) (fun h3 => ?_))))
 refine Ax (nF h3) (Av s2 (.here) rfl ?_)
 have hf := Ij h3
 have hz := Aex p hp hb3
 refine Cl s2 rfl (.aggF (Dg _) .nil) (Af6 (n + 2) (by omega) p hp hb1 hb2 hb3 hf.wq) (Df (Cw p)) fun x4 H lx4 s5 => Av s5 C6 rfl (Ar (v := (.int .i64 (Da p))) s5 rfl (.aggF (Dg _) .nil) (Zu (n + 7) (by omega) p hf.ty hf.q) (Fu (IntKind.wrap_u8 _) (Bh (cs := [su ((Da p) % 256)]) rfl (Ct s5 fun i6 H s7 => Jb s7 C6 ?_))))
 have z8 := Uc (Bb bs0 ((Da p) % 256)) (((Cw p).size : Nat) : Int)
 simp only [Al, Ak, As, zac] at z8
 refine Cl s7 rfl (.sl (.here) rfl (.cons .sc .nil) (.cons .sc .nil)) (by rw [Acy ((Da p) % 256) (by omega)]; exact AfG (n + 4) (by omega) (Bb bs0 ((Da p) % 256)) (((Cw p).size : Nat) : Int) (by simp only [Al, As]; omega)) (Df (Dl (Bb bs0 ((Da p) % 256)) (((Cw p).size : Nat) : Int))) fun x9 H lx9 s10 => Bh (cs := [x9, x4]) (Js (z' := [x9, .nl]) (Ef lx9) rfl (Cr rfl) rfl (Js (z' := [x9, x4]) (Ef lx4) rfl (Cr rfl) rfl (rfl))) (Ct s10 fun i11 H s12 => Cl s12 rfl (.sl (.here) rfl (.cons (.own (by decide) C6) (.cons (.own (by decide) Ls) .nil)) .nil) (L6 (n + 6) (by omega) (Dl (Bb bs0 ((Da p) % 256)) (((Cw p).size : Nat) : Int)) (Cw p) (by first | omega | (simp only [Al, Ak, As, zac]; omega))) (Df ((Dl (Bb bs0 ((Da p) % 256)) (((Cw p).size : Nat) : Int)) ++ (Cw p))) fun x13 H lx13 s14 => Ah (Ds s14 (.here)) ?_)
 have e : Fe p = ((Dl (Bb bs0 ((Da p) % 256)) (((Cw p).size : Nat) : Int)) ++ (Cw p)) := by
  first | rfl | (simp only [Fe, Hi, h3, if_true, if_false, zaa]; done) | (simp only [Fe, Hi, h3, if_true, if_false, zaa]; rfl) | (simp [Fe, Hi, h3]; done)
 ·rw [e]
  first | done | rfl
 refine Au (nT h3) ?_
 have s15 := s2.nl (ty := 22) ⟨_, _, rfl, rfl⟩
 refine Ah (Ds s15 .here) ?_
 have e : Fe p = bs0 := by
  first | rfl | (simp only [Fe, Hi, h3, if_true, if_false, zaa]; done) | (simp only [Fe, Hi, h3, if_true, if_false, zaa]; rfl) | (simp [Fe, Hi, h3]; done)
 ·rw [e]
  first | done | rfl
def Ci (p : PacketV) (z : ByteArray) : ByteArray := Et p (if !(decide (p.fType = 3)) && decide (0 < p.fId) then Ap z p.fId else z)
def F3 (f : Int) (r : ByteArray) : ByteArray := Dl (Bb bs0 (f % 256)) ((r.size : Nat) : Int) ++ r
theorem Yo {p : PacketV} (h1 : p.fWants = []) (h2 : p.fCodes = []) (h3 : p.fNames = []) (z : ByteArray) : Et p z = z := by
 unfold Et
 rw [h1, h2, h3]
 rfl
theorem Wo {p : PacketV} (h : Ag p = true) {f : Int} {r : ByteArray} (hf : Da p = f) (hr : Cw p = r) : Fe p = F3 f r := by
 subst hf
 subst hr
 unfold Fe
 rw [if_pos h]
 rfl
theorem Aef {p : PacketV} (h : Ag p = true) (ht : p.fType = 1) : Fe p = F3 (16 * p.fType) (Ci p (Cv p)) := by
 obtain ⟨_, _, _, _, k5, k6, k7, k8⟩ := K0 h
 refine Wo h (by unfold Da; rw [if_neg (by omega), if_neg (by omega)]) ?_
 unfold Ci
 rw [k5 (by omega), if_neg (by simp), Yo (k6 (by omega)) (k7 (by omega)) (k8 (by omega))]
 unfold Cw
 rw [if_pos ht]
theorem Aig {p : PacketV} (h : Ag p = true) (ht : p.fType = 2) : Fe p = F3 (16 * p.fType) (Ci p (Bb (Bb bs0 (Bc p.fPresent 1 % 256)) (p.fCode % 256))) := by
 obtain ⟨_, _, _, _, k5, k6, k7, k8⟩ := K0 h
 refine Wo h (by unfold Da; rw [if_neg (by omega), if_neg (by omega)]) ?_
 unfold Ci
 rw [k5 (by omega), if_neg (by simp), Yo (k6 (by omega)) (k7 (by omega)) (k8 (by omega))]
 unfold Cw
 rw [if_neg (by omega), if_pos ht]
theorem Aeg {p : PacketV} (h : Ag p = true) (ht : p.fType = 3) : Fe p = F3 (16 * p.fType + Bc p.fDup 8 + 2 * p.fQos + Bc p.fRetain 1) (Ci p (Dh p)) := by
 obtain ⟨_, _, _, _, k5, k6, k7, k8⟩ := K0 h
 refine Wo h (by unfold Da; rw [if_pos ht]) ?_
 unfold Ci
 rw [if_neg (by simp; omega), Yo (k6 (by omega)) (k7 (by omega)) (k8 (by omega))]
 unfold Cw
 rw [if_neg (by omega), if_neg (by omega), if_pos ht]
theorem Wn {p : PacketV} (h : Ag p = true) (h1 : ¬ p.fType = 1) (h2 : ¬ p.fType = 2) (h3 : ¬ p.fType = 3) {f : Int} (hf : Da p = f) : Fe p = F3 f (Ci p bs0) := by
 obtain ⟨_, _, _, _, k5, k6, k7, k8⟩ := K0 h
 obtain ⟨ht, _, hk⟩ := Gv h
 refine Wo h hf ?_
 unfold Ci Cw
 rw [if_neg h1, if_neg h2, if_neg h3]
 by_cases h12 : 12 ≤ p.fType
 rw [k5 (by omega), if_pos (by omega), if_neg (by simp), Yo (k6 (by omega)) (k7 (by omega)) (k8 (by omega))]
 have hi : 1 ≤ p.fId := by
  unfold Bz at hk
  rw [if_neg h1, if_neg h2, if_neg h3] at hk
  by_cases h4 : p.fType = 4 ∨ p.fType = 5 ∨ p.fType = 6 ∨ p.fType = 7 ∨ p.fType = 11
  rw [if_pos h4, Gt] at hk
  omega
  rw [if_neg h4, if_pos (by omega)] at hk
  simp only [zaf, Gt] at hk
  omega
 rw [if_neg (by omega), if_pos (by simp; omega)]
theorem Rz (n : Nat) (hn : 1048576 < n) (p : PacketV) (hp : Gx p) (hb1 : p.fWBody.size ≤ 1048576) (hb2 : p.fPass.size ≤ 1048576) (hb3 : p.fBody.size ≤ 1048576) (h3 : (Ag p) = true) (z4t4 : ByteArray) (f4t3 : Int) (hz40 : z4t4.size ≤ 1100000) (z7t4 : ByteArray) (f7t3 : Int) (hz70 : z7t4.size ≤ 1100100) : ∀ (t pre : List ByteArray) (m : Nat) (i : Int) (i1 : Nat) (a2 : AV) (H : Ae), p.fNames = pre ++ t → i = ((pre.length : Nat) : Int) → t.length < m → Bn a2 = true → Sep H [.own a2 22 (Ai (Fd (Dy (Bo z7t4 p.fWants) p.fCodes) pre)), .blk i1 (A0 p) true] → Gd (· = some (Ai (F3 f7t3 (Et p z7t4)))) (O6 (PR (n + 10) AV) (n + 10) (fun x H => Bm A4 E0.tp 22 H x) m (.ptr i1 0) (.sc (.int .i64 f7t3)) (a2) (.sc (.int .i64 i)) H)
 | [], pre, m + 1, i, i1, a2, H, he, hi, hm, la2, s0 => by
  obtain rfl : pre = p.fNames := by simpa using he.symm
  have hl1 := hp.l1
  have hl2 := hp.l2
  have hl3 := hp.l3
  have zl1 := Ev p.fWants z7t4
  have zl2 := Eu p.fCodes (Bo z7t4 p.fWants)
  have zl0 := Kq p.fNames (Dy (Bo z7t4 p.fWants) p.fCodes)
  rw [O6]
  try simp only [Cz, Bx, A9, A5, Aw, B3, Bw, C2, D3, Dm]
  refine Ab (o' := 23) rfl (Aq (c := E3 p.fNames) s0 C6 rfl (C4 (D4 (Ax (by simp [hi]) (Fu (IntKind.wrap_u8 _) (Bh (cs := [.sc (.int .u8 (f7t3 % 256))]) rfl (Ct s0 fun i201 H s202 => Jb s202 C6 ?_)))))))
  have z203 := Uc (Bb bs0 (f7t3 % 256)) (((Fd (Dy (Bo z7t4 p.fWants) p.fCodes) p.fNames).size : Nat) : Int)
  simp only [Al, Ak, As, zac] at z203
  refine Cl s202 rfl (.sl (.here) rfl (.cons .sc .nil) (.cons .sc .nil)) (by rw [Acy (f7t3 % 256) (by omega)]; exact Agm (n + 4) (by omega) (Bb bs0 (f7t3 % 256)) (((Fd (Dy (Bo z7t4 p.fWants) p.fCodes) p.fNames).size : Nat) : Int) (by simp only [Al, As]; omega)) (Df (Dl (Bb bs0 (f7t3 % 256)) (((Fd (Dy (Bo z7t4 p.fWants) p.fCodes) p.fNames).size : Nat) : Int))) fun x204 H lx204 s205 => Pv (s := (Dl (Bb bs0 (f7t3 % 256)) (((Fd (Dy (Bo z7t4 p.fWants) p.fCodes) p.fNames).size : Nat) : Int))) s205 ⟨_, _, rfl, rfl, rfl, rfl⟩ (.here) (Yl ⟨_, _, rfl, rfl, rfl, rfl⟩ C6 (Jq _)) (by first | omega | (simp only [Al, Ak, As]; omega)) fun x206 H lx206 s207 => Ah (Ds s207 (.here)) ?_
  have e : F3 f7t3 (Et p z7t4) = ((Dl (Bb bs0 (f7t3 % 256)) (((Fd (Dy (Bo z7t4 p.fWants) p.fCodes) p.fNames).size : Nat) : Int)) ++ (Fd (Dy (Bo z7t4 p.fWants) p.fCodes) p.fNames)) := by
   first | rfl | (simp only [Fe, F3, Et, h3, if_true, if_false, zaa]; done) | (simp only [Fe, F3, Et, h3, if_true, if_false, zaa]; rfl) | (simp [Fe, F3, Et, h3]; done)
  ·rw [e]
   first | done | rfl
 | y :: t, pre, m + 1, i, i1, a2, H, he, hi, hm, la2, s0 => by
  have hlt : pre.length < p.fNames.length := by rw [he]; simp
  have hl1 := hp.l1
  have hl2 := hp.l2
  have hl3 := hp.l3
  have zl1 := Ev p.fWants z7t4
  have zl2 := Eu p.fCodes (Bo z7t4 p.fWants)
  have zl0 := Kq pre (Dy (Bo z7t4 p.fWants) p.fCodes)
  rw [O6]
  try simp only [Cz, Bx, A9, A5, Aw, B3, Bw, C2, D3, Dm]
  refine Ab (o' := 23) rfl (Aq (c := E3 p.fNames) s0 C6 rfl (C4 (D4 (Au (by simp [hi]; omega) (Ab (o' := 23) rfl (Aq (c := E3 p.fNames) s0 C6 rfl (Md hi he (Fc (c := .sc (.string y)) rfl ?_))))))))
  have z201 := C3 (Fd (Dy (Bo z7t4 p.fWants) p.fCodes) pre) y
  refine Cl s0 rfl (.cons (.own (by decide) (.here)) (.cons .sc .nil)) (Kh (n + 5) (by omega) (Fd (Dy (Bo z7t4 p.fWants) p.fCodes) pre) y (by first | omega | (simp only [Al, Ak, As, zac]; omega)) (hp.w2 y (by rw [he]; simp))) (Df (Ao (Fd (Dy (Bo z7t4 p.fWants) p.fCodes) pre) y)) fun x202 H lx202 s203 => Ca (by omega) (by omega) ?_
  have e204 : (Fd (Dy (Bo z7t4 p.fWants) p.fCodes) (pre ++ [y])) = (Ao (Fd (Dy (Bo z7t4 p.fWants) p.fCodes) pre) y) := by
   try simp only [bne_iff_ne, beq_iff_eq, beq_eq_false_iff_ne, Cs] at h3
   simp only [Fd, zbg, zbd, zbu, h3, if_true, if_false, zaa]
   first | done | rfl
  exact Rz n hn p hp hb1 hb2 hb3 h3 z4t4 f4t3 hz40 z7t4 f7t3 hz70 t (pre ++ [y]) m _ i1 x202 _ (by rw [he]; simp) (by rw [hi]; simp) (by simpa using hm) lx202 (by rw [e204]; exact (s203.sel (.cons (.here) (.cons C6 .nil))))
theorem Rx (n : Nat) (hn : 1048576 < n) (p : PacketV) (hp : Gx p) (hb1 : p.fWBody.size ≤ 1048576) (hb2 : p.fPass.size ≤ 1048576) (hb3 : p.fBody.size ≤ 1048576) (h3 : (Ag p) = true) (z4t4 : ByteArray) (f4t3 : Int) (hz40 : z4t4.size ≤ 1100000) (z7t4 : ByteArray) (f7t3 : Int) (hz70 : z7t4.size ≤ 1100100) : ∀ (t pre : List Int) (m : Nat) (i : Int) (i1 : Nat) (a2 : AV) (H : Ae), p.fCodes = pre ++ t → i = ((pre.length : Nat) : Int) → t.length < m → Bn a2 = true → Sep H [.own a2 22 (Ai (Dy (Bo z7t4 p.fWants) pre)), .blk i1 (A0 p) true] → Gd (· = some (Ai (F3 f7t3 (Et p z7t4)))) (Mr (PR (n + 10) AV) (n + 10) (fun x H => Bm A4 E0.tp 22 H x) m (.ptr i1 0) (.sc (.int .i64 f7t3)) (a2) (.sc (.int .i64 i)) H)
 | [], pre, m + 1, i, i1, a2, H, he, hi, hm, la2, s0 => by
  obtain rfl : pre = p.fCodes := by simpa using he.symm
  have hl1 := hp.l1
  have hl2 := hp.l2
  have hl3 := hp.l3
  have zl1 := Ev p.fWants z7t4
  have zl2 := Eu p.fCodes (Bo z7t4 p.fWants)
  have zl0 := Eu p.fCodes (Bo z7t4 p.fWants)
  rw [Mr]
  try simp only [Cz, Bx, A9, A5, Aw, B3, Bw, C2, D3, Dm]
  refine Ab (o' := 24) rfl (Aq (c := E1 p.fCodes) s0 C6 rfl (C4 (D4 (Ax (by simp [hi]) ?_))))
  have s201 : Sep _ [.own a2 22 (Ai (Fd (Dy (Bo z7t4 p.fWants) p.fCodes) [])), .blk i1 (A0 p) true] := s0.sel (.cons (.here) (.cons (.here) .nil))
  exact Rz n hn p hp hb1 hb2 hb3 h3 z4t4 f4t3 (by assumption) z7t4 f7t3 (by assumption) p.fNames [] _ 0 i1 a2 _ rfl rfl (by omega) la2 s201
 | y :: t, pre, m + 1, i, i1, a2, H, he, hi, hm, la2, s0 => by
  have hlt : pre.length < p.fCodes.length := by rw [he]; simp
  have hl1 := hp.l1
  have hl2 := hp.l2
  have hl3 := hp.l3
  have zl1 := Ev p.fWants z7t4
  have zl2 := Eu p.fCodes (Bo z7t4 p.fWants)
  have zl0 := Eu pre (Bo z7t4 p.fWants)
  rw [Mr]
  try simp only [Cz, Bx, A9, A5, Aw, B3, Bw, C2, D3, Dm]
  refine Ab (o' := 24) rfl (Aq (c := E1 p.fCodes) s0 C6 rfl (C4 (D4 (Au (by simp [hi]; omega) (Ab (o' := 24) rfl (Aq (c := E1 p.fCodes) s0 C6 rfl (Jf hi he (Fc (c := .sc (.int .i64 y)) rfl (Fu (IntKind.wrap_u8 _) (Bh (cs := [.sc (.int .u8 (y % 256))]) rfl (Ct s0 fun i201 H s202 => Fa (s := (Dy (Bo z7t4 p.fWants) pre)) (z := (y % 256)) s202 C6 (.here) ⟨_, _, rfl, rfl, rfl, rfl⟩ rfl (by first | omega | (simp only [Al, As]; omega)) fun x203 H lx203 s204 => Ca (by omega) (by omega) ?_)))))))))))
  have e205 : (Dy (Bo z7t4 p.fWants) (pre ++ [y])) = (Bb (Dy (Bo z7t4 p.fWants) pre) (y % 256)) := by
   try simp only [bne_iff_ne, beq_iff_eq, beq_eq_false_iff_ne, Cs] at h3
   simp only [Dy, zbg, zbd, zbu, h3, if_true, if_false, zaa]
   first | done | rfl
  exact Rx n hn p hp hb1 hb2 hb3 h3 z4t4 f4t3 hz40 z7t4 f7t3 hz70 t (pre ++ [y]) m _ i1 x203 _ (by rw [he]; simp) (by rw [hi]; simp) (by simpa using hm) lx203 (by rw [e205]; exact (s204.sel (.cons (.here) (.cons (.here) .nil))))
theorem N3 (n : Nat) (hn : 1048576 < n) (p : PacketV) (hp : Gx p) (hb1 : p.fWBody.size ≤ 1048576) (hb2 : p.fPass.size ≤ 1048576) (hb3 : p.fBody.size ≤ 1048576) (h3 : (Ag p) = true) (z4t4 : ByteArray) (f4t3 : Int) (hz40 : z4t4.size ≤ 1100000) (z7t4 : ByteArray) (f7t3 : Int) (hz70 : z7t4.size ≤ 1100100) : ∀ (t pre : List WantV) (m : Nat) (i : Int) (i1 : Nat) (a2 : AV) (H : Ae), p.fWants = pre ++ t → i = ((pre.length : Nat) : Int) → t.length < m → Bn a2 = true → Sep H [.own a2 22 (Ai (Bo z7t4 pre)), .blk i1 (A0 p) true] → Gd (· = some (Ai (F3 f7t3 (Et p z7t4)))) (Mq (PR (n + 10) AV) (n + 10) (fun x H => Bm A4 E0.tp 22 H x) m (.ptr i1 0) (.sc (.int .i64 f7t3)) (a2) (.sc (.int .i64 i)) H)
 | [], pre, m + 1, i, i1, a2, H, he, hi, hm, la2, s0 => by
  obtain rfl : pre = p.fWants := by simpa using he.symm
  have hl1 := hp.l1
  have hl2 := hp.l2
  have hl3 := hp.l3
  have zl1 := Ev p.fWants z7t4
  have zl2 := Eu p.fCodes (Bo z7t4 p.fWants)
  have zl0 := Ev p.fWants z7t4
  rw [Mq]
  try simp only [Cz, Bx, A9, A5, Aw, B3, Bw, C2, D3, Dm]
  refine Ab (o' := 22) rfl (Aq (c := Dk Cj p.fWants) s0 C6 rfl (C4 (D4 (Ax (by simp [hi]) ?_))))
  have s201 : Sep _ [.own a2 22 (Ai (Dy (Bo z7t4 p.fWants) [])), .blk i1 (A0 p) true] := s0.sel (.cons (.here) (.cons (.here) .nil))
  exact Rx n hn p hp hb1 hb2 hb3 h3 z4t4 f4t3 (by assumption) z7t4 f7t3 (by assumption) p.fCodes [] _ 0 i1 a2 _ rfl rfl (by omega) la2 s201
 | y :: t, pre, m + 1, i, i1, a2, H, he, hi, hm, la2, s0 => by
  have hlt : pre.length < p.fWants.length := by rw [he]; simp
  have hl1 := hp.l1
  have hl2 := hp.l2
  have hl3 := hp.l3
  have zl1 := Ev p.fWants z7t4
  have zl2 := Eu p.fCodes (Bo z7t4 p.fWants)
  have zl0 := Ev pre z7t4
  rw [Mq]
  try simp only [Cz, Bx, A9, A5, Aw, B3, Bw, C2, D3, Dm]
  refine Ab (o' := 22) rfl (Aq (c := Dk Cj p.fWants) s0 C6 rfl (C4 (D4 (Au (by simp [hi]; omega) (Ab (o' := 22) rfl (Aq (c := Dk Cj p.fWants) s0 C6 rfl (Lm hi G1 (by decide) he (Od (Fc (c := .sc (.string y.fFilter)) rfl (Ab (o' := 22) rfl (Aq (c := Dk Cj p.fWants) s0 C6 rfl (Lm hi G1 (by decide) he (Od (Fc (c := .sc (.int .i64 y.fQos)) rfl (Fu (IntKind.wrap_u8 _) (Dn (Gd.bothE ?_ ?_)))))))))))))))))
  have z201 := C3 (Bo z7t4 pre) y.fFilter
  refine Cl s0 rfl (.cons (.own (by decide) (.here)) (.cons .sc .nil)) (Kh (n + 5) (by omega) (Bo z7t4 pre) y.fFilter (by first | omega | (simp only [Al, Ak, As, zac]; omega)) (hp.w1 y (by rw [he]; simp))) (Df (Ao (Bo z7t4 pre) y.fFilter)) fun x202 H lx202 s203 => Bh (cs := [.sc (.int .u8 (y.fQos % 256))]) rfl (Ct s203 fun i204 H s205 => Fa (s := (Ao (Bo z7t4 pre) y.fFilter)) (z := (y.fQos % 256)) s205 C6 (.here) ⟨_, _, rfl, rfl, rfl, rfl⟩ rfl (by first | omega | (simp only [Al, As]; omega)) fun x206 H lx206 s207 => Ca (by omega) (by omega) ?_)
  have e208 : (Bo z7t4 (pre ++ [y])) = (Bb (Ao (Bo z7t4 pre) y.fFilter) (y.fQos % 256)) := by
   try simp only [bne_iff_ne, beq_iff_eq, beq_eq_false_iff_ne, Cs] at h3
   simp only [Bo, zbg, zbd, zbu, h3, if_true, if_false, zaa]
   first | done | rfl
  exact N3 n hn p hp hb1 hb2 hb3 h3 z4t4 f4t3 hz40 z7t4 f7t3 hz70 t (pre ++ [y]) m _ i1 x206 _ (by rw [he]; simp) (by rw [hi]; simp) (by simpa using hm) lx206 (by rw [e208]; exact (s207.sel (.cons (.here) (.cons C6 .nil))))
  refine Bh (cs := [su (y.fQos % 256)]) rfl (Ct s0 fun i209 H s210 => ?_)
  have z211 := C3 (Bo z7t4 pre) y.fFilter
  refine Cl s210 rfl (.cons (.own (by decide) C6) (.cons .sc .nil)) (Kh (n + 5) (by omega) (Bo z7t4 pre) y.fFilter (by first | omega | (simp only [Al, Ak, As, zac]; omega)) (hp.w1 y (by rw [he]; simp))) (Df (Ao (Bo z7t4 pre) y.fFilter)) fun x212 H lx212 s213 => Fa (s := (Ao (Bo z7t4 pre) y.fFilter)) (z := (y.fQos % 256)) s213 (.here) (.here) ⟨_, _, rfl, rfl, rfl, rfl⟩ rfl (by first | omega | (simp only [Al, As]; omega)) fun x214 H lx214 s215 => Ca (by omega) (by omega) ?_
  have e216 : (Bo z7t4 (pre ++ [y])) = (Bb (Ao (Bo z7t4 pre) y.fFilter) (y.fQos % 256)) := by
   try simp only [bne_iff_ne, beq_iff_eq, beq_eq_false_iff_ne, Cs] at h3
   simp only [Bo, zbg, zbd, zbu, h3, if_true, if_false, zaa]
   first | done | rfl
  exact N3 n hn p hp hb1 hb2 hb3 h3 z4t4 f4t3 hz40 z7t4 f7t3 hz70 t (pre ++ [y]) m _ i1 x214 _ (by rw [he]; simp) (by rw [hi]; simp) (by simpa using hm) lx214 (by rw [e216]; exact (s215.sel (.cons (.here) (.cons C6 .nil))))
theorem Yk (n : Nat) (hn : 1048576 < n) (p : PacketV) (hp : Gx p) (hb1 : p.fWBody.size ≤ 1048576) (hb2 : p.fPass.size ≤ 1048576) (hb3 : p.fBody.size ≤ 1048576) : Di E0 (n + 11) 22 66 [.agg (A0 p)] = some (Ai (Fe p)) := by
 rw [Be, Ahy, f66]
 refine C7 (G := (· = some (Ai (Fe p)))) ?_
 have hl1 := hp.l1
 have hl2 := hp.l2
 have hl3 := hp.l3
 try simp only [Fx, Cz, Bx, A9, A5, D8, Aw, Bg, Pr.gT, Pr.gF, Pr.hT, Pr.hF, Pr.kT, Pr.kF, Bv, C2, D3, Dm]
 have s0 : Sep [] [] := C1
 refine Lg s0 (F4 (Dg _)) fun i1 H s2 => Av s2 (.here) rfl (Ar (v := (.bool (Ag p))) s2 rfl (.aggF (Dg _) .nil) (Q6 n (by omega) p hp) (C5 (Aa ((Ag p)) (fun h3 => ?_) (fun h3 => ?_))))
 have hf := Ij h3
 obtain ⟨ht, hq, hwq, hi⟩ := hf
 refine Ax (nF h3) (Ab (o' := 0) rfl (Aq (c := si p.fType) s2 (.here) rfl (Px (by omega) (by omega) (Ab (o' := 0) rfl (Aq (c := si p.fType) s2 (.here) rfl (Bd (Mv (P := fun j => ∀ (x4 : AV) (z4t4 : ByteArray) (f4t3 : Int) (H : Ae), Bn x4 = true → (z4t4.size ≤ 1100000) → Sep H [.own x4 22 (Ai z4t4), .blk i1 (A0 p) true] → Gd (· = some (Ai (F3 f4t3 (Ci p z4t4)))) (j (.ptr i1 0) (si f4t3) x4 H)) ?_ fun j4 hj4 => ?_)))))))
 intro x4 z4t4 f4t3 H lx4 hz40 s5
 refine Ab (o' := 0) rfl (Aq (c := si p.fType) s5 C6 rfl (Lh ?_))
 apply AfA ((!(decide (p.fType = 3))) && (decide (0 < p.fId)))
 intro b6 q6
 refine Aa ((decide (p.fType = 3))) (fun h6 => ?_) (fun h6 => ?_)
 exact Ac (nF h6) (Ac (nF h6) (Ac (nF h6) (AiX (nF h6) (Iw q6 (nF h6)) AdC)))
 exact Af (nT h6) (Ab (o' := 4) rfl (Af (nT h6) (Aq (c := si p.fId) s5 C6 rfl (Af (nT h6) (Eo (AiY (nT h6) (Ix q6 (nT h6)) AdC))))))
 intro b6 q6
 refine Mv (P := fun j => ∀ (x7 : AV) (z7t4 : ByteArray) (f7t3 : Int) (H : Ae), Bn x7 = true → (z7t4.size ≤ 1100100) → Sep H [.own x7 22 (Ai z7t4), .blk i1 (A0 p) true] → Gd (· = some (Ai (F3 f7t3 (Et p z7t4)))) (j (.ptr i1 0) (si f7t3) x7 H)) ?_ fun j7 hj7 => ?_
 intro x7 z7t4 f7t3 H lx7 hz70 s8
 have s9 : Sep _ [.own x7 22 (Ai (Bo z7t4 [])), .blk i1 (A0 p) true] := s8.sel (.cons (.here) (.cons (.here) .nil))
 exact N3 n hn p hp hb1 hb2 hb3 h3 z4t4 f4t3 (by assumption) z7t4 f7t3 (by assumption) p.fWants [] _ 0 i1 x7 _ rfl rfl (by omega) lx7 s9
 refine Aa (b6) (fun h10 => ?_) (fun h10 => ?_)
 refine Au h10 (Ab (o' := 4) rfl (Aq (c := .sc (.int .i64 p.fId)) s5 C6 rfl (Cl s5 rfl (.cons (.own (by decide) (.here)) (.cons .sc .nil)) (Qh (n + 9) (by omega) z4t4 p.fId (by first | omega | (simp only [Al, Ak, As, zac]; omega))) (Df (Ap z4t4 p.fId)) fun x11 H lx11 s12 => ?_)))
 have e13 : F3 f4t3 (Ci p z4t4) = F3 f4t3 (Et p (Ap z4t4 p.fId)) := by
  unfold Ci; simp only [← q6, h10, if_true, if_false, zaa]
 rw [e13]
 exact hj7 x11 (Ap z4t4 p.fId) f4t3 _ lx11 (by first | omega | (simp only [Al, Ak, As, zac]; omega)) (s12.sel (.cons (.here) (.cons C6 .nil)))
 refine Ax h10 ?_
 have e14 : F3 f4t3 (Ci p z4t4) = F3 f4t3 (Et p z4t4) := by
  unfold Ci; simp only [← q6, h10, if_true, if_false, zaa]
 rw [e14]
 exact hj7 x4 z4t4 f4t3 _ lx4 (by first | omega | (simp only [Al, Ak, As, zac]; omega)) (s5.sel (.cons (.here) (.cons (.here) .nil)))
 refine Aa ((decide (p.fType = 1))) (fun h15 => ?_) (fun h15 => ?_)
 refine Au h15 (Ab (o' := 8) rfl (Aq (c := si p.fLevel) s2 (.here) rfl (Fu (IntKind.wrap_u8 _) (Mv (P := fun j => ∀ (x16 : AV) (z16t4 : ByteArray) (f16t3 : Int) (H : Ae), Bn x16 = true → (z16t4.size ≤ 100) → Sep H [.own x16 22 (Ai z16t4), .blk i1 (A0 p) true] → Gd (· = some (Ai (F3 f16t3 (Ci p (Bu p (Cb p (Cu p (Ao (Ap (Bb z16t4 (Cf p % 256)) p.fKeep) p.fClient)))))))) (j (.ptr i1 0) (si f16t3) x16 H)) ?_ fun j16 hj16 => ?_))))
 intro x16 z16t4 f16t3 H lx16 hz160 s17
 refine Ab (o' := 9) rfl (Aq (c := sb p.fClean) s17 C6 rfl (Ab (o' := 11) rfl (Aq (c := sb p.fHasWill) s17 C6 rfl (Ab (o' := 14) rfl (Aq (c := si p.fWQos) s17 C6 rfl (Px (by omega) (by omega) (Ab (o' := 15) rfl (Aq (c := sb p.fWRetain) s17 C6 rfl (Ab (o' := 18) rfl (Aq (c := sb p.fHasPass) s17 C6 rfl (Ab (o' := 16) rfl (Aq (c := sb p.fHasUser) s17 C6 rfl ?_))))))))))))
 have q18 := Gs p.fClean 2 (by decide)
 refine Ar (v := (.int .i64 (Bc p.fClean 2))) s17 rfl (H5 .nil) (Ri (n + 9) p.fClean 2) ?_
 have q19 := Gs p.fHasWill 4 (by decide)
 refine Ar (v := (.int .i64 (Bc p.fHasWill 4))) s17 rfl (H5 .nil) (Ri (n + 9) p.fHasWill 4) (Ca (by omega) (by omega) (Ca (by omega) (by omega) ?_))
 have q20 := Gs p.fWRetain 32 (by decide)
 refine Ar (v := (.int .i64 (Bc p.fWRetain 32))) s17 rfl (H5 .nil) (Ri (n + 9) p.fWRetain 32) (Ca (by omega) (by omega) ?_)
 have q21 := Gs p.fHasPass 64 (by decide)
 refine Ar (v := (.int .i64 (Bc p.fHasPass 64))) s17 rfl (H5 .nil) (Ri (n + 9) p.fHasPass 64) (Ca (by omega) (by omega) ?_)
 have q22 := Gs p.fHasUser 128 (by decide)
 refine Ar (v := (.int .i64 (Bc p.fHasUser 128))) s17 rfl (H5 .nil) (Ri (n + 9) p.fHasUser 128) (Ca (by omega) (by omega) (Fu (IntKind.wrap_u8 _) (Bh (cs := [.sc (.int .u8 (((((((Bc p.fClean 2) + (Bc p.fHasWill 4)) + (8 * p.fWQos)) + (Bc p.fWRetain 32)) + (Bc p.fHasPass 64)) + (Bc p.fHasUser 128)) % 256))]) rfl (Ct s17 fun i23 H s24 => Fa (s := z16t4) (z := (((((((Bc p.fClean 2) + (Bc p.fHasWill 4)) + (8 * p.fWQos)) + (Bc p.fWRetain 32)) + (Bc p.fHasPass 64)) + (Bc p.fHasUser 128)) % 256)) s24 C6 (.here) ⟨_, _, rfl, rfl, rfl, rfl⟩ rfl (by first | omega | (simp only [Al, As]; omega)) fun x25 H lx25 s26 => Ab (o' := 10) rfl (Aq (c := .sc (.int .i64 p.fKeep)) s26 C6 rfl (Ab (o' := 7) rfl (Aq (c := .sc (.string p.fClient)) s26 C6 rfl (Cl s26 rfl (.cons (.own (by decide) (.here)) (.cons .sc .nil)) (Qh (n + 9) (by omega) (Bb z16t4 (((((((Bc p.fClean 2) + (Bc p.fHasWill 4)) + (8 * p.fWQos)) + (Bc p.fWRetain 32)) + (Bc p.fHasPass 64)) + (Bc p.fHasUser 128)) % 256)) p.fKeep (by first | omega | (simp only [Al, Ak, As, zac]; omega))) (Df (Ap (Bb z16t4 (((((((Bc p.fClean 2) + (Bc p.fHasWill 4)) + (8 * p.fWQos)) + (Bc p.fWRetain 32)) + (Bc p.fHasPass 64)) + (Bc p.fHasUser 128)) % 256)) p.fKeep)) fun x27 H lx27 s28 => ?_))))))))
 have z29 := C3 (Ap (Bb z16t4 (((((((Bc p.fClean 2) + (Bc p.fHasWill 4)) + (8 * p.fWQos)) + (Bc p.fWRetain 32)) + (Bc p.fHasPass 64)) + (Bc p.fHasUser 128)) % 256)) p.fKeep) p.fClient
 simp only [Al, Ak, As, zac] at z29
 refine Cl s28 rfl (.cons (.own (by decide) (.here)) (.cons .sc .nil)) (Kh (n + 5) (by omega) (Ap (Bb z16t4 (((((((Bc p.fClean 2) + (Bc p.fHasWill 4)) + (8 * p.fWQos)) + (Bc p.fWRetain 32)) + (Bc p.fHasPass 64)) + (Bc p.fHasUser 128)) % 256)) p.fKeep) p.fClient (by first | omega | (simp only [Al, Ak, As, zac]; omega)) hp.t2) (Df (Ao (Ap (Bb z16t4 (((((((Bc p.fClean 2) + (Bc p.fHasWill 4)) + (8 * p.fWQos)) + (Bc p.fWRetain 32)) + (Bc p.fHasPass 64)) + (Bc p.fHasUser 128)) % 256)) p.fKeep) p.fClient)) fun x30 H lx30 s31 => Ab (o' := 11) rfl (Aq (c := .sc (.bool p.fHasWill)) s31 Ls rfl (Mv (P := fun j => ∀ (x32 : AV) (z32t4 : ByteArray) (f32t3 : Int) (H : Ae), Bn x32 = true → (z32t4.size ≤ 400) → Sep H [.own x32 22 (Ai z32t4), .blk i1 (A0 p) true] → Gd (· = some (Ai (F3 f32t3 (Ci p (Bu p (Cb p z32t4)))))) (j (.ptr i1 0) (.sc (.int .i64 f32t3)) x32 H)) ?_ fun j32 hj32 => ?_))
 intro x32 z32t4 f32t3 H lx32 hz320 s33
 refine Ab (o' := 16) rfl (Aq (c := sb p.fHasUser) s33 C6 rfl (Mv (P := fun j => ∀ (x34 : AV) (z34t4 : ByteArray) (f34t3 : Int) (H : Ae), Bn x34 = true → (z34t4.size ≤ 600) → Sep H [.own x34 22 (Ai z34t4), .blk i1 (A0 p) true] → Gd (· = some (Ai (F3 f34t3 (Ci p (Bu p z34t4))))) (j (.ptr i1 0) (si f34t3) x34 H)) ?_ fun j34 hj34 => ?_))
 intro x34 z34t4 f34t3 H lx34 hz340 s35
 refine Ab (o' := 18) rfl (Aq (c := sb p.fHasPass) s35 C6 rfl (Aa (p.fHasPass) (fun h36 => ?_) (fun h36 => ?_)))
 refine Au h36 (Ab (o' := 19) rfl (Aq (c := Ai p.fPass) s35 C6 rfl ?_))
 have z37 := Hv z34t4 p.fPass
 refine Cl s35 rfl (.cons (.own (by decide) (.here)) (.cons .ro .nil)) (AaN (n + 8) (by omega) z34t4 p.fPass (by first | omega | (simp only [Al, Ak, As, zac]; omega)) hb2) (Df (Dc z34t4 p.fPass)) fun x38 H lx38 s39 => ?_
 have e40 : F3 f34t3 (Ci p (Bu p z34t4)) = F3 f34t3 (Ci p (Dc z34t4 p.fPass)) := by
  simp only [Cs] at h15
  first | rfl | (simp only [Ci, Cv, C8, Cu, Cb, Bu, Cf, Dh, h3, h15, h36, if_true, if_false, zaa]; done) | (simp only [Ci, Cv, C8, Cu, Cb, Bu, Cf, Dh, h3, h15, h36, if_true, if_false, zaa]; rfl) | (simp [Ci, Cv, C8, Cu, Cb, Bu, Cf, Dh, h3, h15, h36]; done)
 rw [e40]
 exact hj4 x38 (Dc z34t4 p.fPass) f34t3 _ lx38 (by first | omega | (simp only [Al, Ak, As, zac]; omega)) (s39.sel (.cons (.here) (.cons C6 .nil)))
 refine Ax h36 ?_
 have e41 : F3 f34t3 (Ci p (Bu p z34t4)) = F3 f34t3 (Ci p z34t4) := by
  simp only [Cs] at h15
  first | rfl | (simp only [Ci, Cv, C8, Cu, Cb, Bu, Cf, Dh, h3, h15, h36, if_true, if_false, zaa]; done) | (simp only [Ci, Cv, C8, Cu, Cb, Bu, Cf, Dh, h3, h15, h36, if_true, if_false, zaa]; rfl) | (simp [Ci, Cv, C8, Cu, Cb, Bu, Cf, Dh, h3, h15, h36]; done)
 rw [e41]
 exact hj4 x34 z34t4 f34t3 _ lx34 (by first | omega | (simp only [Al, Ak, As, zac]; omega)) (s35.sel (.cons (.here) (.cons (.here) .nil)))
 refine Aa (p.fHasUser) (fun h42 => ?_) (fun h42 => ?_)
 refine Au h42 (Ab (o' := 17) rfl (Aq (c := ss p.fUser) s33 C6 rfl ?_))
 have z43 := C3 z32t4 p.fUser
 refine Cl s33 rfl (.cons (.own (by decide) (.here)) (.cons .sc .nil)) (Kh (n + 5) (by omega) z32t4 p.fUser (by first | omega | (simp only [Al, Ak, As, zac]; omega)) hp.t4) (Df (Ao z32t4 p.fUser)) fun x44 H lx44 s45 => ?_
 have e46 : F3 f32t3 (Ci p (Bu p (Cb p z32t4))) = F3 f32t3 (Ci p (Bu p (Ao z32t4 p.fUser))) := by
  simp only [Cs] at h15
  first | rfl | (simp only [Ci, Cv, C8, Cu, Cb, Bu, Cf, Dh, h3, h15, h42, if_true, if_false, zaa]; done) | (simp only [Ci, Cv, C8, Cu, Cb, Bu, Cf, Dh, h3, h15, h42, if_true, if_false, zaa]; rfl)
 rw [e46]
 exact hj34 x44 (Ao z32t4 p.fUser) f32t3 _ lx44 (by first | omega | (simp only [Al, Ak, As, zac]; omega)) (s45.sel (.cons (.here) (.cons C6 .nil)))
 refine Ax h42 ?_
 have e47 : F3 f32t3 (Ci p (Bu p (Cb p z32t4))) = F3 f32t3 (Ci p (Bu p z32t4)) := by
  simp only [Cs] at h15
  first | rfl | (simp only [Ci, Cv, C8, Cu, Cb, Bu, Cf, Dh, h3, h15, h42, if_true, if_false, zaa]; done) | (simp only [Ci, Cv, C8, Cu, Cb, Bu, Cf, Dh, h3, h15, h42, if_true, if_false, zaa]; rfl)
 rw [e47]
 exact hj34 x32 z32t4 f32t3 _ lx32 (by first | omega | (simp only [Al, Ak, As, zac]; omega)) (s33.sel (.cons (.here) (.cons (.here) .nil)))
 refine Aa (p.fHasWill) (fun h48 => ?_) (fun h48 => ?_)
 refine Au h48 (Ab (o' := 12) rfl (Aq (c := ss p.fWTopic) s31 Ls rfl (Ab (o' := 13) rfl (Aq (c := Ai p.fWBody) s31 Ls rfl ?_))))
 have z49 := C3 (Ao (Ap (Bb z16t4 (((((((Bc p.fClean 2) + (Bc p.fHasWill 4)) + (8 * p.fWQos)) + (Bc p.fWRetain 32)) + (Bc p.fHasPass 64)) + (Bc p.fHasUser 128)) % 256)) p.fKeep) p.fClient) p.fWTopic
 refine Cl s31 rfl (.cons (.own (by decide) (.here)) (.cons .sc .nil)) (Kh (n + 5) (by omega) (Ao (Ap (Bb z16t4 (((((((Bc p.fClean 2) + (Bc p.fHasWill 4)) + (8 * p.fWQos)) + (Bc p.fWRetain 32)) + (Bc p.fHasPass 64)) + (Bc p.fHasUser 128)) % 256)) p.fKeep) p.fClient) p.fWTopic (by first | omega | (simp only [Al, Ak, As, zac]; omega)) hp.t3) (Df (Ao (Ao (Ap (Bb z16t4 (((((((Bc p.fClean 2) + (Bc p.fHasWill 4)) + (8 * p.fWQos)) + (Bc p.fWRetain 32)) + (Bc p.fHasPass 64)) + (Bc p.fHasUser 128)) % 256)) p.fKeep) p.fClient) p.fWTopic)) fun x50 H lx50 s51 => ?_
 have z52 := Hv (Ao (Ao (Ap (Bb z16t4 (((((((Bc p.fClean 2) + (Bc p.fHasWill 4)) + (8 * p.fWQos)) + (Bc p.fWRetain 32)) + (Bc p.fHasPass 64)) + (Bc p.fHasUser 128)) % 256)) p.fKeep) p.fClient) p.fWTopic) p.fWBody
 refine Cl s51 rfl (.cons (.own (by decide) (.here)) (.cons .ro .nil)) (AaN (n + 8) (by omega) (Ao (Ao (Ap (Bb z16t4 (((((((Bc p.fClean 2) + (Bc p.fHasWill 4)) + (8 * p.fWQos)) + (Bc p.fWRetain 32)) + (Bc p.fHasPass 64)) + (Bc p.fHasUser 128)) % 256)) p.fKeep) p.fClient) p.fWTopic) p.fWBody (by first | omega | (simp only [Al, Ak, As, zac]; omega)) hb1) (Df (Dc (Ao (Ao (Ap (Bb z16t4 (((((((Bc p.fClean 2) + (Bc p.fHasWill 4)) + (8 * p.fWQos)) + (Bc p.fWRetain 32)) + (Bc p.fHasPass 64)) + (Bc p.fHasUser 128)) % 256)) p.fKeep) p.fClient) p.fWTopic) p.fWBody)) fun x53 H lx53 s54 => ?_
 have e55 : F3 f16t3 (Ci p (Bu p (Cb p (Cu p (Ao (Ap (Bb z16t4 (Cf p % 256)) p.fKeep) p.fClient))))) = F3 f16t3 (Ci p (Bu p (Cb p (Dc (Ao (Ao (Ap (Bb z16t4 (((((((Bc p.fClean 2) + (Bc p.fHasWill 4)) + (8 * p.fWQos)) + (Bc p.fWRetain 32)) + (Bc p.fHasPass 64)) + (Bc p.fHasUser 128)) % 256)) p.fKeep) p.fClient) p.fWTopic) p.fWBody)))) := by
  simp only [Cs] at h15
  first | rfl | (simp only [Ci, Cv, C8, Cu, Cb, Bu, Cf, Dh, h3, h15, h48, if_true, if_false, zaa]; done) | (simp only [Ci, Cv, C8, Cu, Cb, Bu, Cf, Dh, h3, h15, h48, if_true, if_false, zaa]; rfl)
 rw [e55]
 exact hj32 x53 (Dc (Ao (Ao (Ap (Bb z16t4 (((((((Bc p.fClean 2) + (Bc p.fHasWill 4)) + (8 * p.fWQos)) + (Bc p.fWRetain 32)) + (Bc p.fHasPass 64)) + (Bc p.fHasUser 128)) % 256)) p.fKeep) p.fClient) p.fWTopic) p.fWBody) f16t3 _ lx53 (by first | omega | (simp only [Al, Ak, As, zac]; omega)) (s54.sel (.cons (.here) (.cons Lt .nil)))
 refine Ax h48 ?_
 have e56 : F3 f16t3 (Ci p (Bu p (Cb p (Cu p (Ao (Ap (Bb z16t4 (Cf p % 256)) p.fKeep) p.fClient))))) = F3 f16t3 (Ci p (Bu p (Cb p (Ao (Ap (Bb z16t4 (((((((Bc p.fClean 2) + (Bc p.fHasWill 4)) + (8 * p.fWQos)) + (Bc p.fWRetain 32)) + (Bc p.fHasPass 64)) + (Bc p.fHasUser 128)) % 256)) p.fKeep) p.fClient)))) := by
  simp only [Cs] at h15
  first | rfl | (simp only [Ci, Cv, C8, Cu, Cb, Bu, Cf, Dh, h3, h15, h48, if_true, if_false, zaa]; done) | (simp only [Ci, Cv, C8, Cu, Cb, Bu, Cf, Dh, h3, h15, h48, if_true, if_false, zaa]; rfl)
 rw [e56]
 exact hj32 x30 (Ao (Ap (Bb z16t4 (((((((Bc p.fClean 2) + (Bc p.fHasWill 4)) + (8 * p.fWQos)) + (Bc p.fWRetain 32)) + (Bc p.fHasPass 64)) + (Bc p.fHasUser 128)) % 256)) p.fKeep) p.fClient) f16t3 _ lx30 (by first | omega | (simp only [Al, Ak, As, zac]; omega)) (s31.sel (.cons (.here) (.cons Do .nil)))
 refine Gd.bothE ?_ ?_
 have z57 := C3 bs0 mqtt
 simp only [Al, Ak, As, zac] at z57
 refine Cl s2 rfl (.cons .nl (.cons .sc .nil)) (Kh (n + 5) (by omega) bs0 mqtt (by first | omega | (simp only [Al, Ak, As, zac]; omega)) (by decide)) (Df (Ao bs0 mqtt)) fun x58 H lx58 s59 => Bh (cs := [.sc (.int .u8 (p.fLevel % 256))]) rfl (Ct s59 fun i60 H s61 => Fa (s := (Ao bs0 mqtt)) (z := (p.fLevel % 256)) s61 C6 (.here) ⟨_, _, rfl, rfl, rfl, rfl⟩ rfl (by first | omega | (simp only [Al, As]; omega)) fun x62 H lx62 s63 => ?_)
 have e64 : Fe p = F3 (16 * p.fType) (Ci p (Bu p (Cb p (Cu p (Ao (Ap (Bb (Bb (Ao bs0 mqtt) (p.fLevel % 256)) (Cf p % 256)) p.fKeep) p.fClient))))) := by
  simp only [Cs] at h15
  rw [Aef h3 h15]; first | rfl | (simp only [Ci, Cv, C8, Cu, Cb, Bu, Cf, Dh, h3, h15, if_true, if_false, zaa]; done) | (simp only [Ci, Cv, C8, Cu, Cb, Bu, Cf, Dh, h3, h15, if_true, if_false, zaa]; rfl) | (simp [Ci, Cv, C8, Cu, Cb, Bu, Cf, Dh, h3, h15]; done)
 rw [e64]
 exact hj16 x62 (Bb (Ao bs0 mqtt) (p.fLevel % 256)) (16 * p.fType) _ lx62 (by first | omega | (simp only [Al, Ak, As, zac]; omega)) (s63.sel (.cons (.here) (.cons (.here) .nil)))
 refine Bh (cs := [su (p.fLevel % 256)]) rfl (Ct s2 fun i65 H s66 => ?_)
 have z67 := C3 bs0 mqtt
 simp only [Al, Ak, As, zac] at z67
 refine Cl s66 rfl (.cons .nl (.cons .sc .nil)) (Kh (n + 5) (by omega) bs0 mqtt (by first | omega | (simp only [Al, Ak, As, zac]; omega)) (by decide)) (Df (Ao bs0 mqtt)) fun x68 H lx68 s69 => Fa (s := (Ao bs0 mqtt)) (z := (p.fLevel % 256)) s69 (.here) (.here) ⟨_, _, rfl, rfl, rfl, rfl⟩ rfl (by first | omega | (simp only [Al, As]; omega)) fun x70 H lx70 s71 => ?_
 have e72 : Fe p = F3 (16 * p.fType) (Ci p (Bu p (Cb p (Cu p (Ao (Ap (Bb (Bb (Ao bs0 mqtt) (p.fLevel % 256)) (Cf p % 256)) p.fKeep) p.fClient))))) := by
  simp only [Cs] at h15
  rw [Aef h3 h15]; first | rfl | (simp only [Ci, Cv, C8, Cu, Cb, Bu, Cf, Dh, h3, h15, if_true, if_false, zaa]; done) | (simp only [Ci, Cv, C8, Cu, Cb, Bu, Cf, Dh, h3, h15, if_true, if_false, zaa]; rfl) | (simp [Ci, Cv, C8, Cu, Cb, Bu, Cf, Dh, h3, h15]; done)
 rw [e72]
 exact hj16 x70 (Bb (Ao bs0 mqtt) (p.fLevel % 256)) (16 * p.fType) _ lx70 (by first | omega | (simp only [Al, Ak, As, zac]; omega)) (s71.sel (.cons (.here) (.cons (.here) .nil)))
 refine Ax h15 (Bd (Aa ((decide (p.fType = 2))) (fun h73 => ?_) (fun h73 => ?_)))
 refine Au h73 (Ab (o' := 21) rfl (Aq (c := sb p.fPresent) s2 (.here) rfl (Ab (o' := 20) rfl (Aq (c := si p.fCode) s2 (.here) rfl (Fu (IntKind.wrap_u8 _) ?_)))))
 have q74 := Gs p.fPresent 1 (by decide)
 refine Ar (v := (.int .i64 (Bc p.fPresent 1))) s2 rfl (H5 .nil) (Ri (n + 9) p.fPresent 1) (Fu (IntKind.wrap_u8 _) (Bh (cs := [su ((Bc p.fPresent 1) % 256), su (p.fCode % 256)]) rfl (Ct s2 fun i75 H s76 => ?_)))
 have s77 := s76.nl (ty := 22) ⟨_, _, rfl, rfl⟩
 refine R8 (s := bs0) (z := ((Bc p.fPresent 1) % 256)) (w := (p.fCode % 256)) s77 (.here) (.here) ⟨_, _, rfl, rfl, rfl, rfl⟩ (by first | omega | (simp only [Al, As]; omega)) fun x78 H lx78 s79 => ?_
 have e80 : Fe p = F3 (16 * p.fType) (Ci p (Bb (Bb bs0 ((Bc p.fPresent 1) % 256)) (p.fCode % 256))) := by
  simp only [Cs] at h15 h73
  rw [Aig h3 h73]
 rw [e80]
 exact hj4 x78 (Bb (Bb bs0 ((Bc p.fPresent 1) % 256)) (p.fCode % 256)) (16 * p.fType) _ lx78 (by first | omega | (simp only [Al, Ak, As, zac]; omega)) (s79.sel (.cons (.here) (.cons (.here) .nil)))
 refine Ax h73 (Bd (Aa ((decide (p.fType = 3))) (fun h81 => ?_) (fun h81 => ?_)))
 refine Au h81 (Ab (o' := 1) rfl (Aq (c := sb p.fDup) s2 (.here) rfl (Ab (o' := 2) rfl (Aq (c := si p.fQos) s2 (.here) rfl (Px (by omega) (by omega) (Ab (o' := 3) rfl (Aq (c := sb p.fRetain) s2 (.here) rfl ?_)))))))
 have q82 := Gs p.fDup 8 (by decide)
 refine Ar (v := (.int .i64 (Bc p.fDup 8))) s2 rfl (H5 .nil) (Ri (n + 9) p.fDup 8) (Ca (by omega) (by omega) (Ca (by omega) (by omega) ?_))
 have q83 := Gs p.fRetain 1 (by decide)
 refine Ar (v := (.int .i64 (Bc p.fRetain 1))) s2 rfl (H5 .nil) (Ri (n + 9) p.fRetain 1) (Ca (by omega) (by omega) (Ab (o' := 5) rfl (Aq (c := ss p.fTopic) s2 (.here) rfl ?_)))
 have z84 := C3 bs0 p.fTopic
 simp only [Al, Ak, As, zac] at z84
 refine Cl s2 rfl (.cons .nl (.cons .sc .nil)) (Kh (n + 5) (by omega) bs0 p.fTopic (by first | omega | (simp only [Al, Ak, As, zac]; omega)) hp.t1) (Df (Ao bs0 p.fTopic)) fun x85 H lx85 s86 => Ab (o' := 2) rfl (Aq (c := .sc (.int .i64 p.fQos)) s86 C6 rfl (Eo (Mv (P := fun j => ∀ (x87 : AV) (z87t4 : ByteArray) (f87t3 : Int) (H : Ae), Bn x87 = true → (z87t4.size ≤ 200) → Sep H [.own x87 22 (Ai z87t4), .blk i1 (A0 p) true] → Gd (· = some (Ai (F3 f87t3 (Ci p (z87t4 ++ p.fBody))))) (j (.ptr i1 0) (.sc (.int .i64 f87t3)) x87 H)) ?_ fun j87 hj87 => ?_)))
 intro x87 z87t4 f87t3 H lx87 hz870 s88
 refine Ab (o' := 6) rfl (Aq (c := Ai p.fBody) s88 C6 rfl (Pv (s := z87t4) s88 ⟨_, _, rfl, rfl, rfl, rfl⟩ (.here) Se (by first | omega | (simp only [Al, Ak, As]; omega)) fun x89 H lx89 s90 => ?_))
 have e91 : F3 f87t3 (Ci p (z87t4 ++ p.fBody)) = F3 f87t3 (Ci p (z87t4 ++ p.fBody)) := by
  simp only [Cs] at h15 h73 h81
  first | rfl | (simp only [Ci, Cv, C8, Cu, Cb, Bu, Cf, Dh, h3, h15, h73, h81, if_true, if_false, zaa]; done) | (simp only [Ci, Cv, C8, Cu, Cb, Bu, Cf, Dh, h3, h15, h73, h81, if_true, if_false, zaa]; rfl) | (simp [Ci, Cv, C8, Cu, Cb, Bu, Cf, Dh, h3, h15, h73, h81]; done)
 rw [e91]
 exact hj4 x89 (z87t4 ++ p.fBody) f87t3 _ lx89 (by first | omega | (simp only [Al, Ak, As, zac]; omega)) (s90.sel (.cons (.here) (.cons (.here) .nil)))
 refine Aa ((decide (0 < p.fQos))) (fun h92 => ?_) (fun h92 => ?_)
 refine Au h92 (Ab (o' := 4) rfl (Aq (c := .sc (.int .i64 p.fId)) s86 C6 rfl (Cl s86 rfl (.cons (.own (by decide) (.here)) (.cons .sc .nil)) (Qh (n + 9) (by omega) (Ao bs0 p.fTopic) p.fId (by first | omega | (simp only [Al, Ak, As, zac]; omega))) (Df (Ap (Ao bs0 p.fTopic) p.fId)) fun x93 H lx93 s94 => ?_)))
 have e95 : Fe p = F3 ((((16 * p.fType) + (Bc p.fDup 8)) + (2 * p.fQos)) + (Bc p.fRetain 1)) (Ci p ((Ap (Ao bs0 p.fTopic) p.fId) ++ p.fBody)) := by
  simp only [Cs] at h15 h73 h81 h92
  rw [Aeg h3 h81]; first | rfl | (simp only [Ci, Cv, C8, Cu, Cb, Bu, Cf, Dh, h3, h15, h73, h81, h92, if_true, if_false, zaa]; done) | (simp only [Ci, Cv, C8, Cu, Cb, Bu, Cf, Dh, h3, h15, h73, h81, h92, if_true, if_false, zaa]; rfl) | (simp [Ci, Cv, C8, Cu, Cb, Bu, Cf, Dh, h3, h15, h73, h81, h92]; done)
 rw [e95]
 exact hj87 x93 (Ap (Ao bs0 p.fTopic) p.fId) ((((16 * p.fType) + (Bc p.fDup 8)) + (2 * p.fQos)) + (Bc p.fRetain 1)) _ lx93 (by first | omega | (simp only [Al, Ak, As, zac]; omega)) (s94.sel (.cons (.here) (.cons C6 .nil)))
 refine Ax h92 ?_
 have e96 : Fe p = F3 ((((16 * p.fType) + (Bc p.fDup 8)) + (2 * p.fQos)) + (Bc p.fRetain 1)) (Ci p ((Ao bs0 p.fTopic) ++ p.fBody)) := by
  simp only [Cs] at h15 h73 h81 h92
  rw [Aeg h3 h81]; first | rfl | (simp only [Ci, Cv, C8, Cu, Cb, Bu, Cf, Dh, h3, h15, h73, h81, h92, if_true, if_false, zaa]; done) | (simp only [Ci, Cv, C8, Cu, Cb, Bu, Cf, Dh, h3, h15, h73, h81, h92, if_true, if_false, zaa]; rfl) | (simp [Ci, Cv, C8, Cu, Cb, Bu, Cf, Dh, h3, h15, h73, h81, h92]; done)
 rw [e96]
 exact hj87 x85 (Ao bs0 p.fTopic) ((((16 * p.fType) + (Bc p.fDup 8)) + (2 * p.fQos)) + (Bc p.fRetain 1)) _ lx85 (by first | omega | (simp only [Al, Ak, As, zac]; omega)) (s86.sel (.cons (.here) (.cons (.here) .nil)))
 refine Ax h81 (Bd (Dn (Aa ((decide (p.fType = 6))) (fun h97 => ?_) (fun h97 => ?_))))
 refine Au h97 (Au h97 (Ca (by omega) (by omega) ?_))
 have s98 := s2.nl (ty := 22) ⟨_, _, rfl, rfl⟩
 have e99 : Fe p = F3 ((16 * p.fType) + 2) (Ci p bs0) := by
  clear hj4 s0 s2 s98
  simp only [Cs] at h15 h73 h81 h97
  exact Wn h3 h15 h73 h81 (by unfold Da; (repeat' split) <;> omega)
 rw [e99]
 exact hj4 .nl bs0 ((16 * p.fType) + 2) _ rfl (by first | omega | (simp only [Al, Ak, As, zac]; omega)) (s98.sel (.cons (.here) (.cons (.here) .nil)))
 refine Ax h97 (Bd (Aa ((decide (p.fType = 8))) (fun h100 => ?_) (fun h100 => ?_)))
 refine Au h100 (Au h100 (Ca (by omega) (by omega) ?_))
 have s101 := s2.nl (ty := 22) ⟨_, _, rfl, rfl⟩
 have e102 : Fe p = F3 ((16 * p.fType) + 2) (Ci p bs0) := by
  clear hj4 s0 s2 s101
  simp only [Cs] at h15 h73 h81 h97 h100
  exact Wn h3 h15 h73 h81 (by unfold Da; (repeat' split) <;> omega)
 rw [e102]
 exact hj4 .nl bs0 ((16 * p.fType) + 2) _ rfl (by first | omega | (simp only [Al, Ak, As, zac]; omega)) (s101.sel (.cons (.here) (.cons (.here) .nil)))
 refine Ax h100 (Bd (Aa ((decide (p.fType = 10))) (fun h103 => ?_) (fun h103 => ?_)))
 refine Au h103 (Ca (by omega) (by omega) ?_)
 have s104 := s2.nl (ty := 22) ⟨_, _, rfl, rfl⟩
 have e105 : Fe p = F3 ((16 * p.fType) + 2) (Ci p bs0) := by
  clear hj4 s0 s2 s104
  simp only [Cs] at h15 h73 h81 h97 h100 h103
  exact Wn h3 h15 h73 h81 (by unfold Da; (repeat' split) <;> omega)
 rw [e105]
 exact hj4 .nl bs0 ((16 * p.fType) + 2) _ rfl (by first | omega | (simp only [Al, Ak, As, zac]; omega)) (s104.sel (.cons (.here) (.cons (.here) .nil)))
 refine Ax h103 ?_
 have s106 := s2.nl (ty := 22) ⟨_, _, rfl, rfl⟩
 have e107 : Fe p = F3 (16 * p.fType) (Ci p bs0) := by
  clear hj4 s0 s2 s106
  simp only [Cs] at h15 h73 h81 h97 h100 h103
  exact Wn h3 h15 h73 h81 (by unfold Da; (repeat' split) <;> omega)
 rw [e107]
 exact hj4 .nl bs0 (16 * p.fType) _ rfl (by first | omega | (simp only [Al, Ak, As, zac]; omega)) (s106.sel (.cons (.here) (.cons (.here) .nil)))
 refine Au (nT h3) ?_
 have s108 := s2.nl (ty := 22) ⟨_, _, rfl, rfl⟩
 refine Ah (Ds s108 .here) ?_
 have e : Fe p = bs0 := by
  first | rfl | (simp only [Fe, F3, Et, h3, if_true, if_false, zaa]; done) | (simp only [Fe, F3, Et, h3, if_true, if_false, zaa]; rfl) | (simp [Fe, F3, Et, h3]; done)
 ·rw [e]
  first | done | rfl
end
end Go.Proofs.YtlcpigdmekgajaaGreatDoor.Abs
