/- What the proof needs, part 5: a sound evaluator over trees, the program's functions on it, and what they come to. -/
import Derived.Test.YtlcpigdmekgajaaGreatDoorZrd
set_option linter.unusedVariables false
set_option linter.unusedSimpArgs false
set_option maxRecDepth 100000
set_option maxHeartbeats 32000000
namespace Go.Proofs.YtlcpigdmekgajaaGreatDoor.Abs
open _root_.Bool renaming false_eq_true → zaa, and_eq_true → zag, not_true → zaw, not_false → za0, true_and → zaA, false_and → zaF, and_true → zaI
open _root_.List renaming length_append → zae, nil_append → zal, length_singleton → zas, length_nil → zav, cons_append → zaz, foldl_cons → zbc, foldl_append → zbg, foldl_nil → zby
open _root_.ByteArray renaming size_append → zak, size_extract → zat
open _root_.Nat renaming le_trans → za5
open _root_.Int renaming tmod_eq_emod_of_nonneg → za9
section
open Go
theorem G3 (b : Bool) (n : Int) (h : 0 ≤ n) : 0 ≤ Bb b n ∧ Bb b n ≤ n := by
 unfold Bb
 split <;> omega
theorem Zu (n : Nat) (b : Bool) (i : Int) : Dd E0 (n + 1) 3 140 [.sc (.bool b), .sc (.int .i64 i)] = some (.sc (.int .i64 (Bb b i))) := by
 rw [Bd, AhF, f140]
 refine C6 (G := (· = some (si (Bb b i)))) ?_
 try simp only [Av]
 have s0 : Sep [] [] := Cx
 refine Aa (b) (fun h1 => ?_) (fun h1 => ?_)
 refine As h1 (Ai rfl ?_)
 have e : Bb b i = i := by
  (simp only [Bb, h1, if_true, if_false, zaa]; done)
 rw [e]
 refine Ax h1 (Ai rfl ?_)
 have e : Bb b i = 0 := by
  (simp only [Bb, h1, if_true, if_false, zaa]; done)
 rw [e]
theorem Tl (n : Nat) (b : Bool) (i : Int) : Dd E0 (n + 1) 3 94 [.sc (.bool b), .sc (.int .i64 i)] = some (.sc (.int .i64 (Bb b i))) := by
 rw [Bd, AkF, f94]
 refine C6 (G := (· = some (si (Bb b i)))) ?_
 try simp only [Av]
 have s0 : Sep [] [] := Cx
 refine Aa (b) (fun h1 => ?_) (fun h1 => ?_)
 refine As h1 (Ai rfl ?_)
 have e : Bb b i = i := by
  (simp only [Bb, h1, if_true, if_false, zaa]; done)
 rw [e]
 refine Ax h1 (Ai rfl ?_)
 have e : Bb b i = 0 := by
  (simp only [Bb, h1, if_true, if_false, zaa]; done)
 rw [e]
theorem AaV (n : Nat) (hn : 1048576 < n) (p : PacketV) (hp : Hd p) (hb1 : p.fWBody.size ≤ 1048576) (hb2 : p.fPass.size ≤ 1048576) (hq : 0 ≤ p.fWQos ∧ p.fWQos ≤ 2) : Dd E0 (n + 7) 22 139 [.agg (Ar p)] = some (Ag (Fc p)) := by
 rw [Bd, AhE, f139]
 refine C6 (G := (· = some (Ag (Fc p)))) ?_
 try simp only [Gw, Cq, B6, Ba, A4, Av, Ct, Du, Dh]
 have s0 : Sep [] [] := Cx
 refine Od s0 (G6 (Cy _)) fun i1 H s2 => Ab (o' := 9) rfl (Ap (c := sb p.fClean) s2 (.here) rfl (Ab (o' := 11) rfl (Ap (c := sb p.fHasWill) s2 (.here) rfl (Ab (o' := 14) rfl (Ap (c := si p.fWQos) s2 (.here) rfl (Rh (by omega) (by omega) (Ab (o' := 15) rfl (Ap (c := sb p.fWRetain) s2 (.here) rfl (Ab (o' := 18) rfl (Ap (c := sb p.fHasPass) s2 (.here) rfl (Ab (o' := 16) rfl (Ap (c := sb p.fHasUser) s2 (.here) rfl ?_))))))))))))
 have q3 := G3 p.fClean 2 (by decide)
 refine Aq (v := (.int .i64 (Bb p.fClean 2))) s2 rfl (Ir .nil) (Zu (n + 5) p.fClean 2) ?_
 have q4 := G3 p.fHasWill 4 (by decide)
 refine Aq (v := (.int .i64 (Bb p.fHasWill 4))) s2 rfl (Ir .nil) (Zu (n + 5) p.fHasWill 4) (B9 (by omega) (by omega) (B9 (by omega) (by omega) ?_))
 have q5 := G3 p.fWRetain 32 (by decide)
 refine Aq (v := (.int .i64 (Bb p.fWRetain 32))) s2 rfl (Ir .nil) (Zu (n + 5) p.fWRetain 32) (B9 (by omega) (by omega) ?_)
 have q6 := G3 p.fHasPass 64 (by decide)
 refine Aq (v := (.int .i64 (Bb p.fHasPass 64))) s2 rfl (Ir .nil) (Zu (n + 5) p.fHasPass 64) (B9 (by omega) (by omega) ?_)
 have q7 := G3 p.fHasUser 128 (by decide)
 refine Aq (v := (.int .i64 (Bb p.fHasUser 128))) s2 rfl (Ir .nil) (Zu (n + 5) p.fHasUser 128) (B9 (by omega) (by omega) (Ab (o' := 8) rfl (Ap (c := si p.fLevel) s2 (.here) rfl (Fy (IntKind.wrap_u8 _) (Fy (IntKind.wrap_u8 _) (Ny (P := fun j => ∀ (x8 : AV) (z8t4 : ByteArray) (H : Ad), Bn x8 = true → (z8t4.size ≤ 100) → Sep H [.own x8 22 (Ag z8t4), .blk i1 (Ar p) true] → Gd (· = some (Ag (Dc p (D4 p (E9 p (An (Ao z8t4 p.fKeep) p.fClient)))))) (j (.ptr i1 0) x8 H)) ?_ fun j8 hj8 => ?_))))))
 intro x8 z8t4 H lx8 hz80 s9
 refine Ab (o' := 10) rfl (Ap (c := si p.fKeep) s9 C0 rfl (Ab (o' := 7) rfl (Ap (c := ss p.fClient) s9 C0 rfl (Cg s9 rfl (.cons (.own (by decide) (.here)) (.cons .sc .nil)) (Ri (n + 1) (by omega) z8t4 p.fKeep (by omega)) (Da (Ao z8t4 p.fKeep)) fun x10 H lx10 s11 => ?_))))
 have z12 := Cv (Ao z8t4 p.fKeep) p.fClient
 simp only [Ay, Aw, Bj, zak] at z12
 refine Cg s11 rfl (.cons (.own (by decide) (.here)) (.cons .sc .nil)) (K6 n (by omega) (Ao z8t4 p.fKeep) p.fClient (by (simp only [Ay, Aw, Bj, zak]; omega)) hp.t2) (Da (An (Ao z8t4 p.fKeep) p.fClient)) fun x13 H lx13 s14 => Ab (o' := 11) rfl (Ap (c := .sc (.bool p.fHasWill)) s14 Mv rfl (Ny (P := fun j => ∀ (x15 : AV) (z15t4 : ByteArray) (H : Ad), Bn x15 = true → (z15t4.size ≤ 400) → Sep H [.own x15 22 (Ag z15t4), .blk i1 (Ar p) true] → Gd (· = some (Ag (Dc p (D4 p z15t4)))) (j (.ptr i1 0) x15 H)) ?_ fun j15 hj15 => ?_))
 intro x15 z15t4 H lx15 hz150 s16
 refine Ab (o' := 16) rfl (Ap (c := sb p.fHasUser) s16 C0 rfl (Ny (P := fun j => ∀ (x17 : AV) (z17t4 : ByteArray) (H : Ad), Bn x17 = true → (z17t4.size ≤ 600) → Sep H [.own x17 22 (Ag z17t4), .blk i1 (Ar p) true] → Gd (· = some (Ag (Dc p z17t4))) (j (.ptr i1 0) x17 H)) ?_ fun j17 hj17 => ?_))
 intro x17 z17t4 H lx17 hz170 s18
 refine Ab (o' := 18) rfl (Ap (c := sb p.fHasPass) s18 C0 rfl (Di (Aa (p.fHasPass) (fun h19 => ?_) (fun h19 => ?_))))
 refine As h19 (Ab (o' := 19) rfl (Ap (c := Ag p.fPass) s18 C0 rfl ?_))
 have z20 := Ig z17t4 p.fPass
 refine Cg s18 rfl (.cons (.own (by decide) (.here)) (.cons .ro .nil)) (Acs n (by omega) z17t4 p.fPass (by omega) hb2) (Da (C7 z17t4 p.fPass)) fun x21 H lx21 s22 => Ai (Dm s22 (.here)) ?_
 have e : Dc p z17t4 = (C7 z17t4 p.fPass) := by
  (simp only [Fc, Gy, E9, D4, Dc, Eb, h19, if_true, if_false, zaa]; done)
 rw [e]
 refine Ax h19 (Ai (Dm s18 (.here)) ?_)
 have e : Dc p z17t4 = z17t4 := by
  (simp only [Fc, Gy, E9, D4, Dc, Eb, h19, if_true, if_false, zaa]; done)
 rw [e]
 refine Aa (p.fHasUser) (fun h23 => ?_) (fun h23 => ?_)
 refine As h23 (Ab (o' := 17) rfl (Ap (c := ss p.fUser) s16 C0 rfl ?_))
 have z24 := Cv z15t4 p.fUser
 refine Cg s16 rfl (.cons (.own (by decide) (.here)) (.cons .sc .nil)) (K6 n (by omega) z15t4 p.fUser (by omega) hp.t4) (Da (An z15t4 p.fUser)) fun x25 H lx25 s26 => ?_
 have e27 : Dc p (D4 p z15t4) = Dc p (An z15t4 p.fUser) := by
  (simp only [Fc, Gy, E9, D4, Dc, Eb, h23, if_true, if_false, zaa]; done)
 rw [e27]
 exact hj17 x25 (An z15t4 p.fUser)  _ lx25 (by omega) (s26.sel (.cons (.here) (.cons C0 .nil)))
 refine Ax h23 ?_
 have e28 : Dc p (D4 p z15t4) = Dc p z15t4 := by
  (simp only [Fc, Gy, E9, D4, Dc, Eb, h23, if_true, if_false, zaa]; done)
 rw [e28]
 exact hj17 x15 z15t4  _ lx15 (by omega) (s16.sel (.cons (.here) (.cons (.here) .nil)))
 refine Aa (p.fHasWill) (fun h29 => ?_) (fun h29 => ?_)
 refine As h29 (Ab (o' := 12) rfl (Ap (c := ss p.fWTopic) s14 Mv rfl (Ab (o' := 13) rfl (Ap (c := Ag p.fWBody) s14 Mv rfl ?_))))
 have z30 := Cv (An (Ao z8t4 p.fKeep) p.fClient) p.fWTopic
 refine Cg s14 rfl (.cons (.own (by decide) (.here)) (.cons .sc .nil)) (K6 n (by omega) (An (Ao z8t4 p.fKeep) p.fClient) p.fWTopic (by omega) hp.t3) (Da (An (An (Ao z8t4 p.fKeep) p.fClient) p.fWTopic)) fun x31 H lx31 s32 => ?_
 have z33 := Ig (An (An (Ao z8t4 p.fKeep) p.fClient) p.fWTopic) p.fWBody
 refine Cg s32 rfl (.cons (.own (by decide) (.here)) (.cons .ro .nil)) (Acs n (by omega) (An (An (Ao z8t4 p.fKeep) p.fClient) p.fWTopic) p.fWBody (by omega) hb1) (Da (C7 (An (An (Ao z8t4 p.fKeep) p.fClient) p.fWTopic) p.fWBody)) fun x34 H lx34 s35 => ?_
 have e36 : Dc p (D4 p (E9 p (An (Ao z8t4 p.fKeep) p.fClient))) = Dc p (D4 p (C7 (An (An (Ao z8t4 p.fKeep) p.fClient) p.fWTopic) p.fWBody)) := by
  (simp only [Fc, Gy, E9, D4, Dc, Eb, h29, if_true, if_false, zaa]; done)
 rw [e36]
 exact hj15 x34 (C7 (An (An (Ao z8t4 p.fKeep) p.fClient) p.fWTopic) p.fWBody)  _ lx34 (by omega) (s35.sel (.cons (.here) (.cons Mw .nil)))
 refine Ax h29 ?_
 have e37 : Dc p (D4 p (E9 p (An (Ao z8t4 p.fKeep) p.fClient))) = Dc p (D4 p (An (Ao z8t4 p.fKeep) p.fClient)) := by
  (simp only [Fc, Gy, E9, D4, Dc, Eb, h29, if_true, if_false, zaa]; done)
 rw [e37]
 exact hj15 x13 (An (Ao z8t4 p.fKeep) p.fClient)  _ lx13 (by omega) (s14.sel (.cons (.here) (.cons Dj .nil)))
 refine Gd.bothE ?_ ?_
 have z38 := Cv bs0 mqtt
 simp only [Ay, Aw, Bj, zak] at z38
 refine Cg s2 rfl (.cons .nl (.cons .sc .nil)) (K6 n (by omega) bs0 mqtt (by (simp only [Ay, Aw, Bj, zak]; omega)) (by decide)) (Da (An bs0 mqtt)) fun x39 H lx39 s40 => Bg (cs := [.sc (.int .u8 (p.fLevel % 256)), .sc (.int .u8 (((((((Bb p.fClean 2) + (Bb p.fHasWill 4)) + (8 * p.fWQos)) + (Bb p.fWRetain 32)) + (Bb p.fHasPass 64)) + (Bb p.fHasUser 128)) % 256))]) rfl (Co s40 fun i41 H s42 => Ub (s := (An bs0 mqtt)) (z := (p.fLevel % 256)) (w := (((((((Bb p.fClean 2) + (Bb p.fHasWill 4)) + (8 * p.fWQos)) + (Bb p.fWRetain 32)) + (Bb p.fHasPass 64)) + (Bb p.fHasUser 128)) % 256)) s42 C0 (.here) ⟨_, _, rfl, rfl, rfl, rfl⟩ (by omega) fun x43 H lx43 s44 => ?_)
 have e45 : Fc p = Dc p (D4 p (E9 p (An (Ao (A9 (A9 (An bs0 mqtt) (p.fLevel % 256)) (((((((Bb p.fClean 2) + (Bb p.fHasWill 4)) + (8 * p.fWQos)) + (Bb p.fWRetain 32)) + (Bb p.fHasPass 64)) + (Bb p.fHasUser 128)) % 256)) p.fKeep) p.fClient))) := by
  rfl
 rw [e45]
 exact hj8 x43 (A9 (A9 (An bs0 mqtt) (p.fLevel % 256)) (((((((Bb p.fClean 2) + (Bb p.fHasWill 4)) + (8 * p.fWQos)) + (Bb p.fWRetain 32)) + (Bb p.fHasPass 64)) + (Bb p.fHasUser 128)) % 256))  _ lx43 (by (simp only [Ay, Aw, Bj, zak]; omega)) (s44.sel (.cons (.here) (.cons (.here) .nil)))
 refine Bg (cs := [su (p.fLevel % 256), .sc (.int .u8 (((((((Bb p.fClean 2) + (Bb p.fHasWill 4)) + (8 * p.fWQos)) + (Bb p.fWRetain 32)) + (Bb p.fHasPass 64)) + (Bb p.fHasUser 128)) % 256))]) rfl (Co s2 fun i46 H s47 => ?_)
 have z48 := Cv bs0 mqtt
 simp only [Ay, Aw, Bj, zak] at z48
 refine Cg s47 rfl (.cons .nl (.cons .sc .nil)) (K6 n (by omega) bs0 mqtt (by (simp only [Ay, Aw, Bj, zak]; omega)) (by decide)) (Da (An bs0 mqtt)) fun x49 H lx49 s50 => Ub (s := (An bs0 mqtt)) (z := (p.fLevel % 256)) (w := (((((((Bb p.fClean 2) + (Bb p.fHasWill 4)) + (8 * p.fWQos)) + (Bb p.fWRetain 32)) + (Bb p.fHasPass 64)) + (Bb p.fHasUser 128)) % 256)) s50 (.here) (.here) ⟨_, _, rfl, rfl, rfl, rfl⟩ (by omega) fun x51 H lx51 s52 => ?_
 have e53 : Fc p = Dc p (D4 p (E9 p (An (Ao (A9 (A9 (An bs0 mqtt) (p.fLevel % 256)) (((((((Bb p.fClean 2) + (Bb p.fHasWill 4)) + (8 * p.fWQos)) + (Bb p.fWRetain 32)) + (Bb p.fHasPass 64)) + (Bb p.fHasUser 128)) % 256)) p.fKeep) p.fClient))) := by
  rfl
 rw [e53]
 exact hj8 x51 (A9 (A9 (An bs0 mqtt) (p.fLevel % 256)) (((((((Bb p.fClean 2) + (Bb p.fHasWill 4)) + (8 * p.fWQos)) + (Bb p.fWRetain 32)) + (Bb p.fHasPass 64)) + (Bb p.fHasUser 128)) % 256))  _ lx51 (by (simp only [Ay, Aw, Bj, zak]; omega)) (s52.sel (.cons (.here) (.cons (.here) .nil)))
theorem Abx (n : Nat) (hn : 1048576 < n) (p : PacketV) (ht : 1 ≤ p.fType ∧ p.fType ≤ 14) (hq : 0 ≤ p.fQos ∧ p.fQos ≤ 2) : Dd E0 (n + 3) 3 113 [.agg (Ar p)] = some (.sc (.int .i64 (C4 p))) := by
 rw [Bd, Ahz, f113]
 refine C6 (G := (· = some (si (C4 p)))) ?_
 try simp only [Gw, B6, Ba, A4, Av]
 have s0 : Sep [] [] := Cx
 refine Od s0 (G6 (Cy _)) fun i1 H s2 => Ab (o' := 0) rfl (Ap (c := si p.fType) s2 (.here) rfl (Rh (by omega) (by omega) (Ab (o' := 0) rfl (Ap (c := si p.fType) s2 (.here) rfl (Be (Aa ((decide (p.fType = 3))) (fun h3 => ?_) (fun h3 => ?_)))))))
 refine As h3 (Ab (o' := 1) rfl (Ap (c := sb p.fDup) s2 (.here) rfl (Ab (o' := 2) rfl (Ap (c := si p.fQos) s2 (.here) rfl (Rh (by omega) (by omega) (Ab (o' := 3) rfl (Ap (c := sb p.fRetain) s2 (.here) rfl ?_)))))))
 have q4 := G3 p.fDup 8 (by decide)
 refine Aq (v := (.int .i64 (Bb p.fDup 8))) s2 rfl (Ir .nil) (Zu (n + 1) p.fDup 8) (B9 (by omega) (by omega) ?_)
 have q5 := G3 p.fRetain 1 (by decide)
 refine Aq (v := (.int .i64 (Bb p.fRetain 1))) s2 rfl (Ir .nil) (Zu (n + 1) p.fRetain 1) (B9 (by omega) (by omega) (B9 (by omega) (by omega) (Ai rfl ?_)))
 have e : C4 p = ((16 * p.fType) + (((Bb p.fDup 8) + (2 * p.fQos)) + (Bb p.fRetain 1))) := by
  clear s0 s2
  simp only [Cm] at h3
  unfold C4; (repeat' split) <;> omega
 rw [e]
 refine Ax h3 (Be (Di (Aa ((decide (p.fType = 6))) (fun h6 => ?_) (fun h6 => ?_))))
 refine As h6 (As h6 (B9 (by omega) (by omega) (Ai rfl ?_)))
 have e : C4 p = ((16 * p.fType) + 2) := by
  clear s0 s2
  simp only [Cm] at h3 h6
  unfold C4; (repeat' split) <;> omega
 rw [e]
 refine Ax h6 (Be (Aa ((decide (p.fType = 8))) (fun h7 => ?_) (fun h7 => ?_)))
 refine As h7 (As h7 (B9 (by omega) (by omega) (Ai rfl ?_)))
 have e : C4 p = ((16 * p.fType) + 2) := by
  clear s0 s2
  simp only [Cm] at h3 h6 h7
  unfold C4; (repeat' split) <;> omega
 rw [e]
 refine Ax h7 (Be (Aa ((decide (p.fType = 10))) (fun h8 => ?_) (fun h8 => ?_)))
 refine As h8 (B9 (by omega) (by omega) (Ai rfl ?_))
 have e : C4 p = ((16 * p.fType) + 2) := by
  clear s0 s2
  simp only [Cm] at h3 h6 h7 h8
  unfold C4; (repeat' split) <;> omega
 rw [e]
 refine Ax h8 (Ai rfl ?_)
 have e : C4 p = (16 * p.fType) := by
  clear s0 s2
  simp only [Cm] at h3 h6 h7 h8
  unfold C4; (repeat' split) <;> omega
 rw [e]
theorem Vm (n : Nat) (hn : 1048576 < n) (p : PacketV) (hp : Hd p) (hb1 : p.fWBody.size ≤ 1048576) (hb2 : p.fPass.size ≤ 1048576) (hb3 : p.fBody.size ≤ 1048576) (hq : 0 ≤ p.fWQos ∧ p.fWQos ≤ 2) (h3 : (decide (p.fType = 1)) = false) (h6 : (decide (p.fType = 2)) = false) (h11 : (decide (p.fType = 3)) = false) (h26 : (decide (p.fType = 12)) = false) (h28 : (decide (p.fType = 13)) = false) (h30 : (decide (p.fType = 14)) = false)  : ∀ (t pre : List ByteArray) (m : Nat) (i : Int) (a0 : AV) (H : Ad), p.fNames = pre ++ t → i = ((pre.length : Nat) : Int) → t.length < m → Bn a0 = true → Sep H [.own a0 22 (Ag (Fi (Ds (Bo (Ao bs0 p.fId) p.fWants) p.fCodes) pre))] → Gd (· = some (Ag (Db p))) (Nq (PR (n + 7) AV) (n + 7) (fun x H => Bf Au E0.tp 22 H x) m (a0) (En p.fNames) (.sc (.int .i64 ((p.fNames.length : Nat) : Int))) (.sc (.int .i64 i)) H)
 | [], pre, m + 1, i, a0, H, he, hi, hm, la0, s0 => by
  obtain rfl : pre = p.fNames := by simpa using he.symm
  have hl1 := hp.l1
  have hl2 := hp.l2
  have hl3 := hp.l3
  have zl1 := E1 p.fWants (Ao bs0 p.fId)
  have zl2 := Ez p.fCodes (Bo (Ao bs0 p.fId) p.fWants)
  have zl0 := Lk p.fNames (Ds (Bo (Ao bs0 p.fId) p.fWants) p.fCodes)
  simp only [Aw, Bj] at zl1
  rw [Nq]
  try simp only [Ba, A4, Av, Bu]
  refine Dw (Ax (by simp [hi]) (Ai (Dm s0 (.here)) ?_))
  have e : Db p = (Fi (Ds (Bo (Ao bs0 p.fId) p.fWants) p.fCodes) p.fNames) := by
   simp only [Cm] at h3 h6 h11 h26 h28 h30
   (simp only [Db, H8, G1, h3, h6, h11, h26, h28, h30, if_true, if_false, zaa]; rfl)
  rw [e]
 | y :: t, pre, m + 1, i, a0, H, he, hi, hm, la0, s0 => by
  have hlt : pre.length < p.fNames.length := by rw [he]; simp
  have hl1 := hp.l1
  have hl2 := hp.l2
  have hl3 := hp.l3
  have zl1 := E1 p.fWants (Ao bs0 p.fId)
  have zl2 := Ez p.fCodes (Bo (Ao bs0 p.fId) p.fWants)
  have zl0 := Lk pre (Ds (Bo (Ao bs0 p.fId) p.fWants) p.fCodes)
  simp only [Aw, Bj] at zl1
  rw [Nq]
  try simp only [Ba, A4, Av, Bu]
  refine Dw (As (by simp [hi]; omega) (Nc hi he (Fg (c := .sc (.string y)) rfl ?_)))
  have z201 := Cv (Fi (Ds (Bo (Ao bs0 p.fId) p.fWants) p.fCodes) pre) y
  refine Cg s0 rfl (.cons (.own (by decide) (.here)) (.cons .sc .nil)) (K6 (n + 1) (by omega) (Fi (Ds (Bo (Ao bs0 p.fId) p.fWants) p.fCodes) pre) y (by omega) (hp.w2 y (by rw [he]; simp))) (Da (An (Fi (Ds (Bo (Ao bs0 p.fId) p.fWants) p.fCodes) pre) y)) fun x202 H lx202 s203 => B9 (by omega) (by omega) ?_
  have e204 : (Fi (Ds (Bo (Ao bs0 p.fId) p.fWants) p.fCodes) (pre ++ [y])) = (An (Fi (Ds (Bo (Ao bs0 p.fId) p.fWants) p.fCodes) pre) y) := by
   try simp only [bne_iff_ne, beq_iff_eq, beq_eq_false_iff_ne, Cm] at h3 h6 h11 h26 h28 h30
   simp only [Fi, zbg, zbc, zby, h3, h6, h11, h26, h28, h30, if_true, if_false, zaa]
  exact Vm n hn p hp hb1 hb2 hb3 hq h3 h6 h11 h26 h28 h30  t (pre ++ [y]) m _ x202 _ (by rw [he]; simp) (by rw [hi]; simp) (by simpa using hm) lx202 (by rw [e204]; exact (s203.sel (.cons (.here) .nil)))
theorem Vl (n : Nat) (hn : 1048576 < n) (p : PacketV) (hp : Hd p) (hb1 : p.fWBody.size ≤ 1048576) (hb2 : p.fPass.size ≤ 1048576) (hb3 : p.fBody.size ≤ 1048576) (hq : 0 ≤ p.fWQos ∧ p.fWQos ≤ 2) (h3 : (decide (p.fType = 1)) = false) (h6 : (decide (p.fType = 2)) = false) (h11 : (decide (p.fType = 3)) = false) (h26 : (decide (p.fType = 12)) = false) (h28 : (decide (p.fType = 13)) = false) (h30 : (decide (p.fType = 14)) = false)  : ∀ (t pre : List Int) (m : Nat) (i : Int) (i1 : Nat) (a1 : AV) (H : Ad), p.fCodes = pre ++ t → i = ((pre.length : Nat) : Int) → t.length < m → Bn a1 = true → Sep H [.own a1 22 (Ag (Ds (Bo (Ao bs0 p.fId) p.fWants) pre)), .blk i1 (Ar p) true] → Gd (· = some (Ag (Db p))) (K4 (PR (n + 7) AV) (n + 7) (fun x H => Bf Au E0.tp 22 H x) m (.ptr i1 0) (a1) (El p.fCodes) (.sc (.int .i64 ((p.fCodes.length : Nat) : Int))) (.sc (.int .i64 i)) H)
 | [], pre, m + 1, i, i1, a1, H, he, hi, hm, la1, s0 => by
  obtain rfl : pre = p.fCodes := by simpa using he.symm
  have hl1 := hp.l1
  have hl2 := hp.l2
  have hl3 := hp.l3
  have zl1 := E1 p.fWants (Ao bs0 p.fId)
  have zl2 := Ez p.fCodes (Bo (Ao bs0 p.fId) p.fWants)
  have zl0 := Ez p.fCodes (Bo (Ao bs0 p.fId) p.fWants)
  simp only [Aw, Bj] at zl1
  rw [K4]
  try simp only [Cq, B6, Ba, A4, Av, B5, Bu, Ct, Du, Dh]
  refine Dw (Ax (by simp [hi]) (Ab (o' := 23) rfl (Ap (c := En p.fNames) s0 C0 rfl (Cz ?_))))
  have s201 : Sep _ [.own a1 22 (Ag (Fi (Ds (Bo (Ao bs0 p.fId) p.fWants) p.fCodes) []))] := s0.sel (.cons (.here) .nil)
  exact Vm n hn p hp hb1 hb2 hb3 hq h3 h6 h11 h26 h28 h30  p.fNames [] _ 0 a1 _ rfl rfl (by omega) la1 s201
 | y :: t, pre, m + 1, i, i1, a1, H, he, hi, hm, la1, s0 => by
  have hlt : pre.length < p.fCodes.length := by rw [he]; simp
  have hl1 := hp.l1
  have hl2 := hp.l2
  have hl3 := hp.l3
  have zl1 := E1 p.fWants (Ao bs0 p.fId)
  have zl2 := Ez p.fCodes (Bo (Ao bs0 p.fId) p.fWants)
  have zl0 := Ez pre (Bo (Ao bs0 p.fId) p.fWants)
  simp only [Aw, Bj] at zl1
  rw [K4]
  try simp only [Cq, B6, Ba, A4, Av, B5, Bu, Ct, Du, Dh]
  refine Dw (As (by simp [hi]; omega) (J9 hi he (Fg (c := .sc (.int .i64 y)) rfl (Fy (IntKind.wrap_u8 _) (Bg (cs := [.sc (.int .u8 (y % 256))]) rfl (Co s0 fun i201 H s202 => Ff (s := (Ds (Bo (Ao bs0 p.fId) p.fWants) pre)) (z := (y % 256)) s202 C0 (.here) ⟨_, _, rfl, rfl, rfl, rfl⟩ rfl (by omega) fun x203 H lx203 s204 => B9 (by omega) (by omega) ?_))))))
  have e205 : (Ds (Bo (Ao bs0 p.fId) p.fWants) (pre ++ [y])) = (A9 (Ds (Bo (Ao bs0 p.fId) p.fWants) pre) (y % 256)) := by
   try simp only [bne_iff_ne, beq_iff_eq, beq_eq_false_iff_ne, Cm] at h3 h6 h11 h26 h28 h30
   simp only [Ds, zbg, zbc, zby, h3, h6, h11, h26, h28, h30, if_true, if_false, zaa]
  exact Vl n hn p hp hb1 hb2 hb3 hq h3 h6 h11 h26 h28 h30  t (pre ++ [y]) m _ i1 x203 _ (by rw [he]; simp) (by rw [hi]; simp) (by simpa using hm) lx203 (by rw [e205]; exact (s204.sel (.cons (.here) (.cons (.here) .nil))))
theorem Qs (n : Nat) (hn : 1048576 < n) (p : PacketV) (hp : Hd p) (hb1 : p.fWBody.size ≤ 1048576) (hb2 : p.fPass.size ≤ 1048576) (hb3 : p.fBody.size ≤ 1048576) (hq : 0 ≤ p.fWQos ∧ p.fWQos ≤ 2) (h3 : (decide (p.fType = 1)) = false) (h6 : (decide (p.fType = 2)) = false) (h11 : (decide (p.fType = 3)) = false) (h26 : (decide (p.fType = 12)) = false) (h28 : (decide (p.fType = 13)) = false) (h30 : (decide (p.fType = 14)) = false)  : ∀ (t pre : List WantV) (m : Nat) (i : Int) (i1 : Nat) (a1 : AV) (H : Ad), p.fWants = pre ++ t → i = ((pre.length : Nat) : Int) → t.length < m → Bn a1 = true → Sep H [.own a1 22 (Ag (Bo (Ao bs0 p.fId) pre)), .blk i1 (Ar p) true] → Gd (· = some (Ag (Db p))) (K3 (PR (n + 7) AV) (n + 7) (fun x H => Bf Au E0.tp 22 H x) m (.ptr i1 0) (a1) (C5 Bw p.fWants) (.sc (.int .i64 ((p.fWants.length : Nat) : Int))) (.sc (.int .i64 i)) H)
 | [], pre, m + 1, i, i1, a1, H, he, hi, hm, la1, s0 => by
  obtain rfl : pre = p.fWants := by simpa using he.symm
  have hl1 := hp.l1
  have hl2 := hp.l2
  have hl3 := hp.l3
  have zl1 := E1 p.fWants (Ao bs0 p.fId)
  have zl2 := Ez p.fCodes (Bo (Ao bs0 p.fId) p.fWants)
  have zl0 := E1 p.fWants (Ao bs0 p.fId)
  simp only [Aw, Bj] at zl1
  simp only [Aw, Bj] at zl0
  rw [K3]
  try simp only [F8, Cq, B6, Ba, D9, A4, Av, B5, Bu, Ct, Du, Dh]
  refine Dw (Ax (by simp [hi]) (Ab (o' := 24) rfl (Ap (c := El p.fCodes) s0 C0 rfl (Cz ?_))))
  have s201 : Sep _ [.own a1 22 (Ag (Ds (Bo (Ao bs0 p.fId) p.fWants) [])), .blk i1 (Ar p) true] := s0.sel (.cons (.here) (.cons (.here) .nil))
  exact Vl n hn p hp hb1 hb2 hb3 hq h3 h6 h11 h26 h28 h30  p.fCodes [] _ 0 i1 a1 _ rfl rfl (by omega) la1 s201
 | y :: t, pre, m + 1, i, i1, a1, H, he, hi, hm, la1, s0 => by
  have hlt : pre.length < p.fWants.length := by rw [he]; simp
  have hl1 := hp.l1
  have hl2 := hp.l2
  have hl3 := hp.l3
  have zl1 := E1 p.fWants (Ao bs0 p.fId)
  have zl2 := Ez p.fCodes (Bo (Ao bs0 p.fId) p.fWants)
  have zl0 := E1 pre (Ao bs0 p.fId)
  simp only [Aw, Bj] at zl1
  simp only [Aw, Bj] at zl0
  rw [K3]
  try simp only [F8, Cq, B6, Ba, D9, A4, Av, B5, Bu, Ct, Du, Dh]
  refine Dw (As (by simp [hi]; omega) (Mp hi Gu (by decide) he (AjA (Gu _) (I6 s0 fun i201 H s202 => Ci (cs' := Bw y) s202 (.here) (G6 (Vj _)) rfl (Cn rfl) rfl fun H s203 => Ab (o' := 0) rfl (Ap (c := .sc (.string y.fFilter)) s203 (.here) rfl (Ab (o' := 1) rfl (Ap (c := .sc (.int .i64 y.fQos)) s203 (.here) rfl (Fy (IntKind.wrap_u8 _) (Di (Gd.bothE ?_ ?_))))))))))
  have z204 := Cv (Bo (Ao bs0 p.fId) pre) y.fFilter
  refine Cg s203 rfl (.cons (.own (by decide) C0) (.cons .sc .nil)) (K6 (n + 1) (by omega) (Bo (Ao bs0 p.fId) pre) y.fFilter (by omega) (hp.w1 y (by rw [he]; simp))) (Da (An (Bo (Ao bs0 p.fId) pre) y.fFilter)) fun x205 H lx205 s206 => Bg (cs := [.sc (.int .u8 (y.fQos % 256))]) rfl (Co s206 fun i207 H s208 => Ff (s := (An (Bo (Ao bs0 p.fId) pre) y.fFilter)) (z := (y.fQos % 256)) s208 C0 (.here) ⟨_, _, rfl, rfl, rfl, rfl⟩ rfl (by omega) fun x209 H lx209 s210 => B9 (by omega) (by omega) ?_)
  have e211 : (Bo (Ao bs0 p.fId) (pre ++ [y])) = (A9 (An (Bo (Ao bs0 p.fId) pre) y.fFilter) (y.fQos % 256)) := by
   try simp only [bne_iff_ne, beq_iff_eq, beq_eq_false_iff_ne, Cm] at h3 h6 h11 h26 h28 h30
   simp only [Bo, zbg, zbc, zby, h3, h6, h11, h26, h28, h30, if_true, if_false, zaa]
  exact Qs n hn p hp hb1 hb2 hb3 hq h3 h6 h11 h26 h28 h30  t (pre ++ [y]) m _ i1 x209 _ (by rw [he]; simp) (by rw [hi]; simp) (by simpa using hm) lx209 (by rw [e211]; exact (s210.sel (.cons (.here) (.cons Dj .nil))))
  refine Bg (cs := [su (y.fQos % 256)]) rfl (Co s203 fun i212 H s213 => ?_)
  have z214 := Cv (Bo (Ao bs0 p.fId) pre) y.fFilter
  refine Cg s213 rfl (.cons (.own (by decide) Dj) (.cons .sc .nil)) (K6 (n + 1) (by omega) (Bo (Ao bs0 p.fId) pre) y.fFilter (by omega) (hp.w1 y (by rw [he]; simp))) (Da (An (Bo (Ao bs0 p.fId) pre) y.fFilter)) fun x215 H lx215 s216 => Ff (s := (An (Bo (Ao bs0 p.fId) pre) y.fFilter)) (z := (y.fQos % 256)) s216 (.here) (.here) ⟨_, _, rfl, rfl, rfl, rfl⟩ rfl (by omega) fun x217 H lx217 s218 => B9 (by omega) (by omega) ?_
  have e219 : (Bo (Ao bs0 p.fId) (pre ++ [y])) = (A9 (An (Bo (Ao bs0 p.fId) pre) y.fFilter) (y.fQos % 256)) := by
   try simp only [bne_iff_ne, beq_iff_eq, beq_eq_false_iff_ne, Cm] at h3 h6 h11 h26 h28 h30
   simp only [Bo, zbg, zbc, zby, h3, h6, h11, h26, h28, h30, if_true, if_false, zaa]
  exact Qs n hn p hp hb1 hb2 hb3 hq h3 h6 h11 h26 h28 h30  t (pre ++ [y]) m _ i1 x217 _ (by rw [he]; simp) (by rw [hi]; simp) (by simpa using hm) lx217 (by rw [e219]; exact (s218.sel (.cons (.here) (.cons Dj .nil))))
theorem Aim (n : Nat) (hn : 1048576 < n) (p : PacketV) (hp : Hd p) (hb1 : p.fWBody.size ≤ 1048576) (hb2 : p.fPass.size ≤ 1048576) (hb3 : p.fBody.size ≤ 1048576) (hq : 0 ≤ p.fWQos ∧ p.fWQos ≤ 2) : Dd E0 (n + 8) 22 111 [.agg (Ar p)] = some (Ag (Db p)) := by
 rw [Bd, Ahx, f111]
 refine C6 (G := (· = some (Ag (Db p)))) ?_
 have hl1 := hp.l1
 have hl2 := hp.l2
 have hl3 := hp.l3
 try simp only [Gw, Cq, B6, Ba, A4, Av, B5, Ct, Dh]
 have s0 : Sep [] [] := Cx
 refine Od s0 (G6 (Cy _)) fun i1 H s2 => Ab (o' := 0) rfl (Ap (c := si p.fType) s2 (.here) rfl (Be (Di (Aa ((decide (p.fType = 1))) (fun h3 => ?_) (fun h3 => ?_)))))
 refine As h3 (At s2 (.here) rfl (Cg s2 rfl (.aggF (Cy _) .nil) (AaV n (by omega) p hp hb1 hb2 hq) (Da (Fc p)) fun x4 H lx4 s5 => Ai (Dm s5 (.here)) ?_))
 have e : Db p = (Fc p) := by
  simp only [Cm] at h3
  (simp only [Db, H8, G1, h3, if_true, if_false, zaa]; done)
 rw [e]
 refine Ax h3 (Be (Aa ((decide (p.fType = 2))) (fun h6 => ?_) (fun h6 => ?_)))
 refine As h6 (Ab (o' := 21) rfl (Ap (c := sb p.fPresent) s2 (.here) rfl (Ab (o' := 20) rfl (Ap (c := si p.fCode) s2 (.here) rfl (Fy (IntKind.wrap_u8 _) ?_)))))
 have q7 := G3 p.fPresent 1 (by decide)
 refine Aq (v := (.int .i64 (Bb p.fPresent 1))) s2 rfl (Ir .nil) (Zu (n + 6) p.fPresent 1) (Fy (IntKind.wrap_u8 _) (Bg (cs := [su ((Bb p.fPresent 1) % 256), su (p.fCode % 256)]) rfl (Co s2 fun i8 H s9 => ?_)))
 have s10 := s9.closeB2 (.here) (by omega)
 refine Ai (Dm s10 (.here)) ?_
 have e : Db p = (A9 (A9 bs0 ((Bb p.fPresent 1) % 256)) (p.fCode % 256)) := by
  simp only [Cm] at h3 h6
  (simp only [Db, H8, G1, h3, h6, if_true, if_false, zaa]; rfl)
 rw [e]
 refine Ax h6 (Be (Aa ((decide (p.fType = 3))) (fun h11 => ?_) (fun h11 => ?_)))
 refine As h11 (Ab (o' := 5) rfl (Ap (c := ss p.fTopic) s2 (.here) rfl ?_))
 have z12 := Cv bs0 p.fTopic
 simp only [Ay, Aw, Bj, zak] at z12
 refine Cg s2 rfl (.cons .nl (.cons .sc .nil)) (K6 (n + 1) (by omega) bs0 p.fTopic (by (simp only [Ay, Aw, Bj, zak]; omega)) hp.t1) (Da (An bs0 p.fTopic)) fun x13 H lx13 s14 => Ab (o' := 2) rfl (Ap (c := .sc (.int .i64 p.fQos)) s14 C0 rfl (Er (Di (Aa ((decide (0 < p.fQos))) (fun h15 => ?_) (fun h15 => ?_)))))
 refine As h15 (Ab (o' := 4) rfl (Ap (c := .sc (.int .i64 p.fId)) s14 C0 rfl (Cg s14 rfl (.cons (.own (by decide) (.here)) (.cons .sc .nil)) (Ri (n + 2) (by omega) (An bs0 p.fTopic) p.fId (by omega)) (Da (Ao (An bs0 p.fTopic) p.fId)) fun x16 H lx16 s17 => Ab (o' := 6) rfl (Ap (c := Ag p.fBody) s17 Dj rfl (Bg (cs := [x16, Ag p.fBody]) (Ko (z' := [x16, .nl]) (Eh lx16) rfl (Cn rfl) rfl (Ko (z' := [x16, Ag p.fBody]) (Eh rfl) rfl (Cn rfl) rfl (rfl))) (Co s17 fun i18 H s19 => Cg s19 rfl (.sl (.here) rfl (.cons (.own (by decide) C0) (.cons .ro .nil)) .nil) (M6 (n + 3) (by omega) (Ao (An bs0 p.fTopic) p.fId) p.fBody (by (simp only [Ay, Aw, Bj, zak]; omega))) (Da ((Ao (An bs0 p.fTopic) p.fId) ++ p.fBody)) fun x20 H lx20 s21 => Ai (Dm s21 (.here)) ?_))))))
 have e : Db p = ((Ao (An bs0 p.fTopic) p.fId) ++ p.fBody) := by
  simp only [Cm] at h3 h6 h11 h15
  (simp only [Db, H8, G1, h3, h6, h11, h15, if_true, if_false, zaa]; rfl)
 rw [e]
 refine Ax h15 (Ab (o' := 6) rfl (Ap (c := Ag p.fBody) s14 C0 rfl (Bg (cs := [x13, Ag p.fBody]) (Ko (z' := [x13, .nl]) (Eh lx13) rfl (Cn rfl) rfl (Ko (z' := [x13, Ag p.fBody]) (Eh rfl) rfl (Cn rfl) rfl (rfl))) (Co s14 fun i22 H s23 => Cg s23 rfl (.sl (.here) rfl (.cons (.own (by decide) C0) (.cons .ro .nil)) .nil) (M6 (n + 3) (by omega) (An bs0 p.fTopic) p.fBody (by omega)) (Da ((An bs0 p.fTopic) ++ p.fBody)) fun x24 H lx24 s25 => Ai (Dm s25 (.here)) ?_))))
 have e : Db p = ((An bs0 p.fTopic) ++ p.fBody) := by
  simp only [Cm] at h3 h6 h11 h15
  (simp only [Db, H8, G1, h3, h6, h11, h15, if_true, if_false, zaa]; rfl)
 rw [e]
 refine Ax h11 (Be (Di (Aa ((decide (p.fType = 12))) (fun h26 => ?_) (fun h26 => ?_))))
 refine As h26 (As h26 ?_)
 have s27 := s2.nl (ty := 22) ⟨_, _, rfl, rfl⟩
 refine Ai (Dm s27 .here) ?_
 have e : Db p = bs0 := by
  simp only [Cm] at h3 h6 h11 h26
  (simp only [Db, H8, G1, h3, h6, h11, h26, if_true, if_false, zaa]; rfl)
 rw [e]
 rfl
 refine Ax h26 (Be (Aa ((decide (p.fType = 13))) (fun h28 => ?_) (fun h28 => ?_)))
 refine As h28 (As h28 ?_)
 have s29 := s2.nl (ty := 22) ⟨_, _, rfl, rfl⟩
 refine Ai (Dm s29 .here) ?_
 have e : Db p = bs0 := by
  simp only [Cm] at h3 h6 h11 h26 h28
  (simp only [Db, H8, G1, h3, h6, h11, h26, h28, if_true, if_false, zaa]; rfl)
 rw [e]
 rfl
 refine Ax h28 (Be (Aa ((decide (p.fType = 14))) (fun h30 => ?_) (fun h30 => ?_)))
 refine As h30 ?_
 have s31 := s2.nl (ty := 22) ⟨_, _, rfl, rfl⟩
 refine Ai (Dm s31 .here) ?_
 have e : Db p = bs0 := by
  simp only [Cm] at h3 h6 h11 h26 h28 h30
  (simp only [Db, H8, G1, h3, h6, h11, h26, h28, h30, if_true, if_false, zaa]; rfl)
 rw [e]
 rfl
 refine Ax h30 (Ab (o' := 4) rfl (Ap (c := .sc (.int .i64 p.fId)) s2 (.here) rfl (Cg s2 rfl (.cons .nl (.cons .sc .nil)) (Ri (n + 2) (by omega) bs0 p.fId (by (simp only [Ay, Aw, Bj, zak]; omega))) (Da (Ao bs0 p.fId)) fun x32 H lx32 s33 => Ab (o' := 22) rfl (Ap (c := C5 Bw p.fWants) s33 C0 rfl (Cz ?_)))))
 have s34 : Sep _ [.own x32 22 (Ag (Bo (Ao bs0 p.fId) [])), .blk i1 (Ar p) true] := s33.sel (.cons (.here) (.cons (.here) .nil))
 exact Qs n hn p hp hb1 hb2 hb3 hq h3 h6 h11 h26 h28 h30  p.fWants [] _ 0 i1 x32 _ rfl rfl (by omega) lx32 s34
theorem AgP (p : PacketV) (hp : Hd p) (hb3 : p.fBody.size ≤ 1048576) : (Db p).size ≤ 137438953472 := by
 have hl1 := hp.l1
 have hl2 := hp.l2
 have hl3 := hp.l3
 have z1 := E1 p.fWants (Ao bs0 p.fId)
 have z2 := Ez p.fCodes (Bo (Ao bs0 p.fId) p.fWants)
 have z3 := Lk p.fNames (Ds (Bo (Ao bs0 p.fId) p.fWants) p.fCodes)
 have z4 := Cv bs0 p.fTopic
 have b1 : (Fc p).size ≤ 1000 := by
  have c3 : ∀ b, (Dc p b).size ≤ b.size + 62 := fun b => by
   unfold Dc
   split
   exact Ig _ _
   omega
  have c2 : ∀ b, (D4 p b).size ≤ b.size + 62 := fun b => by
   unfold D4
   split
   exact Cv _ _
   omega
  have c1 : ∀ b, (E9 p b).size ≤ b.size + 124 := fun b => by
   unfold E9
   split
   have d1 := Ig (An b p.fWTopic) p.fWBody
   have d2 := Cv b p.fWTopic
   omega
   omega
  have c0 : (Gy p).size ≤ 200 := by
   unfold Gy
   have d1 := Cv (Ao (A9 (A9 (An bs0 mqtt) (p.fLevel % 256)) (Eb p % 256)) p.fKeep) p.fClient
   have d2 := Cv bs0 mqtt
   simp only [Aw, Ay, Bj] at d1 d2
   omega
  have e1 := c1 (Gy p)
  have e2 := c2 (E9 p (Gy p))
  have e3 := c3 (D4 p (E9 p (Gy p)))
  unfold Fc
  omega
 unfold Db G1 H8
 simp only [Aw, Bj] at z1 z2 z3 z4
 (repeat' split) <;> (try simp only [Ay, Bj, zak, Aw]) <;> omega
theorem Aan (n : Nat) (hn : 1048576 < n) (p : PacketV) (hp : Hd p) (hb1 : p.fWBody.size ≤ 1048576) (hb2 : p.fPass.size ≤ 1048576) (hb3 : p.fBody.size ≤ 1048576) : Dd E0 (n + 11) 22 72 [.agg (Ar p)] = some (Ag (F7 p)) := by
 rw [Bd, Ak1, f72]
 refine C6 (G := (· = some (Ag (F7 p)))) ?_
 try simp only [Gw, Cq, Ba, D5, Av, B5, Ct, Dh]
 have s0 : Sep [] [] := Cx
 refine Od s0 (G6 (Cy _)) fun i1 H s2 => At s2 (.here) rfl (Aq (v := (.bool (Ah p))) s2 rfl (.aggF (Cy _) .nil) (So n (by omega) p hp) (C2 (Aa ((Ah p)) (fun h3 => ?_) (fun h3 => ?_))))
 refine Ax (nF h3) (At s2 (.here) rfl ?_)
 have hf := I9 h3
 have hz := AgP p hp hb3
 refine Cg s2 rfl (.aggF (Cy _) .nil) (Aim (n + 2) (by omega) p hp hb1 hb2 hb3 hf.wq) (Da (Db p)) fun x4 H lx4 s5 => At s5 C0 rfl (Aq (v := (.int .i64 (C4 p))) s5 rfl (.aggF (Cy _) .nil) (Abx (n + 7) (by omega) p hf.ty hf.q) (Fy (IntKind.wrap_u8 _) (Bg (cs := [su ((C4 p) % 256)]) rfl (Co s5 fun i6 H s7 => J7 s7 C0 ?_))))
 have z8 := Wv (A9 bs0 ((C4 p) % 256)) (((Db p).size : Nat) : Int)
 simp only [Ay, Aw, Bj, zak] at z8
 refine Cg s7 rfl (.sl (.here) rfl (.cons .sc .nil) (.cons .sc .nil)) (by rw [Aes ((C4 p) % 256) (by omega)]; exact Aix (n + 4) (by omega) (A9 bs0 ((C4 p) % 256)) (((Db p).size : Nat) : Int) (by simp only [Ay, Bj]; omega)) (Da (Dg (A9 bs0 ((C4 p) % 256)) (((Db p).size : Nat) : Int))) fun x9 H lx9 s10 => Bg (cs := [x9, x4]) (Ko (z' := [x9, .nl]) (Eh lx9) rfl (Cn rfl) rfl (Ko (z' := [x9, x4]) (Eh lx4) rfl (Cn rfl) rfl (rfl))) (Co s10 fun i11 H s12 => Cg s12 rfl (.sl (.here) rfl (.cons (.own (by decide) C0) (.cons (.own (by decide) Mv) .nil)) .nil) (M6 (n + 6) (by omega) (Dg (A9 bs0 ((C4 p) % 256)) (((Db p).size : Nat) : Int)) (Db p) (by omega)) (Da ((Dg (A9 bs0 ((C4 p) % 256)) (((Db p).size : Nat) : Int)) ++ (Db p))) fun x13 H lx13 s14 => Ai (Dm s14 (.here)) ?_)
 have e : F7 p = ((Dg (A9 bs0 ((C4 p) % 256)) (((Db p).size : Nat) : Int)) ++ (Db p)) := by
  (simp only [F7, Jq, h3, if_true, if_false, zaa]; done)
 rw [e]
 refine As (nT h3) ?_
 have s15 := s2.nl (ty := 22) ⟨_, _, rfl, rfl⟩
 refine Ai (Dm s15 .here) ?_
 have e : F7 p = bs0 := by
  (simp only [F7, Jq, h3, if_true, if_false, zaa]; done)
 rw [e]
 rfl
def De (p : PacketV) (z : ByteArray) : ByteArray := H8 p (if !(decide (p.fType = 3)) && decide (0 < p.fId) then Ao z p.fId else z)
def Gz (f : Int) (r : ByteArray) : ByteArray := Dg (A9 bs0 (f % 256)) ((r.size : Nat) : Int) ++ r
theorem AaF {p : PacketV} (h1 : p.fWants = []) (h2 : p.fCodes = []) (h3 : p.fNames = []) (z : ByteArray) : H8 p z = z := by
 unfold H8
 rw [h1, h2, h3]
 rfl
theorem Zb {p : PacketV} (h : Ah p = true) {f : Int} {r : ByteArray} (hf : C4 p = f) (hr : Db p = r) : F7 p = Gz f r := by
 subst hf
 subst hr
 unfold F7
 rw [if_pos h]
 rfl
theorem Ag5 {p : PacketV} (h : Ah p = true) (ht : p.fType = 1) : F7 p = Gz (16 * p.fType) (De p (Fc p)) := by
 obtain ⟨_, _, _, _, k5, k6, k7, k8⟩ := Lw h
 refine Zb h (by unfold C4; rw [if_neg (by omega), if_neg (by omega)]) ?_
 unfold De
 rw [k5 (by omega), if_neg (by simp), AaF (k6 (by omega)) (k7 (by omega)) (k8 (by omega))]
 unfold Db
 rw [if_pos ht]
theorem Alf {p : PacketV} (h : Ah p = true) (ht : p.fType = 2) : F7 p = Gz (16 * p.fType) (De p (A9 (A9 bs0 (Bb p.fPresent 1 % 256)) (p.fCode % 256))) := by
 obtain ⟨_, _, _, _, k5, k6, k7, k8⟩ := Lw h
 refine Zb h (by unfold C4; rw [if_neg (by omega), if_neg (by omega)]) ?_
 unfold De
 rw [k5 (by omega), if_neg (by simp), AaF (k6 (by omega)) (k7 (by omega)) (k8 (by omega))]
 unfold Db
 rw [if_neg (by omega), if_pos ht]
theorem Ag6 {p : PacketV} (h : Ah p = true) (ht : p.fType = 3) : F7 p = Gz (16 * p.fType + Bb p.fDup 8 + 2 * p.fQos + Bb p.fRetain 1) (De p (G1 p)) := by
 obtain ⟨_, _, _, _, k5, k6, k7, k8⟩ := Lw h
 refine Zb h (by unfold C4; rw [if_pos ht]) ?_
 unfold De
 rw [if_neg (by simp; omega), AaF (k6 (by omega)) (k7 (by omega)) (k8 (by omega))]
 unfold Db
 rw [if_neg (by omega), if_neg (by omega), if_pos ht]
theorem Za {p : PacketV} (h : Ah p = true) (h1 : ¬ p.fType = 1) (h2 : ¬ p.fType = 2) (h3 : ¬ p.fType = 3) {f : Int} (hf : C4 p = f) : F7 p = Gz f (De p bs0) := by
 obtain ⟨_, _, _, _, k5, k6, k7, k8⟩ := Lw h
 obtain ⟨ht, _, hk⟩ := G9 h
 refine Zb h hf ?_
 unfold De Db
 rw [if_neg h1, if_neg h2, if_neg h3]
 by_cases h12 : 12 ≤ p.fType
 rw [k5 (by omega), if_pos (by omega), if_neg (by simp), AaF (k6 (by omega)) (k7 (by omega)) (k8 (by omega))]
 have hi : 1 ≤ p.fId := by
  unfold Bx at hk
  rw [if_neg h1, if_neg h2, if_neg h3] at hk
  by_cases h4 : p.fType = 4 ∨ p.fType = 5 ∨ p.fType = 6 ∨ p.fType = 7 ∨ p.fType = 11
  rw [if_pos h4, G4] at hk
  omega
  rw [if_neg h4, if_pos (by omega)] at hk
  simp only [zag, G4] at hk
  omega
 rw [if_neg (by omega), if_pos (by simp; omega)]
theorem T2 (n : Nat) (hn : 1048576 < n) (p : PacketV) (hp : Hd p) (hb1 : p.fWBody.size ≤ 1048576) (hb2 : p.fPass.size ≤ 1048576) (hb3 : p.fBody.size ≤ 1048576) (h3 : (Ah p) = true) (z4t4 : ByteArray) (f4t3 : Int) (hz40 : z4t4.size ≤ 1100000) (z7t4 : ByteArray) (f7t3 : Int) (hz70 : z7t4.size ≤ 1100100) : ∀ (t pre : List ByteArray) (m : Nat) (i : Int) (i1 : Nat) (a2 : AV) (H : Ad), p.fNames = pre ++ t → i = ((pre.length : Nat) : Int) → t.length < m → Bn a2 = true → Sep H [.own a2 22 (Ag (Fi (Ds (Bo z7t4 p.fWants) p.fCodes) pre)), .blk i1 (Ar p) true] → Gd (· = some (Ag (Gz f7t3 (H8 p z7t4)))) (Qo (PR (n + 10) AV) (n + 10) (fun x H => Bf Au E0.tp 22 H x) m (.ptr i1 0) (.sc (.int .i64 f7t3)) (a2) (.sc (.int .i64 i)) H)
 | [], pre, m + 1, i, i1, a2, H, he, hi, hm, la2, s0 => by
  obtain rfl : pre = p.fNames := by simpa using he.symm
  have hl1 := hp.l1
  have hl2 := hp.l2
  have hl3 := hp.l3
  have zl1 := E1 p.fWants z7t4
  have zl2 := Ez p.fCodes (Bo z7t4 p.fWants)
  have zl0 := Lk p.fNames (Ds (Bo z7t4 p.fWants) p.fCodes)
  rw [Qo]
  try simp only [Cq, B6, Ba, A4, Av, B5, Bu, Ct, Du, Dh]
  refine Ab (o' := 23) rfl (Ap (c := En p.fNames) s0 C0 rfl (Cz (Dw (Ax (by simp [hi]) (Fy (IntKind.wrap_u8 _) (Bg (cs := [.sc (.int .u8 (f7t3 % 256))]) rfl (Co s0 fun i201 H s202 => J7 s202 C0 ?_)))))))
  have z203 := Wv (A9 bs0 (f7t3 % 256)) (((Fi (Ds (Bo z7t4 p.fWants) p.fCodes) p.fNames).size : Nat) : Int)
  simp only [Ay, Aw, Bj, zak] at z203
  refine Cg s202 rfl (.sl (.here) rfl (.cons .sc .nil) (.cons .sc .nil)) (by rw [Aes (f7t3 % 256) (by omega)]; exact AiY (n + 4) (by omega) (A9 bs0 (f7t3 % 256)) (((Fi (Ds (Bo z7t4 p.fWants) p.fCodes) p.fNames).size : Nat) : Int) (by simp only [Ay, Bj]; omega)) (Da (Dg (A9 bs0 (f7t3 % 256)) (((Fi (Ds (Bo z7t4 p.fWants) p.fCodes) p.fNames).size : Nat) : Int))) fun x204 H lx204 s205 => Rf (s := (Dg (A9 bs0 (f7t3 % 256)) (((Fi (Ds (Bo z7t4 p.fWants) p.fCodes) p.fNames).size : Nat) : Int))) s205 ⟨_, _, rfl, rfl, rfl, rfl⟩ (.here) (AaD ⟨_, _, rfl, rfl, rfl, rfl⟩ C0 (Kl _)) (by omega) fun x206 H lx206 s207 => Ai (Dm s207 (.here)) ?_
  have e : Gz f7t3 (H8 p z7t4) = ((Dg (A9 bs0 (f7t3 % 256)) (((Fi (Ds (Bo z7t4 p.fWants) p.fCodes) p.fNames).size : Nat) : Int)) ++ (Fi (Ds (Bo z7t4 p.fWants) p.fCodes) p.fNames)) := by
   rfl
  rw [e]
 | y :: t, pre, m + 1, i, i1, a2, H, he, hi, hm, la2, s0 => by
  have hlt : pre.length < p.fNames.length := by rw [he]; simp
  have hl1 := hp.l1
  have hl2 := hp.l2
  have hl3 := hp.l3
  have zl1 := E1 p.fWants z7t4
  have zl2 := Ez p.fCodes (Bo z7t4 p.fWants)
  have zl0 := Lk pre (Ds (Bo z7t4 p.fWants) p.fCodes)
  rw [Qo]
  try simp only [Cq, B6, Ba, A4, Av, B5, Bu, Ct, Du, Dh]
  refine Ab (o' := 23) rfl (Ap (c := En p.fNames) s0 C0 rfl (Cz (Dw (As (by simp [hi]; omega) (Ab (o' := 23) rfl (Ap (c := En p.fNames) s0 C0 rfl (Nc hi he (Fg (c := .sc (.string y)) rfl ?_))))))))
  have z201 := Cv (Fi (Ds (Bo z7t4 p.fWants) p.fCodes) pre) y
  refine Cg s0 rfl (.cons (.own (by decide) (.here)) (.cons .sc .nil)) (La (n + 5) (by omega) (Fi (Ds (Bo z7t4 p.fWants) p.fCodes) pre) y (by omega) (hp.w2 y (by rw [he]; simp))) (Da (An (Fi (Ds (Bo z7t4 p.fWants) p.fCodes) pre) y)) fun x202 H lx202 s203 => B9 (by omega) (by omega) ?_
  have e204 : (Fi (Ds (Bo z7t4 p.fWants) p.fCodes) (pre ++ [y])) = (An (Fi (Ds (Bo z7t4 p.fWants) p.fCodes) pre) y) := by
   try simp only [bne_iff_ne, beq_iff_eq, beq_eq_false_iff_ne, Cm] at h3
   simp only [Fi, zbg, zbc, zby, h3, if_true, if_false, zaa]
  exact T2 n hn p hp hb1 hb2 hb3 h3 z4t4 f4t3 hz40 z7t4 f7t3 hz70 t (pre ++ [y]) m _ i1 x202 _ (by rw [he]; simp) (by rw [hi]; simp) (by simpa using hm) lx202 (by rw [e204]; exact (s203.sel (.cons (.here) (.cons C0 .nil))))
theorem T1 (n : Nat) (hn : 1048576 < n) (p : PacketV) (hp : Hd p) (hb1 : p.fWBody.size ≤ 1048576) (hb2 : p.fPass.size ≤ 1048576) (hb3 : p.fBody.size ≤ 1048576) (h3 : (Ah p) = true) (z4t4 : ByteArray) (f4t3 : Int) (hz40 : z4t4.size ≤ 1100000) (z7t4 : ByteArray) (f7t3 : Int) (hz70 : z7t4.size ≤ 1100100) : ∀ (t pre : List Int) (m : Nat) (i : Int) (i1 : Nat) (a2 : AV) (H : Ad), p.fCodes = pre ++ t → i = ((pre.length : Nat) : Int) → t.length < m → Bn a2 = true → Sep H [.own a2 22 (Ag (Ds (Bo z7t4 p.fWants) pre)), .blk i1 (Ar p) true] → Gd (· = some (Ag (Gz f7t3 (H8 p z7t4)))) (Nu (PR (n + 10) AV) (n + 10) (fun x H => Bf Au E0.tp 22 H x) m (.ptr i1 0) (.sc (.int .i64 f7t3)) (a2) (.sc (.int .i64 i)) H)
 | [], pre, m + 1, i, i1, a2, H, he, hi, hm, la2, s0 => by
  obtain rfl : pre = p.fCodes := by simpa using he.symm
  have hl1 := hp.l1
  have hl2 := hp.l2
  have hl3 := hp.l3
  have zl1 := E1 p.fWants z7t4
  have zl2 := Ez p.fCodes (Bo z7t4 p.fWants)
  have zl0 := Ez p.fCodes (Bo z7t4 p.fWants)
  rw [Nu]
  try simp only [Cq, B6, Ba, A4, Av, B5, Bu, Ct, Du, Dh]
  refine Ab (o' := 24) rfl (Ap (c := El p.fCodes) s0 C0 rfl (Cz (Dw (Ax (by simp [hi]) ?_))))
  have s201 : Sep _ [.own a2 22 (Ag (Fi (Ds (Bo z7t4 p.fWants) p.fCodes) [])), .blk i1 (Ar p) true] := s0.sel (.cons (.here) (.cons (.here) .nil))
  exact T2 n hn p hp hb1 hb2 hb3 h3 z4t4 f4t3 (by assumption) z7t4 f7t3 (by assumption) p.fNames [] _ 0 i1 a2 _ rfl rfl (by omega) la2 s201
 | y :: t, pre, m + 1, i, i1, a2, H, he, hi, hm, la2, s0 => by
  have hlt : pre.length < p.fCodes.length := by rw [he]; simp
  have hl1 := hp.l1
  have hl2 := hp.l2
  have hl3 := hp.l3
  have zl1 := E1 p.fWants z7t4
  have zl2 := Ez p.fCodes (Bo z7t4 p.fWants)
  have zl0 := Ez pre (Bo z7t4 p.fWants)
  rw [Nu]
  try simp only [Cq, B6, Ba, A4, Av, B5, Bu, Ct, Du, Dh]
  refine Ab (o' := 24) rfl (Ap (c := El p.fCodes) s0 C0 rfl (Cz (Dw (As (by simp [hi]; omega) (Ab (o' := 24) rfl (Ap (c := El p.fCodes) s0 C0 rfl (J9 hi he (Fg (c := .sc (.int .i64 y)) rfl (Fy (IntKind.wrap_u8 _) (Bg (cs := [.sc (.int .u8 (y % 256))]) rfl (Co s0 fun i201 H s202 => Ff (s := (Ds (Bo z7t4 p.fWants) pre)) (z := (y % 256)) s202 C0 (.here) ⟨_, _, rfl, rfl, rfl, rfl⟩ rfl (by omega) fun x203 H lx203 s204 => B9 (by omega) (by omega) ?_)))))))))))
  have e205 : (Ds (Bo z7t4 p.fWants) (pre ++ [y])) = (A9 (Ds (Bo z7t4 p.fWants) pre) (y % 256)) := by
   try simp only [bne_iff_ne, beq_iff_eq, beq_eq_false_iff_ne, Cm] at h3
   simp only [Ds, zbg, zbc, zby, h3, if_true, if_false, zaa]
  exact T1 n hn p hp hb1 hb2 hb3 h3 z4t4 f4t3 hz40 z7t4 f7t3 hz70 t (pre ++ [y]) m _ i1 x203 _ (by rw [he]; simp) (by rw [hi]; simp) (by simpa using hm) lx203 (by rw [e205]; exact (s204.sel (.cons (.here) (.cons (.here) .nil))))
theorem Pi (n : Nat) (hn : 1048576 < n) (p : PacketV) (hp : Hd p) (hb1 : p.fWBody.size ≤ 1048576) (hb2 : p.fPass.size ≤ 1048576) (hb3 : p.fBody.size ≤ 1048576) (h3 : (Ah p) = true) (z4t4 : ByteArray) (f4t3 : Int) (hz40 : z4t4.size ≤ 1100000) (z7t4 : ByteArray) (f7t3 : Int) (hz70 : z7t4.size ≤ 1100100) : ∀ (t pre : List WantV) (m : Nat) (i : Int) (i1 : Nat) (a2 : AV) (H : Ad), p.fWants = pre ++ t → i = ((pre.length : Nat) : Int) → t.length < m → Bn a2 = true → Sep H [.own a2 22 (Ag (Bo z7t4 pre)), .blk i1 (Ar p) true] → Gd (· = some (Ag (Gz f7t3 (H8 p z7t4)))) (Nt (PR (n + 10) AV) (n + 10) (fun x H => Bf Au E0.tp 22 H x) m (.ptr i1 0) (.sc (.int .i64 f7t3)) (a2) (.sc (.int .i64 i)) H)
 | [], pre, m + 1, i, i1, a2, H, he, hi, hm, la2, s0 => by
  obtain rfl : pre = p.fWants := by simpa using he.symm
  have hl1 := hp.l1
  have hl2 := hp.l2
  have hl3 := hp.l3
  have zl1 := E1 p.fWants z7t4
  have zl2 := Ez p.fCodes (Bo z7t4 p.fWants)
  have zl0 := E1 p.fWants z7t4
  rw [Nt]
  try simp only [Cq, B6, Ba, A4, Av, B5, Bu, Ct, Du, Dh]
  refine Ab (o' := 22) rfl (Ap (c := C5 Bw p.fWants) s0 C0 rfl (Cz (Dw (Ax (by simp [hi]) ?_))))
  have s201 : Sep _ [.own a2 22 (Ag (Ds (Bo z7t4 p.fWants) [])), .blk i1 (Ar p) true] := s0.sel (.cons (.here) (.cons (.here) .nil))
  exact T1 n hn p hp hb1 hb2 hb3 h3 z4t4 f4t3 (by assumption) z7t4 f7t3 (by assumption) p.fCodes [] _ 0 i1 a2 _ rfl rfl (by omega) la2 s201
 | y :: t, pre, m + 1, i, i1, a2, H, he, hi, hm, la2, s0 => by
  have hlt : pre.length < p.fWants.length := by rw [he]; simp
  have hl1 := hp.l1
  have hl2 := hp.l2
  have hl3 := hp.l3
  have zl1 := E1 p.fWants z7t4
  have zl2 := Ez p.fCodes (Bo z7t4 p.fWants)
  have zl0 := E1 pre z7t4
  rw [Nt]
  try simp only [Cq, B6, Ba, A4, Av, B5, Bu, Ct, Du, Dh]
  refine Ab (o' := 22) rfl (Ap (c := C5 Bw p.fWants) s0 C0 rfl (Cz (Dw (As (by simp [hi]; omega) (Ab (o' := 22) rfl (Ap (c := C5 Bw p.fWants) s0 C0 rfl (Mp hi Gu (by decide) he (Pv (Fg (c := .sc (.string y.fFilter)) rfl (Ab (o' := 22) rfl (Ap (c := C5 Bw p.fWants) s0 C0 rfl (Mp hi Gu (by decide) he (Pv (Fg (c := .sc (.int .i64 y.fQos)) rfl (Fy (IntKind.wrap_u8 _) (Di (Gd.bothE ?_ ?_)))))))))))))))))
  have z201 := Cv (Bo z7t4 pre) y.fFilter
  refine Cg s0 rfl (.cons (.own (by decide) (.here)) (.cons .sc .nil)) (La (n + 5) (by omega) (Bo z7t4 pre) y.fFilter (by omega) (hp.w1 y (by rw [he]; simp))) (Da (An (Bo z7t4 pre) y.fFilter)) fun x202 H lx202 s203 => Bg (cs := [.sc (.int .u8 (y.fQos % 256))]) rfl (Co s203 fun i204 H s205 => Ff (s := (An (Bo z7t4 pre) y.fFilter)) (z := (y.fQos % 256)) s205 C0 (.here) ⟨_, _, rfl, rfl, rfl, rfl⟩ rfl (by omega) fun x206 H lx206 s207 => B9 (by omega) (by omega) ?_)
  have e208 : (Bo z7t4 (pre ++ [y])) = (A9 (An (Bo z7t4 pre) y.fFilter) (y.fQos % 256)) := by
   try simp only [bne_iff_ne, beq_iff_eq, beq_eq_false_iff_ne, Cm] at h3
   simp only [Bo, zbg, zbc, zby, h3, if_true, if_false, zaa]
  exact Pi n hn p hp hb1 hb2 hb3 h3 z4t4 f4t3 hz40 z7t4 f7t3 hz70 t (pre ++ [y]) m _ i1 x206 _ (by rw [he]; simp) (by rw [hi]; simp) (by simpa using hm) lx206 (by rw [e208]; exact (s207.sel (.cons (.here) (.cons C0 .nil))))
  refine Bg (cs := [su (y.fQos % 256)]) rfl (Co s0 fun i209 H s210 => ?_)
  have z211 := Cv (Bo z7t4 pre) y.fFilter
  refine Cg s210 rfl (.cons (.own (by decide) C0) (.cons .sc .nil)) (La (n + 5) (by omega) (Bo z7t4 pre) y.fFilter (by omega) (hp.w1 y (by rw [he]; simp))) (Da (An (Bo z7t4 pre) y.fFilter)) fun x212 H lx212 s213 => Ff (s := (An (Bo z7t4 pre) y.fFilter)) (z := (y.fQos % 256)) s213 (.here) (.here) ⟨_, _, rfl, rfl, rfl, rfl⟩ rfl (by omega) fun x214 H lx214 s215 => B9 (by omega) (by omega) ?_
  have e216 : (Bo z7t4 (pre ++ [y])) = (A9 (An (Bo z7t4 pre) y.fFilter) (y.fQos % 256)) := by
   try simp only [bne_iff_ne, beq_iff_eq, beq_eq_false_iff_ne, Cm] at h3
   simp only [Bo, zbg, zbc, zby, h3, if_true, if_false, zaa]
  exact Pi n hn p hp hb1 hb2 hb3 h3 z4t4 f4t3 hz40 z7t4 f7t3 hz70 t (pre ++ [y]) m _ i1 x214 _ (by rw [he]; simp) (by rw [hi]; simp) (by simpa using hm) lx214 (by rw [e216]; exact (s215.sel (.cons (.here) (.cons C0 .nil))))
theorem AaC (n : Nat) (hn : 1048576 < n) (p : PacketV) (hp : Hd p) (hb1 : p.fWBody.size ≤ 1048576) (hb2 : p.fPass.size ≤ 1048576) (hb3 : p.fBody.size ≤ 1048576) : Dd E0 (n + 11) 22 66 [.agg (Ar p)] = some (Ag (F7 p)) := by
 rw [Bd, Akv, f66]
 refine C6 (G := (· = some (Ag (F7 p)))) ?_
 have hl1 := hp.l1
 have hl2 := hp.l2
 have hl3 := hp.l3
 try simp only [Gw, Cq, B6, Ba, A4, D5, Av, Bh, Pr.gT, Pr.gF, Pr.hT, Pr.hF, Pr.kT, Pr.kF, Bv, Ct, Du, Dh]
 have s0 : Sep [] [] := Cx
 refine Od s0 (G6 (Cy _)) fun i1 H s2 => At s2 (.here) rfl (Aq (v := (.bool (Ah p))) s2 rfl (.aggF (Cy _) .nil) (S7 n (by omega) p hp) (C2 (Aa ((Ah p)) (fun h3 => ?_) (fun h3 => ?_))))
 have hf := I9 h3
 obtain ⟨ht, hq, hwq, hi⟩ := hf
 refine Ax (nF h3) (Ab (o' := 0) rfl (Ap (c := si p.fType) s2 (.here) rfl (Rh (by omega) (by omega) (Ab (o' := 0) rfl (Ap (c := si p.fType) s2 (.here) rfl (Be (Ny (P := fun j => ∀ (x4 : AV) (z4t4 : ByteArray) (f4t3 : Int) (H : Ad), Bn x4 = true → (z4t4.size ≤ 1100000) → Sep H [.own x4 22 (Ag z4t4), .blk i1 (Ar p) true] → Gd (· = some (Ag (Gz f4t3 (De p z4t4)))) (j (.ptr i1 0) (si f4t3) x4 H)) ?_ fun j4 hj4 => ?_)))))))
 intro x4 z4t4 f4t3 H lx4 hz40 s5
 refine Ab (o' := 0) rfl (Ap (c := si p.fType) s5 C0 rfl (Mi ?_))
 apply Aiq ((!(decide (p.fType = 3))) && (decide (0 < p.fId)))
 intro b6 q6
 refine Aa ((decide (p.fType = 3))) (fun h6 => ?_) (fun h6 => ?_)
 exact Ac (nF h6) (Ac (nF h6) (Ac (nF h6) (AlO (nF h6) (Jr q6 (nF h6)) AfW)))
 exact Ae (nT h6) (Ab (o' := 4) rfl (Ae (nT h6) (Ap (c := si p.fId) s5 C0 rfl (Ae (nT h6) (Er (AlP (nT h6) (Js q6 (nT h6)) AfW))))))
 intro b6 q6
 refine Ny (P := fun j => ∀ (x7 : AV) (z7t4 : ByteArray) (f7t3 : Int) (H : Ad), Bn x7 = true → (z7t4.size ≤ 1100100) → Sep H [.own x7 22 (Ag z7t4), .blk i1 (Ar p) true] → Gd (· = some (Ag (Gz f7t3 (H8 p z7t4)))) (j (.ptr i1 0) (si f7t3) x7 H)) ?_ fun j7 hj7 => ?_
 intro x7 z7t4 f7t3 H lx7 hz70 s8
 have s9 : Sep _ [.own x7 22 (Ag (Bo z7t4 [])), .blk i1 (Ar p) true] := s8.sel (.cons (.here) (.cons (.here) .nil))
 exact Pi n hn p hp hb1 hb2 hb3 h3 z4t4 f4t3 (by assumption) z7t4 f7t3 (by assumption) p.fWants [] _ 0 i1 x7 _ rfl rfl (by omega) lx7 s9
 refine Aa (b6) (fun h10 => ?_) (fun h10 => ?_)
 refine As h10 (Ab (o' := 4) rfl (Ap (c := si p.fId) s5 C0 rfl (Cg s5 rfl (.cons (.own (by decide) (.here)) (.cons .sc .nil)) (R8 (n + 9) (by omega) z4t4 p.fId (by omega)) (Da (Ao z4t4 p.fId)) fun x11 H lx11 s12 => ?_)))
 have e13 : Gz f4t3 (De p z4t4) = Gz f4t3 (H8 p (Ao z4t4 p.fId)) := by
  unfold De; simp only [← q6, h10, if_true, if_false, zaa]
 rw [e13]
 exact hj7 x11 (Ao z4t4 p.fId) f4t3 _ lx11 (by (simp only [Ay, Aw, Bj, zak]; omega)) (s12.sel (.cons (.here) (.cons C0 .nil)))
 refine Ax h10 ?_
 have e14 : Gz f4t3 (De p z4t4) = Gz f4t3 (H8 p z4t4) := by
  unfold De; simp only [← q6, h10, if_true, if_false, zaa]
 rw [e14]
 exact hj7 x4 z4t4 f4t3 _ lx4 (by omega) (s5.sel (.cons (.here) (.cons (.here) .nil)))
 refine Aa ((decide (p.fType = 1))) (fun h15 => ?_) (fun h15 => ?_)
 refine As h15 (Ab (o' := 8) rfl (Ap (c := si p.fLevel) s2 (.here) rfl (Fy (IntKind.wrap_u8 _) (Ny (P := fun j => ∀ (x16 : AV) (z16t4 : ByteArray) (f16t3 : Int) (H : Ad), Bn x16 = true → (z16t4.size ≤ 100) → Sep H [.own x16 22 (Ag z16t4), .blk i1 (Ar p) true] → Gd (· = some (Ag (Gz f16t3 (De p (Dc p (D4 p (E9 p (An (Ao (A9 z16t4 (Eb p % 256)) p.fKeep) p.fClient)))))))) (j (.ptr i1 0) (si f16t3) x16 H)) ?_ fun j16 hj16 => ?_))))
 intro x16 z16t4 f16t3 H lx16 hz160 s17
 refine Ab (o' := 9) rfl (Ap (c := sb p.fClean) s17 C0 rfl (Ab (o' := 11) rfl (Ap (c := sb p.fHasWill) s17 C0 rfl (Ab (o' := 14) rfl (Ap (c := si p.fWQos) s17 C0 rfl (Rh (by omega) (by omega) (Ab (o' := 15) rfl (Ap (c := sb p.fWRetain) s17 C0 rfl (Ab (o' := 18) rfl (Ap (c := sb p.fHasPass) s17 C0 rfl (Ab (o' := 16) rfl (Ap (c := sb p.fHasUser) s17 C0 rfl ?_))))))))))))
 have q18 := G3 p.fClean 2 (by decide)
 refine Aq (v := (.int .i64 (Bb p.fClean 2))) s17 rfl (Ir .nil) (Tl (n + 9) p.fClean 2) ?_
 have q19 := G3 p.fHasWill 4 (by decide)
 refine Aq (v := (.int .i64 (Bb p.fHasWill 4))) s17 rfl (Ir .nil) (Tl (n + 9) p.fHasWill 4) (B9 (by omega) (by omega) (B9 (by omega) (by omega) ?_))
 have q20 := G3 p.fWRetain 32 (by decide)
 refine Aq (v := (.int .i64 (Bb p.fWRetain 32))) s17 rfl (Ir .nil) (Tl (n + 9) p.fWRetain 32) (B9 (by omega) (by omega) ?_)
 have q21 := G3 p.fHasPass 64 (by decide)
 refine Aq (v := (.int .i64 (Bb p.fHasPass 64))) s17 rfl (Ir .nil) (Tl (n + 9) p.fHasPass 64) (B9 (by omega) (by omega) ?_)
 have q22 := G3 p.fHasUser 128 (by decide)
 refine Aq (v := (.int .i64 (Bb p.fHasUser 128))) s17 rfl (Ir .nil) (Tl (n + 9) p.fHasUser 128) (B9 (by omega) (by omega) (Fy (IntKind.wrap_u8 _) (Bg (cs := [.sc (.int .u8 (((((((Bb p.fClean 2) + (Bb p.fHasWill 4)) + (8 * p.fWQos)) + (Bb p.fWRetain 32)) + (Bb p.fHasPass 64)) + (Bb p.fHasUser 128)) % 256))]) rfl (Co s17 fun i23 H s24 => Ff (s := z16t4) (z := (((((((Bb p.fClean 2) + (Bb p.fHasWill 4)) + (8 * p.fWQos)) + (Bb p.fWRetain 32)) + (Bb p.fHasPass 64)) + (Bb p.fHasUser 128)) % 256)) s24 C0 (.here) ⟨_, _, rfl, rfl, rfl, rfl⟩ rfl (by omega) fun x25 H lx25 s26 => Ab (o' := 10) rfl (Ap (c := .sc (.int .i64 p.fKeep)) s26 C0 rfl (Ab (o' := 7) rfl (Ap (c := .sc (.string p.fClient)) s26 C0 rfl (Cg s26 rfl (.cons (.own (by decide) (.here)) (.cons .sc .nil)) (R8 (n + 9) (by omega) (A9 z16t4 (((((((Bb p.fClean 2) + (Bb p.fHasWill 4)) + (8 * p.fWQos)) + (Bb p.fWRetain 32)) + (Bb p.fHasPass 64)) + (Bb p.fHasUser 128)) % 256)) p.fKeep (by (simp only [Ay, Aw, Bj, zak]; omega))) (Da (Ao (A9 z16t4 (((((((Bb p.fClean 2) + (Bb p.fHasWill 4)) + (8 * p.fWQos)) + (Bb p.fWRetain 32)) + (Bb p.fHasPass 64)) + (Bb p.fHasUser 128)) % 256)) p.fKeep)) fun x27 H lx27 s28 => ?_))))))))
 have z29 := Cv (Ao (A9 z16t4 (((((((Bb p.fClean 2) + (Bb p.fHasWill 4)) + (8 * p.fWQos)) + (Bb p.fWRetain 32)) + (Bb p.fHasPass 64)) + (Bb p.fHasUser 128)) % 256)) p.fKeep) p.fClient
 simp only [Ay, Aw, Bj, zak] at z29
 refine Cg s28 rfl (.cons (.own (by decide) (.here)) (.cons .sc .nil)) (La (n + 5) (by omega) (Ao (A9 z16t4 (((((((Bb p.fClean 2) + (Bb p.fHasWill 4)) + (8 * p.fWQos)) + (Bb p.fWRetain 32)) + (Bb p.fHasPass 64)) + (Bb p.fHasUser 128)) % 256)) p.fKeep) p.fClient (by (simp only [Ay, Aw, Bj, zak]; omega)) hp.t2) (Da (An (Ao (A9 z16t4 (((((((Bb p.fClean 2) + (Bb p.fHasWill 4)) + (8 * p.fWQos)) + (Bb p.fWRetain 32)) + (Bb p.fHasPass 64)) + (Bb p.fHasUser 128)) % 256)) p.fKeep) p.fClient)) fun x30 H lx30 s31 => Ab (o' := 11) rfl (Ap (c := .sc (.bool p.fHasWill)) s31 Mv rfl (Ny (P := fun j => ∀ (x32 : AV) (z32t4 : ByteArray) (f32t3 : Int) (H : Ad), Bn x32 = true → (z32t4.size ≤ 400) → Sep H [.own x32 22 (Ag z32t4), .blk i1 (Ar p) true] → Gd (· = some (Ag (Gz f32t3 (De p (Dc p (D4 p z32t4)))))) (j (.ptr i1 0) (.sc (.int .i64 f32t3)) x32 H)) ?_ fun j32 hj32 => ?_))
 intro x32 z32t4 f32t3 H lx32 hz320 s33
 refine Ab (o' := 16) rfl (Ap (c := sb p.fHasUser) s33 C0 rfl (Ny (P := fun j => ∀ (x34 : AV) (z34t4 : ByteArray) (f34t3 : Int) (H : Ad), Bn x34 = true → (z34t4.size ≤ 600) → Sep H [.own x34 22 (Ag z34t4), .blk i1 (Ar p) true] → Gd (· = some (Ag (Gz f34t3 (De p (Dc p z34t4))))) (j (.ptr i1 0) (si f34t3) x34 H)) ?_ fun j34 hj34 => ?_))
 intro x34 z34t4 f34t3 H lx34 hz340 s35
 refine Ab (o' := 18) rfl (Ap (c := sb p.fHasPass) s35 C0 rfl (Aa (p.fHasPass) (fun h36 => ?_) (fun h36 => ?_)))
 refine As h36 (Ab (o' := 19) rfl (Ap (c := Ag p.fPass) s35 C0 rfl ?_))
 have z37 := Ig z34t4 p.fPass
 refine Cg s35 rfl (.cons (.own (by decide) (.here)) (.cons .ro .nil)) (Ac5 (n + 8) (by omega) z34t4 p.fPass (by omega) hb2) (Da (C7 z34t4 p.fPass)) fun x38 H lx38 s39 => ?_
 have e40 : Gz f34t3 (De p (Dc p z34t4)) = Gz f34t3 (De p (C7 z34t4 p.fPass)) := by
  simp only [Cm] at h15
  (simp only [De, Fc, Gy, E9, D4, Dc, Eb, G1, h3, h15, h36, if_true, if_false, zaa]; done)
 rw [e40]
 exact hj4 x38 (C7 z34t4 p.fPass) f34t3 _ lx38 (by omega) (s39.sel (.cons (.here) (.cons C0 .nil)))
 refine Ax h36 ?_
 have e41 : Gz f34t3 (De p (Dc p z34t4)) = Gz f34t3 (De p z34t4) := by
  simp only [Cm] at h15
  (simp only [De, Fc, Gy, E9, D4, Dc, Eb, G1, h3, h15, h36, if_true, if_false, zaa]; done)
 rw [e41]
 exact hj4 x34 z34t4 f34t3 _ lx34 (by omega) (s35.sel (.cons (.here) (.cons (.here) .nil)))
 refine Aa (p.fHasUser) (fun h42 => ?_) (fun h42 => ?_)
 refine As h42 (Ab (o' := 17) rfl (Ap (c := ss p.fUser) s33 C0 rfl ?_))
 have z43 := Cv z32t4 p.fUser
 refine Cg s33 rfl (.cons (.own (by decide) (.here)) (.cons .sc .nil)) (La (n + 5) (by omega) z32t4 p.fUser (by omega) hp.t4) (Da (An z32t4 p.fUser)) fun x44 H lx44 s45 => ?_
 have e46 : Gz f32t3 (De p (Dc p (D4 p z32t4))) = Gz f32t3 (De p (Dc p (An z32t4 p.fUser))) := by
  simp only [Cm] at h15
  (simp only [De, Fc, Gy, E9, D4, Dc, Eb, G1, h3, h15, h42, if_true, if_false, zaa]; done)
 rw [e46]
 exact hj34 x44 (An z32t4 p.fUser) f32t3 _ lx44 (by omega) (s45.sel (.cons (.here) (.cons C0 .nil)))
 refine Ax h42 ?_
 have e47 : Gz f32t3 (De p (Dc p (D4 p z32t4))) = Gz f32t3 (De p (Dc p z32t4)) := by
  simp only [Cm] at h15
  (simp only [De, Fc, Gy, E9, D4, Dc, Eb, G1, h3, h15, h42, if_true, if_false, zaa]; done)
 rw [e47]
 exact hj34 x32 z32t4 f32t3 _ lx32 (by omega) (s33.sel (.cons (.here) (.cons (.here) .nil)))
 refine Aa (p.fHasWill) (fun h48 => ?_) (fun h48 => ?_)
 refine As h48 (Ab (o' := 12) rfl (Ap (c := ss p.fWTopic) s31 Mv rfl (Ab (o' := 13) rfl (Ap (c := Ag p.fWBody) s31 Mv rfl ?_))))
 have z49 := Cv (An (Ao (A9 z16t4 (((((((Bb p.fClean 2) + (Bb p.fHasWill 4)) + (8 * p.fWQos)) + (Bb p.fWRetain 32)) + (Bb p.fHasPass 64)) + (Bb p.fHasUser 128)) % 256)) p.fKeep) p.fClient) p.fWTopic
 refine Cg s31 rfl (.cons (.own (by decide) (.here)) (.cons .sc .nil)) (La (n + 5) (by omega) (An (Ao (A9 z16t4 (((((((Bb p.fClean 2) + (Bb p.fHasWill 4)) + (8 * p.fWQos)) + (Bb p.fWRetain 32)) + (Bb p.fHasPass 64)) + (Bb p.fHasUser 128)) % 256)) p.fKeep) p.fClient) p.fWTopic (by omega) hp.t3) (Da (An (An (Ao (A9 z16t4 (((((((Bb p.fClean 2) + (Bb p.fHasWill 4)) + (8 * p.fWQos)) + (Bb p.fWRetain 32)) + (Bb p.fHasPass 64)) + (Bb p.fHasUser 128)) % 256)) p.fKeep) p.fClient) p.fWTopic)) fun x50 H lx50 s51 => ?_
 have z52 := Ig (An (An (Ao (A9 z16t4 (((((((Bb p.fClean 2) + (Bb p.fHasWill 4)) + (8 * p.fWQos)) + (Bb p.fWRetain 32)) + (Bb p.fHasPass 64)) + (Bb p.fHasUser 128)) % 256)) p.fKeep) p.fClient) p.fWTopic) p.fWBody
 refine Cg s51 rfl (.cons (.own (by decide) (.here)) (.cons .ro .nil)) (Ac5 (n + 8) (by omega) (An (An (Ao (A9 z16t4 (((((((Bb p.fClean 2) + (Bb p.fHasWill 4)) + (8 * p.fWQos)) + (Bb p.fWRetain 32)) + (Bb p.fHasPass 64)) + (Bb p.fHasUser 128)) % 256)) p.fKeep) p.fClient) p.fWTopic) p.fWBody (by omega) hb1) (Da (C7 (An (An (Ao (A9 z16t4 (((((((Bb p.fClean 2) + (Bb p.fHasWill 4)) + (8 * p.fWQos)) + (Bb p.fWRetain 32)) + (Bb p.fHasPass 64)) + (Bb p.fHasUser 128)) % 256)) p.fKeep) p.fClient) p.fWTopic) p.fWBody)) fun x53 H lx53 s54 => ?_
 have e55 : Gz f16t3 (De p (Dc p (D4 p (E9 p (An (Ao (A9 z16t4 (Eb p % 256)) p.fKeep) p.fClient))))) = Gz f16t3 (De p (Dc p (D4 p (C7 (An (An (Ao (A9 z16t4 (((((((Bb p.fClean 2) + (Bb p.fHasWill 4)) + (8 * p.fWQos)) + (Bb p.fWRetain 32)) + (Bb p.fHasPass 64)) + (Bb p.fHasUser 128)) % 256)) p.fKeep) p.fClient) p.fWTopic) p.fWBody)))) := by
  simp only [Cm] at h15
  (simp only [De, Fc, Gy, E9, D4, Dc, Eb, G1, h3, h15, h48, if_true, if_false, zaa]; done)
 rw [e55]
 exact hj32 x53 (C7 (An (An (Ao (A9 z16t4 (((((((Bb p.fClean 2) + (Bb p.fHasWill 4)) + (8 * p.fWQos)) + (Bb p.fWRetain 32)) + (Bb p.fHasPass 64)) + (Bb p.fHasUser 128)) % 256)) p.fKeep) p.fClient) p.fWTopic) p.fWBody) f16t3 _ lx53 (by omega) (s54.sel (.cons (.here) (.cons Mw .nil)))
 refine Ax h48 ?_
 have e56 : Gz f16t3 (De p (Dc p (D4 p (E9 p (An (Ao (A9 z16t4 (Eb p % 256)) p.fKeep) p.fClient))))) = Gz f16t3 (De p (Dc p (D4 p (An (Ao (A9 z16t4 (((((((Bb p.fClean 2) + (Bb p.fHasWill 4)) + (8 * p.fWQos)) + (Bb p.fWRetain 32)) + (Bb p.fHasPass 64)) + (Bb p.fHasUser 128)) % 256)) p.fKeep) p.fClient)))) := by
  simp only [Cm] at h15
  (simp only [De, Fc, Gy, E9, D4, Dc, Eb, G1, h3, h15, h48, if_true, if_false, zaa]; done)
 rw [e56]
 exact hj32 x30 (An (Ao (A9 z16t4 (((((((Bb p.fClean 2) + (Bb p.fHasWill 4)) + (8 * p.fWQos)) + (Bb p.fWRetain 32)) + (Bb p.fHasPass 64)) + (Bb p.fHasUser 128)) % 256)) p.fKeep) p.fClient) f16t3 _ lx30 (by omega) (s31.sel (.cons (.here) (.cons Dj .nil)))
 refine Gd.bothE ?_ ?_
 have z57 := Cv bs0 mqtt
 simp only [Ay, Aw, Bj, zak] at z57
 refine Cg s2 rfl (.cons .nl (.cons .sc .nil)) (La (n + 5) (by omega) bs0 mqtt (by (simp only [Ay, Aw, Bj, zak]; omega)) (by decide)) (Da (An bs0 mqtt)) fun x58 H lx58 s59 => Bg (cs := [.sc (.int .u8 (p.fLevel % 256))]) rfl (Co s59 fun i60 H s61 => Ff (s := (An bs0 mqtt)) (z := (p.fLevel % 256)) s61 C0 (.here) ⟨_, _, rfl, rfl, rfl, rfl⟩ rfl (by omega) fun x62 H lx62 s63 => ?_)
 have e64 : F7 p = Gz (16 * p.fType) (De p (Dc p (D4 p (E9 p (An (Ao (A9 (A9 (An bs0 mqtt) (p.fLevel % 256)) (Eb p % 256)) p.fKeep) p.fClient))))) := by
  simp only [Cm] at h15
  rw [Ag5 h3 h15]; (rfl)
 rw [e64]
 exact hj16 x62 (A9 (An bs0 mqtt) (p.fLevel % 256)) (16 * p.fType) _ lx62 (by (simp only [Ay, Aw, Bj, zak]; omega)) (s63.sel (.cons (.here) (.cons (.here) .nil)))
 refine Bg (cs := [su (p.fLevel % 256)]) rfl (Co s2 fun i65 H s66 => ?_)
 have z67 := Cv bs0 mqtt
 simp only [Ay, Aw, Bj, zak] at z67
 refine Cg s66 rfl (.cons .nl (.cons .sc .nil)) (La (n + 5) (by omega) bs0 mqtt (by (simp only [Ay, Aw, Bj, zak]; omega)) (by decide)) (Da (An bs0 mqtt)) fun x68 H lx68 s69 => Ff (s := (An bs0 mqtt)) (z := (p.fLevel % 256)) s69 (.here) (.here) ⟨_, _, rfl, rfl, rfl, rfl⟩ rfl (by omega) fun x70 H lx70 s71 => ?_
 have e72 : F7 p = Gz (16 * p.fType) (De p (Dc p (D4 p (E9 p (An (Ao (A9 (A9 (An bs0 mqtt) (p.fLevel % 256)) (Eb p % 256)) p.fKeep) p.fClient))))) := by
  simp only [Cm] at h15
  rw [Ag5 h3 h15]; (rfl)
 rw [e72]
 exact hj16 x70 (A9 (An bs0 mqtt) (p.fLevel % 256)) (16 * p.fType) _ lx70 (by (simp only [Ay, Aw, Bj, zak]; omega)) (s71.sel (.cons (.here) (.cons (.here) .nil)))
 refine Ax h15 (Be (Aa ((decide (p.fType = 2))) (fun h73 => ?_) (fun h73 => ?_)))
 refine As h73 (Ab (o' := 21) rfl (Ap (c := sb p.fPresent) s2 (.here) rfl (Ab (o' := 20) rfl (Ap (c := si p.fCode) s2 (.here) rfl (Fy (IntKind.wrap_u8 _) ?_)))))
 have q74 := G3 p.fPresent 1 (by decide)
 refine Aq (v := (.int .i64 (Bb p.fPresent 1))) s2 rfl (Ir .nil) (Tl (n + 9) p.fPresent 1) (Fy (IntKind.wrap_u8 _) (Bg (cs := [su ((Bb p.fPresent 1) % 256), su (p.fCode % 256)]) rfl (Co s2 fun i75 H s76 => ?_)))
 have s77 := s76.nl (ty := 22) ⟨_, _, rfl, rfl⟩
 refine Ub (s := bs0) (z := ((Bb p.fPresent 1) % 256)) (w := (p.fCode % 256)) s77 (.here) (.here) ⟨_, _, rfl, rfl, rfl, rfl⟩ (by (simp only [Ay, Bj]; omega)) fun x78 H lx78 s79 => ?_
 have e80 : F7 p = Gz (16 * p.fType) (De p (A9 (A9 bs0 ((Bb p.fPresent 1) % 256)) (p.fCode % 256))) := by
  simp only [Cm] at h15 h73
  rw [Alf h3 h73]
 rw [e80]
 exact hj4 x78 (A9 (A9 bs0 ((Bb p.fPresent 1) % 256)) (p.fCode % 256)) (16 * p.fType) _ lx78 (by (simp only [Ay, Aw, Bj, zak]; omega)) (s79.sel (.cons (.here) (.cons (.here) .nil)))
 refine Ax h73 (Be (Aa ((decide (p.fType = 3))) (fun h81 => ?_) (fun h81 => ?_)))
 refine As h81 (Ab (o' := 1) rfl (Ap (c := sb p.fDup) s2 (.here) rfl (Ab (o' := 2) rfl (Ap (c := si p.fQos) s2 (.here) rfl (Rh (by omega) (by omega) (Ab (o' := 3) rfl (Ap (c := sb p.fRetain) s2 (.here) rfl ?_)))))))
 have q82 := G3 p.fDup 8 (by decide)
 refine Aq (v := (.int .i64 (Bb p.fDup 8))) s2 rfl (Ir .nil) (Tl (n + 9) p.fDup 8) (B9 (by omega) (by omega) (B9 (by omega) (by omega) ?_))
 have q83 := G3 p.fRetain 1 (by decide)
 refine Aq (v := (.int .i64 (Bb p.fRetain 1))) s2 rfl (Ir .nil) (Tl (n + 9) p.fRetain 1) (B9 (by omega) (by omega) (Ab (o' := 5) rfl (Ap (c := ss p.fTopic) s2 (.here) rfl ?_)))
 have z84 := Cv bs0 p.fTopic
 simp only [Ay, Aw, Bj, zak] at z84
 refine Cg s2 rfl (.cons .nl (.cons .sc .nil)) (La (n + 5) (by omega) bs0 p.fTopic (by (simp only [Ay, Aw, Bj, zak]; omega)) hp.t1) (Da (An bs0 p.fTopic)) fun x85 H lx85 s86 => Ab (o' := 2) rfl (Ap (c := .sc (.int .i64 p.fQos)) s86 C0 rfl (Er (Ny (P := fun j => ∀ (x87 : AV) (z87t4 : ByteArray) (f87t3 : Int) (H : Ad), Bn x87 = true → (z87t4.size ≤ 200) → Sep H [.own x87 22 (Ag z87t4), .blk i1 (Ar p) true] → Gd (· = some (Ag (Gz f87t3 (De p (z87t4 ++ p.fBody))))) (j (.ptr i1 0) (.sc (.int .i64 f87t3)) x87 H)) ?_ fun j87 hj87 => ?_)))
 intro x87 z87t4 f87t3 H lx87 hz870 s88
 refine Ab (o' := 6) rfl (Ap (c := Ag p.fBody) s88 C0 rfl (Rf (s := z87t4) s88 ⟨_, _, rfl, rfl, rfl, rfl⟩ (.here) Ui (by omega) fun x89 H lx89 s90 => ?_))
 have e91 : Gz f87t3 (De p (z87t4 ++ p.fBody)) = Gz f87t3 (De p (z87t4 ++ p.fBody)) := by
  simp only [Cm] at h15 h73 h81
  rfl
 rw [e91]
 exact hj4 x89 (z87t4 ++ p.fBody) f87t3 _ lx89 (by (simp only [Ay, Aw, Bj, zak]; omega)) (s90.sel (.cons (.here) (.cons (.here) .nil)))
 refine Aa ((decide (0 < p.fQos))) (fun h92 => ?_) (fun h92 => ?_)
 refine As h92 (Ab (o' := 4) rfl (Ap (c := si p.fId) s86 C0 rfl (Cg s86 rfl (.cons (.own (by decide) (.here)) (.cons .sc .nil)) (R8 (n + 9) (by omega) (An bs0 p.fTopic) p.fId (by omega)) (Da (Ao (An bs0 p.fTopic) p.fId)) fun x93 H lx93 s94 => ?_)))
 have e95 : F7 p = Gz ((((16 * p.fType) + (Bb p.fDup 8)) + (2 * p.fQos)) + (Bb p.fRetain 1)) (De p ((Ao (An bs0 p.fTopic) p.fId) ++ p.fBody)) := by
  simp only [Cm] at h15 h73 h81 h92
  rw [Ag6 h3 h81]; ((simp only [De, Fc, Gy, E9, D4, Dc, Eb, G1, h3, h15, h73, h81, h92, if_true, if_false, zaa]; done))
 rw [e95]
 exact hj87 x93 (Ao (An bs0 p.fTopic) p.fId) ((((16 * p.fType) + (Bb p.fDup 8)) + (2 * p.fQos)) + (Bb p.fRetain 1)) _ lx93 (by (simp only [Ay, Aw, Bj, zak]; omega)) (s94.sel (.cons (.here) (.cons C0 .nil)))
 refine Ax h92 ?_
 have e96 : F7 p = Gz ((((16 * p.fType) + (Bb p.fDup 8)) + (2 * p.fQos)) + (Bb p.fRetain 1)) (De p ((An bs0 p.fTopic) ++ p.fBody)) := by
  simp only [Cm] at h15 h73 h81 h92
  rw [Ag6 h3 h81]; ((simp only [De, Fc, Gy, E9, D4, Dc, Eb, G1, h3, h15, h73, h81, h92, if_true, if_false, zaa]; done))
 rw [e96]
 exact hj87 x85 (An bs0 p.fTopic) ((((16 * p.fType) + (Bb p.fDup 8)) + (2 * p.fQos)) + (Bb p.fRetain 1)) _ lx85 (by omega) (s86.sel (.cons (.here) (.cons (.here) .nil)))
 refine Ax h81 (Be (Di (Aa ((decide (p.fType = 6))) (fun h97 => ?_) (fun h97 => ?_))))
 refine As h97 (As h97 (B9 (by omega) (by omega) ?_))
 have s98 := s2.nl (ty := 22) ⟨_, _, rfl, rfl⟩
 have e99 : F7 p = Gz ((16 * p.fType) + 2) (De p bs0) := by
  clear hj4 s0 s2 s98
  simp only [Cm] at h15 h73 h81 h97
  exact Za h3 h15 h73 h81 (by unfold C4; (repeat' split) <;> omega)
 rw [e99]
 exact hj4 .nl bs0 ((16 * p.fType) + 2) _ rfl (by (simp only [Ay, Aw, Bj, zak]; omega)) (s98.sel (.cons (.here) (.cons (.here) .nil)))
 refine Ax h97 (Be (Aa ((decide (p.fType = 8))) (fun h100 => ?_) (fun h100 => ?_)))
 refine As h100 (As h100 (B9 (by omega) (by omega) ?_))
 have s101 := s2.nl (ty := 22) ⟨_, _, rfl, rfl⟩
 have e102 : F7 p = Gz ((16 * p.fType) + 2) (De p bs0) := by
  clear hj4 s0 s2 s101
  simp only [Cm] at h15 h73 h81 h97 h100
  exact Za h3 h15 h73 h81 (by unfold C4; (repeat' split) <;> omega)
 rw [e102]
 exact hj4 .nl bs0 ((16 * p.fType) + 2) _ rfl (by (simp only [Ay, Aw, Bj, zak]; omega)) (s101.sel (.cons (.here) (.cons (.here) .nil)))
 refine Ax h100 (Be (Aa ((decide (p.fType = 10))) (fun h103 => ?_) (fun h103 => ?_)))
 refine As h103 (B9 (by omega) (by omega) ?_)
 have s104 := s2.nl (ty := 22) ⟨_, _, rfl, rfl⟩
 have e105 : F7 p = Gz ((16 * p.fType) + 2) (De p bs0) := by
  clear hj4 s0 s2 s104
  simp only [Cm] at h15 h73 h81 h97 h100 h103
  exact Za h3 h15 h73 h81 (by unfold C4; (repeat' split) <;> omega)
 rw [e105]
 exact hj4 .nl bs0 ((16 * p.fType) + 2) _ rfl (by (simp only [Ay, Aw, Bj, zak]; omega)) (s104.sel (.cons (.here) (.cons (.here) .nil)))
 refine Ax h103 ?_
 have s106 := s2.nl (ty := 22) ⟨_, _, rfl, rfl⟩
 have e107 : F7 p = Gz (16 * p.fType) (De p bs0) := by
  clear hj4 s0 s2 s106
  simp only [Cm] at h15 h73 h81 h97 h100 h103
  exact Za h3 h15 h73 h81 (by unfold C4; (repeat' split) <;> omega)
 rw [e107]
 exact hj4 .nl bs0 (16 * p.fType) _ rfl (by (simp only [Ay, Aw, Bj, zak]; omega)) (s106.sel (.cons (.here) (.cons (.here) .nil)))
 refine As (nT h3) ?_
 have s108 := s2.nl (ty := 22) ⟨_, _, rfl, rfl⟩
 refine Ai (Dm s108 .here) ?_
 have e : F7 p = bs0 := by
  (simp only [F7, Gz, H8, h3, if_true, if_false, zaa]; done)
 rw [e]
 rfl
end
section
open Go
theorem Acr (n : Nat) (hn : 1048576 < n) (B : ByteArray) (a : Int) (hB : B.size ≤ 1099511627776) (ha : -1152921504606846976 ≤ a ∧ a ≤ 1152921504606846976) : Dd E0 (n + 1) 110 130 [Ag B, .sc (.int .i64 a)] = some (.tup [.sc (.int .i64 (Bq B a).1), .sc (.int .i64 (Bq B a).2.1), .sc (.bool (Bq B a).2.2)]) := by
 rw [Bd, Ah7, f130]
 refine C6 (G := (· = some (.tup [.sc (.int .i64 (Bq B a).1), .sc (.int .i64 (Bq B a).2.1), .sc (.bool (Bq B a).2.2)]))) ?_
 try simp only [Ba, A4, Av, Bh, Pr.gT, Pr.gF, Pr.hT, Pr.hF, Pr.kT, Pr.kF, Bv, B5, Bu, Dh]
 have s0 : Sep [] [] := Cx
 refine Dw (Aa ((decide (a < 0))) (fun h1 => ?_) (fun h1 => ?_))
 have dh1 := of_decide_eq_true h1
 refine Ac h1 (Ac h1 (Ac h1 (Ac h1 (Ac h1 (B4 h1 (As rfl (Ai (Cl s0 rfl (Wz .nil) (W0 trivial)) ?_)))))))
 have e : Bq B a = (0, 0, false) := by
  clear s0
  simp only [Cm] at h1
  unfold Bq; rw [if_pos (by omega)]
 rw [e]
 have dh1 := of_decide_eq_false h1
 refine Ae h1 (Ae h1 (Ae h1 (Cz (Ae h1 (O2 (by omega) (by omega) (Ae h1 (Er (A7 h1 (Aa ((decide ((((B.size : Nat) : Int) - 2) < a))) (fun h2 => ?_) (fun h2 => ?_))))))))))
 have dh2 := of_decide_eq_true h2
 refine As h2 (Ai (Cl s0 rfl (Wz .nil) (W0 trivial)) ?_)
 have e : Bq B a = (0, 0, false) := by
  clear s0
  simp only [Cm] at h1 h2
  unfold Bq; rw [if_pos (by omega)]
 rw [e]
 have dh2 := of_decide_eq_false h2
 refine Ax h2 ?_
 have w3 := Ef B a
 refine Gr (by omega) (by omega) fun _ => Fg (c := su (A5 B a)) rfl (Kt (by omega) (by omega) (AfZ 256 rfl (by decide) (by omega) (by omega) (B9 (by omega) (by omega) ?_)))
 have w4 := Ef B (a + 1)
 refine Gr (by omega) (by omega) fun _ => Fg (c := su (A5 B (a + 1))) rfl (Kt (by omega) (by omega) (AkP (Ug 8 _ _ (by omega) (by omega) (by omega) (by omega) (by omega) (by omega)) (B9 (by omega) (by omega) (Ai (Cl s0 rfl (Wz .nil) (W0 trivial)) ?_))))
 have e : Bq B a = ((((A5 B a) * 256) + (A5 B (a + 1))), (a + 2), true) := by
  clear s0
  simp only [Cm] at h1 h2
  unfold Bq; rw [if_neg (by omega)]
 rw [e]
theorem P6 (n : Nat) (hn : 1048576 < n) (B : ByteArray) (a : Int) (hB : B.size ≤ 1099511627776) (ha : -1152921504606846976 ≤ a ∧ a ≤ 1152921504606846976) : Dd E0 (n + 1) 110 88 [Ag B, .sc (.int .i64 a)] = some (.tup [.sc (.int .i64 (Bq B a).1), .sc (.int .i64 (Bq B a).2.1), .sc (.bool (Bq B a).2.2)]) := by
 rw [Bd, Ak9, f88]
 refine C6 (G := (· = some (.tup [.sc (.int .i64 (Bq B a).1), .sc (.int .i64 (Bq B a).2.1), .sc (.bool (Bq B a).2.2)]))) ?_
 try simp only [Ba, A4, Av, Bh, Pr.gT, Pr.gF, Pr.hT, Pr.hF, Pr.kT, Pr.kF, Bv, B5, Bu, Dh]
 have s0 : Sep [] [] := Cx
 refine Dw (Aa ((decide (a < 0))) (fun h1 => ?_) (fun h1 => ?_))
 have dh1 := of_decide_eq_true h1
 refine Ac h1 (Ac h1 (Ac h1 (Ac h1 (Ac h1 (B4 h1 (As rfl (Ai (Cl s0 rfl (Wz .nil) (W0 trivial)) ?_)))))))
 have e : Bq B a = (0, 0, false) := by
  clear s0
  simp only [Cm] at h1
  unfold Bq; rw [if_pos (by omega)]
 rw [e]
 have dh1 := of_decide_eq_false h1
 refine Ae h1 (Ae h1 (Ae h1 (Cz (Ae h1 (O2 (by omega) (by omega) (Ae h1 (Er (A7 h1 (Aa ((decide ((((B.size : Nat) : Int) - 2) < a))) (fun h2 => ?_) (fun h2 => ?_))))))))))
 have dh2 := of_decide_eq_true h2
 refine As h2 (Ai (Cl s0 rfl (Wz .nil) (W0 trivial)) ?_)
 have e : Bq B a = (0, 0, false) := by
  clear s0
  simp only [Cm] at h1 h2
  unfold Bq; rw [if_pos (by omega)]
 rw [e]
 have dh2 := of_decide_eq_false h2
 refine Ax h2 ?_
 have w3 := Ef B a
 refine Gr (by omega) (by omega) fun _ => Fg (c := su (A5 B a)) rfl (Kt (by omega) (by omega) (Rh (by omega) (by omega) (B9 (by omega) (by omega) ?_)))
 have w4 := Ef B (a + 1)
 refine Gr (by omega) (by omega) fun _ => Fg (c := su (A5 B (a + 1))) rfl (Kt (by omega) (by omega) (B9 (by omega) (by omega) (B9 (by omega) (by omega) (Ai (Cl s0 rfl (Wz .nil) (W0 trivial)) ?_))))
 have e : Bq B a = ((((A5 B a) * 256) + (A5 B (a + 1))), (a + 2), true) := by
  clear s0
  simp only [Cm] at h1 h2
  unfold Bq; rw [if_neg (by omega)]
 rw [e]
theorem Aiv (n : Nat) (hn : 1048576 < n) (B : ByteArray) (a : Int) (hB : B.size ≤ 1099511627776) (ha : -1152921504606846976 ≤ a ∧ a ≤ 1152921504606846976) : Dd E0 (n + 5) 131 146 [Ag B, .sc (.int .i64 a)] = some (.tup [Ag (Bk B a).1, .sc (.int .i64 (Bk B a).2.1), .sc (.bool (Bk B a).2.2)]) := by
 rw [Bd, AhJ, f146]
 refine C6 (G := (· = some (.tup [Ag (Bk B a).1, .sc (.int .i64 (Bk B a).2.1), .sc (.bool (Bk B a).2.2)]))) ?_
 try simp only [Cq, A4, D5, Av, Bh, Pr.gT, Pr.gF, Pr.hT, Pr.hF, Pr.kT, Pr.kF, Bv, B5, Ho, Ct, Iw]
 have s0 : Sep [] [] := Cx
 obtain ⟨wq1, yq1, oq1, q1⟩ : ∃ w y o, Bq B a = (w, y, o) := ⟨_, _, _, rfl⟩
 have bq1 := F5 q1
 refine Ew s0 rfl (.cons .ro (.cons .sc .nil)) (by have h := Acr (n + 3) (by omega) B a (by omega) (by omega); rw [q1] at h; exact h) rfl (Bm (Bm (Bm Et))) ?_
 rintro _ _ H ⟨_, rfl, ⟨_, rfl, ⟨_, rfl, ⟨rfl, rfl⟩⟩⟩⟩ s2
 simp only [zal] at s2
 refine B0 (v := si wq1) rfl (B0 (v := si yq1) rfl (B0 (v := sb oq1) rfl (C2 (Aa (oq1) (fun h3 => ?_) (fun h3 => ?_)))))
 refine Ae (nF h3) (Ae (nF h3) (Er (A7 (nF h3) (Aa ((decide (60 < wq1))) (fun h4 => ?_) (fun h4 => ?_)))))
 have dh4 := of_decide_eq_true h4
 refine Ac h4 (Ac h4 (Ac h4 (Ac h4 (Ac h4 (Ac h4 (B4 h4 (As rfl (Ai (Cl s2 rfl (.nl (.sc (.sc .nil))) ⟨(Am ⟨_, _, rfl, rfl⟩), (Fn trivial)⟩) ?_))))))))
 have e : Bk B a = (bs0, 0, false) := by
  clear s0 s2
  simp only [Cm] at h4
  unfold Bk; rw [q1]; show (if oq1 = false ∨ 60 < wq1 ∨ ((B.size : Nat) : Int) - yq1 < wq1 then _ else _) = _; rw [if_pos (by exact Or.inr (Or.inl (by assumption)))]
 rw [e]
 rfl
 have dh4 := of_decide_eq_false h4
 refine Ae h4 (Ae h4 (Ae h4 (Cz (Ae h4 (Ae h4 (O2 (by omega) (by omega) (Ae h4 (Er (A7 h4 (Aa ((decide ((((B.size : Nat) : Int) - yq1) < wq1))) (fun h5 => ?_) (fun h5 => ?_)))))))))))
 have dh5 := of_decide_eq_true h5
 refine As h5 (Ai (Cl s2 rfl (.nl (.sc (.sc .nil))) ⟨(Am ⟨_, _, rfl, rfl⟩), (Fn trivial)⟩) ?_)
 have e : Bk B a = (bs0, 0, false) := by
  clear s0 s2
  simp only [Cm] at h4 h5
  unfold Bk; rw [q1]; show (if oq1 = false ∨ 60 < wq1 ∨ ((B.size : Nat) : Int) - yq1 < wq1 then _ else _) = _; rw [if_pos (by exact Or.inr (Or.inr (by assumption)))]
 rw [e]
 rfl
 have dh5 := of_decide_eq_false h5
 refine Ax h5 (B9 (by omega) (by omega) (Gs yq1 (yq1 + wq1) rfl rfl (by omega) (by omega) (by omega) ?_))
 have z6 := zat (a := B) (b := yq1.toNat) (e := (yq1 + wq1).toNat)
 refine Bg (cs := [Ag (B.extract yq1.toNat (yq1 + wq1).toNat)]) rfl (Co s2 fun i7 H s8 => Cg s8 rfl (.sl (.here) rfl (.cons .ro .nil) .nil) (M5 n (by omega) (B.extract yq1.toNat (yq1 + wq1).toNat) (by omega)) (Da (B.extract yq1.toNat (yq1 + wq1).toNat)) fun x9 H lx9 s10 => B9 (by omega) (by omega) (Ai (Cl s10 rfl (.own (.here) (.sc (.sc .nil))) ⟨(Cd (Da (B.extract yq1.toNat (yq1 + wq1).toNat)) (by decide)), (Fn trivial)⟩) ?_))
 have e : Bk B a = ((B.extract yq1.toNat (yq1 + wq1).toNat), (yq1 + wq1), true) := by
  clear s0 s2 s8 s10
  simp only [Cm] at h4 h5
  unfold Bk; rw [q1]; show (if oq1 = false ∨ 60 < wq1 ∨ ((B.size : Nat) : Int) - yq1 < wq1 then _ else _) = _; rw [if_neg (by rintro (k | k | k) <;> first | omega | (simp_all; done))]
 rw [e]
 refine Ac (nT h3) (Ac (nT h3) (B4 (nT h3) (Ac rfl (Ac rfl (Ac rfl (Ac rfl (Ac rfl (Ac rfl (B4 rfl (As rfl (Ai (Cl s2 rfl (.nl (.sc (.sc .nil))) ⟨(Am ⟨_, _, rfl, rfl⟩), (Fn trivial)⟩) ?_)))))))))))
 have e : Bk B a = (bs0, 0, false) := by
  clear s0 s2
  unfold Bk; rw [q1]; show (if oq1 = false ∨ 60 < wq1 ∨ ((B.size : Nat) : Int) - yq1 < wq1 then _ else _) = _; rw [if_pos (by exact Or.inl (by assumption))]
 rw [e]
 rfl
theorem P5 (n : Nat) (hn : 1048576 < n) (B : ByteArray) (a : Int) (hB : B.size ≤ 1099511627776) (ha : -1152921504606846976 ≤ a ∧ a ≤ 1152921504606846976) : Dd E0 (n + 2) 131 126 [Ag B, .sc (.int .i64 a)] = some (.tup [Ag (Bk B a).1, .sc (.int .i64 (Bk B a).2.1), .sc (.bool (Bk B a).2.2)]) := by
 rw [Bd, Ah3, f126]
 refine C6 (G := (· = some (.tup [Ag (Bk B a).1, .sc (.int .i64 (Bk B a).2.1), .sc (.bool (Bk B a).2.2)]))) ?_
 try simp only [A4, D5, Av, Bh, Pr.gT, Pr.gF, Pr.hT, Pr.hF, Pr.kT, Pr.kF, Bv, B5, Ho, Du, Iw]
 have s0 : Sep [] [] := Cx
 obtain ⟨wq1, yq1, oq1, q1⟩ : ∃ w y o, Bq B a = (w, y, o) := ⟨_, _, _, rfl⟩
 have bq1 := F5 q1
 refine Ew s0 rfl (.cons .ro (.cons .sc .nil)) (by have h := P6 n (by omega) B a (by omega) (by omega); rw [q1] at h; exact h) rfl (Bm (Bm (Bm Et))) ?_
 rintro _ _ H ⟨_, rfl, ⟨_, rfl, ⟨_, rfl, ⟨rfl, rfl⟩⟩⟩⟩ s2
 simp only [zal] at s2
 refine B0 (v := si wq1) rfl (B0 (v := si yq1) rfl (B0 (v := sb oq1) rfl (C2 (Aa (oq1) (fun h3 => ?_) (fun h3 => ?_)))))
 refine Ae (nF h3) (Ae (nF h3) (Er (A7 (nF h3) (Aa ((decide (60 < wq1))) (fun h4 => ?_) (fun h4 => ?_)))))
 have dh4 := of_decide_eq_true h4
 refine Ac h4 (Ac h4 (Ac h4 (Ac h4 (Ac h4 (Ac h4 (B4 h4 (As rfl (Ai (Cl s2 rfl (.nl (.sc (.sc .nil))) ⟨(Am ⟨_, _, rfl, rfl⟩), (Fn trivial)⟩) ?_))))))))
 have e : Bk B a = (bs0, 0, false) := by
  clear s0 s2
  simp only [Cm] at h4
  unfold Bk; rw [q1]; show (if oq1 = false ∨ 60 < wq1 ∨ ((B.size : Nat) : Int) - yq1 < wq1 then _ else _) = _; rw [if_pos (by exact Or.inr (Or.inl (by assumption)))]
 rw [e]
 rfl
 have dh4 := of_decide_eq_false h4
 refine Ae h4 (Ae h4 (Ae h4 (Cz (Ae h4 (Ae h4 (O2 (by omega) (by omega) (Ae h4 (Er (A7 h4 (Aa ((decide ((((B.size : Nat) : Int) - yq1) < wq1))) (fun h5 => ?_) (fun h5 => ?_)))))))))))
 have dh5 := of_decide_eq_true h5
 refine As h5 (Ai (Cl s2 rfl (.nl (.sc (.sc .nil))) ⟨(Am ⟨_, _, rfl, rfl⟩), (Fn trivial)⟩) ?_)
 have e : Bk B a = (bs0, 0, false) := by
  clear s0 s2
  simp only [Cm] at h4 h5
  unfold Bk; rw [q1]; show (if oq1 = false ∨ 60 < wq1 ∨ ((B.size : Nat) : Int) - yq1 < wq1 then _ else _) = _; rw [if_pos (by exact Or.inr (Or.inr (by assumption)))]
 rw [e]
 rfl
 have dh5 := of_decide_eq_false h5
 refine Ax h5 (B9 (by omega) (by omega) (Gs yq1 (yq1 + wq1) rfl rfl (by omega) (by omega) (by omega) ?_))
 have z6 := zat (a := B) (b := yq1.toNat) (e := (yq1 + wq1).toNat)
 refine Ji s2 (by omega) fun x7 H lx7 s8 => B9 (by omega) (by omega) (Ai (Cl s8 rfl (.own (.here) (.sc (.sc .nil))) ⟨(Cd (Da (B.extract yq1.toNat (yq1 + wq1).toNat)) (by decide)), (Fn trivial)⟩) ?_)
 have e : Bk B a = ((B.extract yq1.toNat (yq1 + wq1).toNat), (yq1 + wq1), true) := by
  clear s0 s2 s8
  simp only [Cm] at h4 h5
  unfold Bk; rw [q1]; show (if oq1 = false ∨ 60 < wq1 ∨ ((B.size : Nat) : Int) - yq1 < wq1 then _ else _) = _; rw [if_neg (by rintro (k | k | k) <;> first | omega | (simp_all; done))]
 rw [e]
 refine Ac (nT h3) (Ac (nT h3) (B4 (nT h3) (Ac rfl (Ac rfl (Ac rfl (Ac rfl (Ac rfl (Ac rfl (B4 rfl (As rfl (Ai (Cl s2 rfl (.nl (.sc (.sc .nil))) ⟨(Am ⟨_, _, rfl, rfl⟩), (Fn trivial)⟩) ?_)))))))))))
 have e : Bk B a = (bs0, 0, false) := by
  clear s0 s2
  unfold Bk; rw [q1]; show (if oq1 = false ∨ 60 < wq1 ∨ ((B.size : Nat) : Int) - yq1 < wq1 then _ else _) = _; rw [if_pos (by exact Or.inl (by assumption))]
 rw [e]
 rfl
theorem K9 (n : Nat) (hn : 1048576 < n) (B : ByteArray) (a : Int) (hB : B.size ≤ 1099511627776) (ha : -1152921504606846976 ≤ a ∧ a ≤ 1152921504606846976) : Dd E0 (n + 5) 108 87 [Ag B, .sc (.int .i64 a)] = some (.tup [.sc (.string (Cc B a).1), .sc (.int .i64 (Cc B a).2.1), .sc (.bool (Cc B a).2.2)]) := by
 rw [Bd, Ak8, f87]
 refine C6 (G := (· = some (.tup [.sc (.string (Cc B a).1), .sc (.int .i64 (Cc B a).2.1), .sc (.bool (Cc B a).2.2)]))) ?_
 try simp only [D5, Av, Bh, Pr.gT, Pr.gF, Pr.hT, Pr.hF, Pr.kT, Pr.kF, Bv, Gm, Iw]
 have s0 : Sep [] [] := Cx
 obtain ⟨vq1, yq1, oq1, q1⟩ : ∃ w y o, Bk B a = (w, y, o) := ⟨_, _, _, rfl⟩
 have bq1 := Fo q1
 refine Ew s0 rfl (.cons .ro (.cons .sc .nil)) (by have h := P5 (n + 2) (by omega) B a (by omega) (by omega); rw [q1] at h; exact h) rfl (J8 (ty := 22) rfl (Da vq1) (Bm (Bm Et))) ?_
 rintro _ _ H ⟨x2, _, _, lx2, rfl, rfl, ⟨_, rfl, ⟨_, rfl, ⟨rfl, rfl⟩⟩⟩⟩ s3
 simp only [zal, zaz] at s3
 refine B0 (v := x2) rfl (B0 (v := si yq1) rfl (B0 (v := sb oq1) rfl (C2 (Aa (oq1) (fun h4 => ?_) (fun h4 => ?_)))))
 refine Ae (nF h4) (Ae (nF h4) (Mo s3 ⟨_, _, rfl, rfl, rfl, rfl⟩ (.here) (Ae (nF h4) (Aq (v := (.bool (Bi vq1))) s3 rfl (.cons .sc .nil) (Gk n (by omega) _ vq1) (Ae (nF h4) (C2 (A7 (nF h4) (Aa ((Bi vq1)) (fun h5 => ?_) (fun h5 => ?_)))))))))
 refine Ax (nF h5) (Mo s3 ⟨_, _, rfl, rfl, rfl, rfl⟩ (.here) (Ai (Cl s3 rfl (Wz .nil) (W0 trivial)) ?_))
 have e : Cc B a = (vq1, yq1, true) := by
  unfold Cc; rw [q1]; simp only [h4, h5, zaA, zaI, zaF, Bool.and_false, if_true, if_false, zaa]
 rw [e]
 refine As (nT h5) (Ai (Cl s3 rfl (Wz .nil) (W0 trivial)) ?_)
 have e : Cc B a = (⟨#[]⟩, 0, false) := by
  unfold Cc; rw [q1]; simp only [h4, h5, zaA, zaI, zaF, Bool.and_false, if_true, if_false, zaa]
 rw [e]
 refine Ac (nT h4) (Ac (nT h4) (Ac (nT h4) (Ac (nT h4) (B4 (nT h4) (As rfl (Ai (Cl s3 rfl (Wz .nil) (W0 trivial)) ?_))))))
 have e : Cc B a = (⟨#[]⟩, 0, false) := by
  unfold Cc; rw [q1]; simp only [h4, zaA, zaI, zaF, Bool.and_false, if_true, if_false, zaa]
 rw [e]
theorem Xl (n : Nat) (hn : 1048576 < n) (B : ByteArray) (a : Int) (hB : B.size ≤ 1099511627776) (ha : 0 ≤ a) : ∀ (f m : Nat) (i z : Int) (H : Ad), f < m → i + f = 4 → 0 ≤ i → a + i ≤ ((B.size : Nat) : Int) → Gd (· = some (.tup [.sc (.int .i64 (Eg B a f i z).1), .sc (.int .i64 (Eg B a f i z).2.1), .sc (.int .i64 (Eg B a f i z).2.2)])) (Qp (PR (n + 1) AV) (n + 1) (fun x H => Bf Au E0.tp 85 H x) m (Ag B) (.sc (.int .i64 a)) (.sc (.int .i64 z)) (.sc (.int .i64 i)) H)
 | 0, m + 1, i, z, H, hm, hi, h0, hs => by
  have s0 : Sep H [] := Cx
  rw [Qp]
  try simp only [Ba, A4, Av, Bh, Pr.gT, Pr.gF, Pr.hT, Pr.hF, Pr.kT, Pr.kF, Bv, B5, Bu, Dh]
  have hk : decide (i < 4) = false := by simp; omega
  refine Dw (Ax hk (Ai (Cl s0 rfl (Wz .nil) (W0 trivial)) ?_))
  have e : Eg B a 0 i z = (0, 0, 2) := by
   rw [Eg]
  rw [e]
 | f + 1, m + 1, i, z, H, hm, hi, h0, hs => by
  have s0 : Sep H [] := Cx
  rw [Qp]
  try simp only [Ba, A4, Av, Bh, Pr.gT, Pr.gF, Pr.hT, Pr.hF, Pr.kT, Pr.kF, Bv, B5, Bu, Dh]
  have hk : decide (i < 4) = true := by simp; omega
  refine Dw (As hk (B9 (by omega) (by omega) (Cz (Be (Aa ((decide ((a + i) = ((B.size : Nat) : Int)))) (fun h1 => ?_) (fun h1 => ?_))))))
  have dh1 := of_decide_eq_true h1
  refine As h1 (Ai (Cl s0 rfl (Wz .nil) (W0 trivial)) ?_)
  have e : Eg B a (f + 1) i z = (0, 0, 1) := by
   clear s0
   rw [Eg]
   (repeat' split) <;> first | rfl | (exfalso; omega)
  rw [e]
  have dh1 := of_decide_eq_false h1
  refine Ax h1 (B9 (by omega) (by omega) ?_)
  have w2 := Ef B (a + i)
  refine Gr (by omega) (by omega) fun _ => Fg (c := .sc (.int .u8 (A5 B (a + i)))) rfl (Kt (by omega) (by omega) (Gq rfl (Rh (by omega) (by omega) (AfZ (2 ^ (7 * i).toNat) rfl (by omega) (by have h := Wi (x := (bits .and .i64 (A5 B (a + i)) 127)) (i := i) (by rw [Oq (by omega) (by omega)]; omega) (by omega); omega) (by have h := Wi (x := (bits .and .i64 (A5 B (a + i)) 127)) (i := i) (by rw [Oq (by omega) (by omega)]; omega) (by omega); omega) (AkP rfl (Er (Aa ((decide (127 < (A5 B (a + i))))) (fun h3 => ?_) (fun h3 => ?_))))))))
  have dh3 := of_decide_eq_true h3
  refine As h3 (B9 (by omega) (by omega) ?_)
  have e : Eg B a (f + 1) i z = Eg B a f (i + 1) (bits .or .i64 z ((bits .and .i64 (A5 B (a + i)) 127) * 2 ^ (7 * i).toNat)) := by
   rw [Eg, if_neg (by omega), if_neg (by omega)]
  rw [e]
  exact Xl n hn B a hB ha f m _ _ _ (by omega) (by omega) (by omega) (by omega)
  have dh3 := of_decide_eq_false h3
  refine Ax h3 (Er (Aa ((decide (0 < i))) (fun h4 => ?_) (fun h4 => ?_)))
  have dh4 := of_decide_eq_true h4
  refine Ae h4 (Ae h4 (Be (B4 h4 (Aa ((decide ((A5 B (a + i)) = 0))) (fun h5 => ?_) (fun h5 => ?_)))))
  have dh5 := of_decide_eq_true h5
  refine As h5 (Ai (Cl s0 rfl (Wz .nil) (W0 trivial)) ?_)
  have e : Eg B a (f + 1) i z = (0, 0, 2) := by
   clear s0
   rw [Eg]
   (repeat' split) <;> first | rfl | (exfalso; omega)
  rw [e]
  have dh5 := of_decide_eq_false h5
  refine Ax h5 (B9 (by omega) (by omega) (B9 (by omega) (by omega) (Ai (Cl s0 rfl (Wz .nil) (W0 trivial)) ?_)))
  have e : Eg B a (f + 1) i z = ((bits .or .i64 z ((bits .and .i64 (A5 B (a + i)) 127) * 2 ^ (7 * i).toNat)), ((a + i) + 1), 0) := by
   clear s0
   rw [Eg]
   (repeat' split) <;> first | rfl | (exfalso; omega)
  rw [e]
  have dh4 := of_decide_eq_false h4
  refine Ac h4 (Ac h4 (A7 h4 (Ax rfl (B9 (by omega) (by omega) (B9 (by omega) (by omega) (Ai (Cl s0 rfl (Wz .nil) (W0 trivial)) ?_))))))
  have e : Eg B a (f + 1) i z = ((bits .or .i64 z ((bits .and .i64 (A5 B (a + i)) 127) * 2 ^ (7 * i).toNat)), ((a + i) + 1), 0) := by
   clear s0
   rw [Eg]
   (repeat' split) <;> first | rfl | (exfalso; omega)
  rw [e]
theorem Aiw (n : Nat) (hn : 1048576 < n) (B : ByteArray) (a : Int) (hB : B.size ≤ 1099511627776) (ha : -1152921504606846976 ≤ a ∧ a ≤ 1152921504606846976) : Dd E0 (n + 2) 85 68 [Ag B, .sc (.int .i64 a)] = some (.tup [.sc (.int .i64 (C9 B a).1), .sc (.int .i64 (C9 B a).2.1), .sc (.int .i64 (C9 B a).2.2)]) := by
 rw [Bd, Akx, f68]
 refine C6 (G := (· = some (.tup [.sc (.int .i64 (C9 B a).1), .sc (.int .i64 (C9 B a).2.1), .sc (.int .i64 (C9 B a).2.2)]))) ?_
 try simp only [D5, Av, B5]
 have s0 : Sep [] [] := Cx
 refine Cz (Aq (v := (.bool (B3 a 0 ((B.size : Nat) : Int)))) s0 rfl (My .nil) (Hz n _ a 0 ((B.size : Nat) : Int)) (C2 (Aa ((B3 a 0 ((B.size : Nat) : Int))) (fun h1 => ?_) (fun h1 => ?_))))
 refine Ax (nF h1) ?_
 have e : C9 B a = Eg B a 4 0 0 := by
  clear s0
  simp only [B3, zag, decide_eq_true_eq] at h1; unfold C9; rw [if_neg (by omega)]
 rw [e]
 have hv := h1; simp only [B3, zag, decide_eq_true_eq] at hv; exact Xl n hn B a hB (by omega) 4 _ 0 0 _ (by omega) (by omega) (by omega) (by omega)
 refine As (nT h1) (Ai (Cl s0 rfl (Wz .nil) (W0 trivial)) ?_)
 have e : C9 B a = (0, 0, 2) := by
  clear s0
  simp only [B3, Bool.and_eq_false_iff, decide_eq_false_iff_not] at h1; unfold C9; rw [if_pos (by omega)]
 rw [e]
theorem Ya (n : Nat) (hn : 1048576 < n) (B : ByteArray) (a : Int) (hB : B.size ≤ 1099511627776) (ha : 0 ≤ a) : ∀ (f m : Nat) (i z : Int) (H : Ad), f < m → i + f = 4 → 0 ≤ i → a + i ≤ ((B.size : Nat) : Int) → Gd (· = some (.tup [.sc (.int .i64 (Eg B a f i z).1), .sc (.int .i64 (Eg B a f i z).2.1), .sc (.int .i64 (Eg B a f i z).2.2)])) (Qn (PR (n + 1) AV) (n + 1) (fun x H => Bf Au E0.tp 85 H x) m (Ag B) (.sc (.int .i64 a)) (.sc (.int .i64 z)) (.sc (.int .i64 i)) H)
 | 0, m + 1, i, z, H, hm, hi, h0, hs => by
  have s0 : Sep H [] := Cx
  rw [Qn]
  try simp only [Ba, A4, Av, Bh, Pr.gT, Pr.gF, Pr.hT, Pr.hF, Pr.kT, Pr.kF, Bv, B5, Bu, Dh]
  have hk : decide (i < 4) = false := by simp; omega
  refine Dw (Ax hk (Ai (Cl s0 rfl (Wz .nil) (W0 trivial)) ?_))
  have e : Eg B a 0 i z = (0, 0, 2) := by
   rw [Eg]
  rw [e]
 | f + 1, m + 1, i, z, H, hm, hi, h0, hs => by
  have s0 : Sep H [] := Cx
  rw [Qn]
  try simp only [Ba, A4, Av, Bh, Pr.gT, Pr.gF, Pr.hT, Pr.hF, Pr.kT, Pr.kF, Bv, B5, Bu, Dh]
  have hk : decide (i < 4) = true := by simp; omega
  refine Dw (As hk (B9 (by omega) (by omega) (Cz (Aj9 (Aa ((decide (((B.size : Nat) : Int) ≤ (a + i)))) (fun h1 => ?_) (fun h1 => ?_))))))
  have dh1 := of_decide_eq_true h1
  refine As h1 (Ai (Cl s0 rfl (Wz .nil) (W0 trivial)) ?_)
  have e : Eg B a (f + 1) i z = (0, 0, 1) := by
   rw [Eg]
   (repeat' split) <;> (rfl)
  rw [e]
  have dh1 := of_decide_eq_false h1
  refine Ax h1 (B9 (by omega) (by omega) ?_)
  have w2 := Ef B (a + i)
  refine Gr (by omega) (by omega) fun _ => Fg (c := .sc (.int .u8 (A5 B (a + i)))) rfl (Kt (by omega) (by omega) (Gq rfl (Rh (by omega) (by omega) (AfZ (2 ^ (7 * i).toNat) rfl (by omega) (by have h := Wi (x := (bits .and .i64 (A5 B (a + i)) 127)) (i := i) (by rw [Oq (by omega) (by omega)]; omega) (by omega); omega) (by have h := Wi (x := (bits .and .i64 (A5 B (a + i)) 127)) (i := i) (by rw [Oq (by omega) (by omega)]; omega) (by omega); omega) (AkP rfl (Dw (Aa ((decide ((A5 B (a + i)) < 128))) (fun h3 => ?_) (fun h3 => ?_))))))))
  have dh3 := of_decide_eq_true h3
  refine As h3 (Er (Aa ((decide (0 < i))) (fun h4 => ?_) (fun h4 => ?_)))
  have dh4 := of_decide_eq_true h4
  refine Ae h4 (Ae h4 (Be (B4 h4 (Aa ((decide ((A5 B (a + i)) = 0))) (fun h5 => ?_) (fun h5 => ?_)))))
  have dh5 := of_decide_eq_true h5
  refine As h5 (Ai (Cl s0 rfl (Wz .nil) (W0 trivial)) ?_)
  have e : Eg B a (f + 1) i z = (0, 0, 2) := by
   clear s0
   rw [Eg]
   (repeat' split) <;> first | rfl | (exfalso; omega)
  rw [e]
  have dh5 := of_decide_eq_false h5
  refine Ax h5 (B9 (by omega) (by omega) (B9 (by omega) (by omega) (Ai (Cl s0 rfl (Wz .nil) (W0 trivial)) ?_)))
  have e : Eg B a (f + 1) i z = ((bits .or .i64 z ((bits .and .i64 (A5 B (a + i)) 127) * 2 ^ (7 * i).toNat)), ((a + i) + 1), 0) := by
   clear s0
   rw [Eg]
   (repeat' split) <;> first | rfl | (exfalso; omega)
  rw [e]
  have dh4 := of_decide_eq_false h4
  refine Ac h4 (Ac h4 (A7 h4 (Ax rfl (B9 (by omega) (by omega) (B9 (by omega) (by omega) (Ai (Cl s0 rfl (Wz .nil) (W0 trivial)) ?_))))))
  have e : Eg B a (f + 1) i z = ((bits .or .i64 z ((bits .and .i64 (A5 B (a + i)) 127) * 2 ^ (7 * i).toNat)), ((a + i) + 1), 0) := by
   clear s0
   rw [Eg]
   (repeat' split) <;> first | rfl | (exfalso; omega)
  rw [e]
  have dh3 := of_decide_eq_false h3
  refine Ax h3 (B9 (by omega) (by omega) ?_)
  have e : Eg B a (f + 1) i z = Eg B a f (i + 1) (bits .or .i64 z ((bits .and .i64 (A5 B (a + i)) 127) * 2 ^ (7 * i).toNat)) := by
   rw [Eg, if_neg (by omega), if_neg (by omega)]
  rw [e]
  exact Ya n hn B a hB ha f m _ _ _ (by omega) (by omega) (by omega) (by omega)
theorem AiX (n : Nat) (hn : 1048576 < n) (B : ByteArray) (a : Int) (hB : B.size ≤ 1099511627776) (ha : -1152921504606846976 ≤ a ∧ a ≤ 1152921504606846976) : Dd E0 (n + 2) 85 62 [Ag B, .sc (.int .i64 a)] = some (.tup [.sc (.int .i64 (C9 B a).1), .sc (.int .i64 (C9 B a).2.1), .sc (.int .i64 (C9 B a).2.2)]) := by
 rw [Bd, Akr, f62]
 refine C6 (G := (· = some (.tup [.sc (.int .i64 (C9 B a).1), .sc (.int .i64 (C9 B a).2.1), .sc (.int .i64 (C9 B a).2.2)]))) ?_
 try simp only [A4, Av, Bh, Pr.gT, Pr.gF, Pr.hT, Pr.hF, Pr.kT, Pr.kF, Bv, B5]
 have s0 : Sep [] [] := Cx
 refine Dw (Aa ((decide (a < 0))) (fun h1 => ?_) (fun h1 => ?_))
 have dh1 := of_decide_eq_true h1
 refine Ac h1 (Ac h1 (Ac h1 (Ac h1 (B4 h1 (As rfl (Ai (Cl s0 rfl (Wz .nil) (W0 trivial)) ?_))))))
 have e : C9 B a = (0, 0, 2) := by
  clear s0
  unfold C9; rw [if_pos (by omega)]
 rw [e]
 have dh1 := of_decide_eq_false h1
 refine Ae h1 (Ae h1 (Ae h1 (Cz (Ae h1 (Er (A7 h1 (Aa ((decide (((B.size : Nat) : Int) < a))) (fun h2 => ?_) (fun h2 => ?_))))))))
 have dh2 := of_decide_eq_true h2
 refine As h2 (Ai (Cl s0 rfl (Wz .nil) (W0 trivial)) ?_)
 have e : C9 B a = (0, 0, 2) := by
  clear s0
  unfold C9; rw [if_pos (by omega)]
 rw [e]
 have dh2 := of_decide_eq_false h2
 refine Ax h2 ?_
 have e : C9 B a = Eg B a 4 0 0 := by
  clear s0
  unfold C9; rw [if_neg (by omega)]
 rw [e]
 exact Ya n hn B a hB (by omega) 4 _ 0 0 _ (by omega) (by omega) (by omega) (by omega)
theorem Ab0 (n : Nat) (hn : 1048576 < n) (f : Int) (hf : 0 ≤ f ∧ f < 256) : Dd E0 (n + 2) 4 67 [.sc (.int .i64 f)] = some (.sc (.bool (Ea f))) := by
 rw [Bd, Akw, f67]
 refine C6 (G := (· = some (sb (Ea f)))) ?_
 try simp only [A4, Av, Bh, Pr.gT, Pr.gF, Pr.hT, Pr.hF, Pr.kT, Pr.kF, Bv]
 have s0 : Sep [] [] := Cx
 refine O1 (by omega) (by omega) (by decide) (Qb (v := .sc (.int .i64 (f % 16))) (fun k => by show k (.sc (.int .i64 (Int.tmod (f) 16))) = _; rw [za9 (by omega)]) (Be (Aa ((decide ((f / 16) = 3))) (fun h1 => ?_) (fun h1 => ?_))))
 have dh1 := of_decide_eq_true h1
 refine As h1 (Tn 2 rfl (by decide) (Gq rfl (Mi (Aa ((decide ((bits .and .i64 ((f % 16) / 2) 3) = 3))) (fun h2 => ?_) (fun h2 => ?_)))))
 have dh2 := of_decide_eq_true h2
 refine Ac (nF h2) (Ac (nF h2) (Ac (nF h2) (D1 (D1 (D1 (Ac (nF h2) (A7 (nF h2) (Ai rfl ?_))))))))
 have e : Ea f = false := by
  simp only [Cm] at h1 h2
  (simp only [Ea, h1, h2, if_true, if_false, zaa]; rfl)
 rw [e]
 have dh2 := of_decide_eq_false h2
 refine Ae (nT h2) (Ae (nT h2) (Er (Ae (nT h2) (Aa ((decide (0 < (bits .and .i64 ((f % 16) / 2) 3)))) (fun h3 => ?_) (fun h3 => ?_)))))
 have dh3 := of_decide_eq_true h3
 refine Ac h3 (Ac h3 (Ac h3 (Ae (nT h2) (B4 h3 (B4 (nT h2) (Ai rfl ?_))))))
 have e : Ea f = true := by
  simp only [Cm] at h1 h2 h3
  (simp only [Ea, h1, h2, h3, if_true, if_false, zaa]; rfl)
 rw [e]
 have dh3 := of_decide_eq_false h3
 refine Ae h3 (Ae h3 (Gq rfl (Ae h3 (Be (Ae (nT h2) (A7 h3 (B4 (nT h2) (Ai rfl ?_))))))))
 have e : Ea f = (decide ((bits .and .i64 (f % 16) 8) = 0)) := by
  simp only [Cm] at h1 h2 h3
  (simp only [Ea, h1, h2, h3, if_true, if_false, zaa]; rfl)
 rw [e]
 have dh1 := of_decide_eq_false h1
 refine Ax h1 (Be (Di (Aa ((decide ((f / 16) = 6))) (fun h4 => ?_) (fun h4 => ?_))))
 have dh4 := of_decide_eq_true h4
 refine As h4 (As h4 (Be (Ai rfl ?_)))
 have e : Ea f = (decide ((f % 16) = 2)) := by
  simp only [Cm] at h1 h4
  (simp only [Ea, h1, h4, if_true, if_false, zaa]; rfl)
 rw [e]
 have dh4 := of_decide_eq_false h4
 refine Ax h4 (Be (Aa ((decide ((f / 16) = 8))) (fun h5 => ?_) (fun h5 => ?_)))
 have dh5 := of_decide_eq_true h5
 refine As h5 (As h5 (Be (Ai rfl ?_)))
 have e : Ea f = (decide ((f % 16) = 2)) := by
  simp only [Cm] at h1 h4 h5
  (simp only [Ea, h1, h4, h5, if_true, if_false, zaa]; rfl)
 rw [e]
 have dh5 := of_decide_eq_false h5
 refine Ax h5 (Be (Aa ((decide ((f / 16) = 10))) (fun h6 => ?_) (fun h6 => ?_)))
 have dh6 := of_decide_eq_true h6
 refine As h6 (Be (Ai rfl ?_))
 have e : Ea f = (decide ((f % 16) = 2)) := by
  simp only [Cm] at h1 h4 h5 h6
  (simp only [Ea, h1, h4, h5, h6, if_true, if_false, zaa]; rfl)
 rw [e]
 have dh6 := of_decide_eq_false h6
 refine Ax h6 (Aq (v := (.bool (B3 (f / 16) 1 14))) s0 rfl (My .nil) (Hz n _ (f / 16) 1 14) (Aa ((B3 (f / 16) 1 14)) (fun h7 => ?_) (fun h7 => ?_)))
 refine Ae h7 (Ae h7 (Be (B4 h7 (Ai rfl ?_))))
 have e : Ea f = (decide ((f % 16) = 0)) := by
  simp only [Cm] at h1 h4 h5 h6
  (simp only [Ea, h1, h4, h5, h6, h7, if_true, if_false, zaa]; rfl)
 rw [e]
 refine Ac h7 (Ac h7 (A7 h7 (Ai rfl ?_)))
 have e : Ea f = false := by
  simp only [Cm] at h1 h4 h5 h6
  (simp only [Ea, h1, h4, h5, h6, h7, if_true, if_false, zaa]; rfl)
 rw [e]
theorem AbG (n : Nat) (hn : 1048576 < n) (f : Int) (hf : 0 ≤ f ∧ f < 256) : Dd E0 (n + 1) 4 61 [.sc (.int .i64 f)] = some (.sc (.bool (Fj f))) := by
 rw [Bd, Akq, f61]
 refine C6 (G := (· = some (sb (Fj f)))) ?_
 try simp only [A4, Av, Bh, Pr.gT, Pr.gF, Pr.hT, Pr.hF, Pr.kT, Pr.kF, Bv]
 have s0 : Sep [] [] := Cx
 refine O1 (by omega) (by omega) (by decide) (Qb (v := .sc (.int .i64 (f % 16))) (fun k => by show k (.sc (.int .i64 (Int.tmod (f) 16))) = _; rw [za9 (by omega)]) (Be (Di (Aa ((decide ((f / 16) = 0))) (fun h1 => ?_) (fun h1 => ?_)))))
 have dh1 := of_decide_eq_true h1
 refine As h1 (As h1 (Ai rfl ?_))
 have e : Fj f = false := by
  simp only [Cm] at h1
  (simp only [Fj, h1, if_true, if_false, zaa]; rfl)
 rw [e]
 have dh1 := of_decide_eq_false h1
 refine Ax h1 (Be (Aa ((decide ((f / 16) = 15))) (fun h2 => ?_) (fun h2 => ?_)))
 have dh2 := of_decide_eq_true h2
 refine As h2 (Ai rfl ?_)
 have e : Fj f = false := by
  simp only [Cm] at h1 h2
  (simp only [Fj, h1, h2, if_true, if_false, zaa]; rfl)
 rw [e]
 have dh2 := of_decide_eq_false h2
 refine Ax h2 (Be (Aa ((decide ((f / 16) = 3))) (fun h3 => ?_) (fun h3 => ?_)))
 have dh3 := of_decide_eq_true h3
 refine As h3 (O1 (by omega) (by omega) (by decide) (Qb (v := .sc (.int .i64 (((f % 16) / 2) % 4))) (fun k => by show k (.sc (.int .i64 (Int.tmod (((f % 16) / 2)) 4))) = _; rw [za9 (by omega)]) (Dw (Aa ((decide ((((f % 16) / 2) % 4) < 3))) (fun h4 => ?_) (fun h4 => ?_)))))
 have dh4 := of_decide_eq_true h4
 refine Ae h4 (Ae h4 (Er (Ae h4 (Aa ((decide (0 < (((f % 16) / 2) % 4)))) (fun h5 => ?_) (fun h5 => ?_)))))
 have dh5 := of_decide_eq_true h5
 refine Ac h5 (Ac h5 (Ae h4 (B4 h5 (B4 h4 (Ai rfl ?_)))))
 have e : Fj f = true := by
  simp only [Cm] at h1 h2 h3 h4 h5
  (simp only [Fj, h1, h2, h3, h4, h5, if_true, if_false, zaa]; rfl)
 rw [e]
 have dh5 := of_decide_eq_false h5
 refine Ae h5 (Ae h5 (Dw (Ae h4 (A7 h5 (B4 h4 (Ai rfl ?_))))))
 have e : Fj f = (decide ((f % 16) < 8)) := by
  simp only [Cm] at h1 h2 h3 h4 h5
  (simp only [Fj, h1, h2, h3, h4, h5, if_true, if_false, zaa]; rfl)
 rw [e]
 have dh4 := of_decide_eq_false h4
 refine Ac h4 (Ac h4 (Ac h4 (D1 (D1 (Ac h4 (A7 h4 (Ai rfl ?_)))))))
 have e : Fj f = false := by
  simp only [Cm] at h1 h2 h3 h4
  (simp only [Fj, h1, h2, h3, h4, if_true, if_false, zaa]; rfl)
 rw [e]
 have dh3 := of_decide_eq_false h3
 refine Ax h3 (Be (Di (Aa ((decide ((f / 16) = 6))) (fun h6 => ?_) (fun h6 => ?_))))
 have dh6 := of_decide_eq_true h6
 refine As h6 (As h6 (Be (Ai rfl ?_)))
 have e : Fj f = (decide ((f % 16) = 2)) := by
  simp only [Cm] at h1 h2 h3 h6
  (simp only [Fj, h1, h2, h3, h6, if_true, if_false, zaa]; rfl)
 rw [e]
 have dh6 := of_decide_eq_false h6
 refine Ax h6 (Be (Aa ((decide ((f / 16) = 8))) (fun h7 => ?_) (fun h7 => ?_)))
 have dh7 := of_decide_eq_true h7
 refine As h7 (As h7 (Be (Ai rfl ?_)))
 have e : Fj f = (decide ((f % 16) = 2)) := by
  simp only [Cm] at h1 h2 h3 h6 h7
  (simp only [Fj, h1, h2, h3, h6, h7, if_true, if_false, zaa]; rfl)
 rw [e]
 have dh7 := of_decide_eq_false h7
 refine Ax h7 (Be (Aa ((decide ((f / 16) = 10))) (fun h8 => ?_) (fun h8 => ?_)))
 have dh8 := of_decide_eq_true h8
 refine As h8 (Be (Ai rfl ?_))
 have e : Fj f = (decide ((f % 16) = 2)) := by
  simp only [Cm] at h1 h2 h3 h6 h7 h8
  (simp only [Fj, h1, h2, h3, h6, h7, h8, if_true, if_false, zaa]; rfl)
 rw [e]
 have dh8 := of_decide_eq_false h8
 refine Ax h8 (Be (Ai rfl ?_))
 have e : Fj f = (decide ((f % 16) = 0)) := by
  simp only [Cm] at h1 h2 h3 h6 h7 h8
  (simp only [Fj, h1, h2, h3, h6, h7, h8, if_true, if_false, zaa]; rfl)
 rw [e]
end
section
open Go
theorem AdY (n : Nat) (hn : 1048576 < n) (c : Nat) (B : ByteArray) (a : Int) (b : Bool) (hB : B.size ≤ 1099511627776) (h0 : 0 ≤ a) (h1 : a ≤ ((B.size : Nat) : Int)) {β : Type} {G : Option β → Prop} {KH : KO β} {H : Ad} {L : List Ck} (s0 : Sep H (.blk c [Ag B, .sc (.int .i64 a), .sc (.bool b)] true :: L)) (hk : ∀ (v : Int) (a' : Int) (b' : Bool) (H' : Ad), Lc B (a, b) = (v, a', b') → Sep H' (.blk c [Ag B, .sc (.int .i64 a'), .sc (.bool b')] true :: L) → Gd G (KH (.sc (.int .i64 v)) H')) : Gd G (Ej E0 (n + 1) β 100 [.ptr c 0] H fun x H => KH x H) := by
 rw [Ahn, f100]
 try simp only [B6, Ba, D9, A4, Av, Bh, Pr.gT, Pr.gF, Pr.hT, Pr.hF, Pr.kT, Pr.kF, Bv, B5, Bu, Dh, Qj]
 refine Df (Ab (o' := 2) rfl (Ap (c := sb b) s0 (.here) rfl (Aa (b) (fun h1 => ?_) (fun h1 => ?_))))
 refine Ac h1 (Ac h1 (Ac h1 (Ac h1 (Ac h1 (Ac h1 (Ac h1 (Ac h1 (Ac h1 (Ac h1 (B4 h1 (As rfl (Df (Ab (o' := 2) rfl (A6 s0 (.here) rfl rfl fun H s2 => ?_))))))))))))))
 have e : Lc B (a, b) = (0, a, true) := by
  unfold Lc; simp [h1]
 exact hk _ _ _ _ e s2
 refine Ae h1 (Ae h1 (Df (Ae h1 (Ab (o' := 1) rfl (Ae h1 (Ap (c := si a) s0 (.here) rfl (Ae h1 (Ae h1 (Df (Ae h1 (Ab (o' := 0) rfl (Ae h1 (Ap (c := Ag B) s0 (.here) rfl (Ae h1 (Cz (Ae h1 (Aj9 (A7 h1 (Aa ((decide (((B.size : Nat) : Int) ≤ a))) (fun h3 => ?_) (fun h3 => ?_))))))))))))))))))))
 have dh3 := of_decide_eq_true h3
 refine As h3 (Df (Ab (o' := 2) rfl (A6 s0 (.here) rfl rfl fun H s4 => ?_)))
 have e : Lc B (a, b) = (0, a, true) := by
  simp only [Cm] at h3
  unfold Lc; simp [h1, h3]
 exact hk _ _ _ _ e s4
 have dh3 := of_decide_eq_false h3
 refine Ax h3 (Df (Ab (o' := 1) rfl (Ap (c := si a) s0 (.here) rfl (B9 (by omega) (by omega) (Df (Ab (o' := 1) rfl (A6 s0 (.here) rfl rfl fun H s5 => Df (Ab (o' := 0) rfl (Ap (c := Ag B) s5 (.here) rfl (Df (Ab (o' := 1) rfl (Ap (c := si (a + 1)) s5 (.here) rfl (O2 (by omega) (by omega) ?_)))))))))))))
 have w6 := Ef B ((a + 1) - 1)
 refine Gr (by omega) (by omega) fun _ => Fg (c := su (A5 B ((a + 1) - 1))) rfl (Kt (by omega) (by omega) ?_)
 have e : Lc B (a, b) = ((A5 B ((a + 1) - 1)), (a + 1), b) := by
  clear hk s0 s5
  simp only [Cm] at h3
  unfold Lc; simp [h1, h3]; try omega
 exact hk _ _ _ _ e s5
theorem AgW (n : Nat) (hn : 1048576 < n) (c : Nat) (B : ByteArray) (a : Int) (b : Bool) (hB : B.size ≤ 1099511627776) (h0 : 0 ≤ a) (h1 : a ≤ ((B.size : Nat) : Int)) {β : Type} {G : Option β → Prop} {KH : KO β} {H : Ad} {L : List Ck} (s0 : Sep H (.blk c [Ag B, .sc (.int .i64 a), .sc (.bool b)] true :: L)) (hk : ∀ (v : Int) (a' : Int) (b' : Bool) (H' : Ad), Hn B (a, b) = (v, a', b') → Sep H' (.blk c [Ag B, .sc (.int .i64 a'), .sc (.bool b')] true :: L) → Gd G (KH (.sc (.int .i64 v)) H')) : Gd G (Ej E0 (n + 2) β 102 [.ptr c 0] H fun x H => KH x H) := by
 rw [Aho, f102]
 try simp only [B6, Ba, D9, D5, Av, Bh, Pr.gT, Pr.gF, Pr.hT, Pr.hF, Pr.kT, Pr.kF, Bv, Iw, Qj]
 refine Df (Ab (o' := 0) rfl (Ap (c := Ag B) s0 (.here) rfl (Df (Ab (o' := 1) rfl (Ap (c := si a) s0 (.here) rfl ?_)))))
 obtain ⟨wq1, yq1, oq1, q1⟩ : ∃ w y o, Bq B a = (w, y, o) := ⟨_, _, _, rfl⟩
 have bq1 := F5 q1
 refine Ew s0 rfl (.cons .ro (.cons .sc .nil)) (by have h := Acr n (by omega) B a (by omega) (by omega); rw [q1] at h; exact h) rfl (Bm (Bm (Bm Et))) ?_
 rintro _ _ H ⟨_, rfl, ⟨_, rfl, ⟨_, rfl, ⟨rfl, rfl⟩⟩⟩⟩ s2
 simp only [zal] at s2
 refine B0 (v := si wq1) rfl (B0 (v := si yq1) rfl (B0 (v := sb oq1) rfl (Df (Ab (o' := 2) rfl (Ap (c := sb b) s2 (.here) rfl (Aa (b) (fun h3 => ?_) (fun h3 => ?_)))))))
 refine Ac h3 (Ac h3 (B4 h3 (As rfl (Df (Ab (o' := 2) rfl (A6 s2 (.here) rfl rfl fun H s4 => ?_))))))
 have e : Hn B (a, b) = (0, a, true) := by
  unfold Hn; simp [q1, h3]
 exact hk _ _ _ _ e s4
 refine Ae h3 (Ae h3 (C2 (A7 h3 (Aa (oq1) (fun h5 => ?_) (fun h5 => ?_)))))
 refine Ax (nF h5) (Df (Ab (o' := 1) rfl (A6 s2 (.here) rfl rfl fun H s6 => ?_)))
 have e : Hn B (a, b) = (wq1, yq1, b) := by
  unfold Hn; simp [q1, h3, h5]
 exact hk _ _ _ _ e s6
 refine As (nT h5) (Df (Ab (o' := 2) rfl (A6 s2 (.here) rfl rfl fun H s7 => ?_)))
 have e : Hn B (a, b) = (0, a, true) := by
  unfold Hn; simp [q1, h3, h5]
 exact hk _ _ _ _ e s7
theorem J3 (n : Nat) (hn : 1048576 < n) (c : Nat) (B : ByteArray) (a : Int) (b : Bool) (hB : B.size ≤ 1099511627776) (h0 : 0 ≤ a) (h1 : a ≤ ((B.size : Nat) : Int)) {β : Type} {G : Option β → Prop} {KH : KO β} {H : Ad} {L : List Ck} (s0 : Sep H (.blk c [Ag B, .sc (.int .i64 a), .sc (.bool b)] true :: L)) (hk : ∀ (x : AV) (v : ByteArray) (a' : Int) (b' : Bool) (H' : Ad), Bn x = true → Ey B (a, b) = (v, a', b') → Sep H' (.own x 22 (Ag v) :: .blk c [Ag B, .sc (.int .i64 a'), .sc (.bool b')] true :: L) → Gd G (KH x H')) : Gd G (Ej E0 (n + 6) β 129 [.ptr c 0] H fun x H => KH x H) := by
 rw [Ah6, f129]
 try simp only [B6, Ba, D9, D5, Av, Bh, Pr.gT, Pr.gF, Pr.hT, Pr.hF, Pr.kT, Pr.kF, Bv, Iw, Qj]
 refine Df (Ab (o' := 0) rfl (Ap (c := Ag B) s0 (.here) rfl (Df (Ab (o' := 1) rfl (Ap (c := si a) s0 (.here) rfl ?_)))))
 obtain ⟨vq1, yq1, oq1, q1⟩ : ∃ w y o, Bk B a = (w, y, o) := ⟨_, _, _, rfl⟩
 have bq1 := Fo q1
 refine Ew s0 rfl (.cons .ro (.cons .sc .nil)) (by have h := Aiv n (by omega) B a (by omega) (by omega); rw [q1] at h; exact h) rfl (J8 (ty := 22) rfl (Da vq1) (Bm (Bm Et))) ?_
 rintro _ _ H ⟨x2, _, _, lx2, rfl, rfl, ⟨_, rfl, ⟨_, rfl, ⟨rfl, rfl⟩⟩⟩⟩ s3
 simp only [zal, zaz] at s3
 refine B0 (v := x2) rfl (B0 (v := si yq1) rfl (B0 (v := sb oq1) rfl (Df (Ab (o' := 2) rfl (Ap (c := sb b) s3 C0 rfl (Aa (b) (fun h4 => ?_) (fun h4 => ?_)))))))
 refine Ac h4 (Ac h4 (B4 h4 (As rfl (Df (Ab (o' := 2) rfl (A6 s3 C0 rfl rfl fun H s5 => ?_))))))
 have e : Ey B (a, b) = (bs0, a, true) := by
  unfold Ey; simp [q1, h4]
 have s6 := s5.nl (ty := 22) ⟨_, _, rfl, rfl⟩
 exact hk .nl _ _ _ _ rfl e (s6.sel (.cons (.here) (.cons (.here) (.skip .rest))))
 refine Ae h4 (Ae h4 (C2 (A7 h4 (Aa (oq1) (fun h7 => ?_) (fun h7 => ?_)))))
 refine Ax (nF h7) (Df (Ab (o' := 1) rfl (A6 s3 C0 rfl rfl fun H s8 => ?_)))
 have e : Ey B (a, b) = (vq1, yq1, b) := by
  unfold Ey; simp [q1, h4, h7]
 exact hk x2 _ _ _ _ lx2 e (s8.pick C0)
 refine As (nT h7) (Df (Ab (o' := 2) rfl (A6 s3 C0 rfl rfl fun H s9 => ?_)))
 have e : Ey B (a, b) = (bs0, a, true) := by
  unfold Ey; simp [q1, h4, h7]
 have s10 := s9.nl (ty := 22) ⟨_, _, rfl, rfl⟩
 exact hk .nl _ _ _ _ rfl e (s10.sel (.cons (.here) (.cons (.here) (.skip .rest))))
theorem Vv (n : Nat) (hn : 1048576 < n) (t : Int) (B : ByteArray) (c d : Nat) (id : Int) (hB : B.size ≤ 1099511627776) {β : Type} {G : Option β → Prop} {L : List Ck} (k : KO β) : ∀ (f m : Nat) (a : Int) (b : Bool) (ws : List WantV) (cs : List Int) (ns : List ByteArray) (xw xc xn : AV) (H : Ad), f ≤ m → ((b = true ∧ 1 ≤ f) ∨ 6 ≤ f + (ws.length + cs.length + ns.length)) → ws.length + cs.length + ns.length ≤ 5 → 0 ≤ a → a ≤ ((B.size : Nat) : Int) → Bn xw = true → Bn xc = true → Bn xn = true → Sep H (.own xw 55 (C5 Bw ws) :: .own xc 57 (El cs) :: .own xn 56 (En ns) :: .blk c [Ag B, .sc (.int .i64 a), .sc (.bool b)] true :: .blk d [.sc (.int .i64 t), .sc (.bool false), .sc (.int .i64 0), .sc (.bool false), .sc (.int .i64 id), .sc (.string (⟨#[]⟩)), .nl, .sc (.string (⟨#[]⟩)), .sc (.int .i64 0), .sc (.bool false), .sc (.int .i64 0), .sc (.bool false), .sc (.string (⟨#[]⟩)), .nl, .sc (.int .i64 0), .sc (.bool false), .sc (.bool false), .sc (.string (⟨#[]⟩)), .sc (.bool false), .nl, .sc (.int .i64 0), .sc (.bool false), xw, xn, xc] true :: L) → (∀ (yw yc yn : AV) (a' : Int) (b' : Bool) (H' : Ad), Bn yw = true → Bn yc = true → Bn yn = true → Sep H' (.own yw 55 (C5 Bw ((Cj t B f (a, b) ws cs ns).1)) :: .own yc 57 (El ((Cj t B f (a, b) ws cs ns).2.1)) :: .own yn 56 (En ((Cj t B f (a, b) ws cs ns).2.2)) :: .blk c [Ag B, .sc (.int .i64 (a')), .sc (.bool b')] true :: .blk d [.sc (.int .i64 t), .sc (.bool false), .sc (.int .i64 0), .sc (.bool false), .sc (.int .i64 id), .sc (.string (⟨#[]⟩)), .nl, .sc (.string (⟨#[]⟩)), .sc (.int .i64 0), .sc (.bool false), .sc (.int .i64 0), .sc (.bool false), .sc (.string (⟨#[]⟩)), .nl, .sc (.int .i64 0), .sc (.bool false), .sc (.bool false), .sc (.string (⟨#[]⟩)), .sc (.bool false), .nl, .sc (.int .i64 0), .sc (.bool false), yw, yn, yc] true :: L) → Gd G (k (Dn []) H')) → Gd G (K0 (PR (n + 8) β) (n + 8) k m (.ptr c 0) (.ptr d 0) H)
 | 0, m, a, b, ws, cs, ns, xw, xc, xn, H, hm, hM, ht, h0, h1, lxw, lxc, lxn, s0, hk => by
  exfalso
  omega
 | f + 1, m + 1, a, b, ws, cs, ns, xw, xc, xn, H, hm, hM, ht, h0, h1, lxw, lxc, lxn, s0, hk => by
  rw [K0]
  try simp only [F8, Cq, B6, Ba, D9, A4, Av, Bh, Pr.gT, Pr.gF, Pr.hT, Pr.hF, Pr.kT, Pr.kF, Bv, B5, Ct, Du, Qj]
  refine O0 rfl rfl ?_
  rw [Ah8, f131]
  try simp only [B6, Ba, A4, D5, Bh, Pr.gT, Pr.gF, Pr.hT, Pr.hF, Pr.kT, Pr.kF, Bv, B5, Qj]
  refine Df (Ab (o' := 2) rfl (Ap (c := sb b) s0 Mv rfl (C2 (Aa (b) (fun h1 => ?_) (fun h1 => ?_)))))
  refine Ac (nF h1) (Ac (nF h1) (Ac (nF h1) (Ac (nF h1) (Ac (nF h1) (Ac (nF h1) (Ac (nF h1) (Ac (nF h1) (Ac (nF h1) (Ac (nF h1) (A7 (nF h1) (Ac rfl (Ac rfl (Ac rfl (Ac rfl (Ac rfl (Ac rfl (Ac rfl (Ac rfl (Ac rfl (Ac rfl (Ac rfl (Ac rfl (Ac rfl (Ac rfl (Ac rfl (Ac rfl (Ac rfl (Ac rfl (A7 rfl (Ax rfl ?_))))))))))))))))))))))))))))))
  have e : Cj t B (f + 1) (a, b) ws cs ns = (ws, cs, ns) := by
   rw [Cj]; simp [h1]
  rw [e] at hk
  exact hk xw xc xn a b _ lxw lxc lxn (s0.sel (.cons (.here) (.cons (.here) (.cons (.here) (.cons (.here) (.cons (.here) .rest))))))
  refine Ae (nT h1) (Ae (nT h1) (Df (Ae (nT h1) (Ab (o' := 1) rfl (Ae (nT h1) (Ap (c := si a) s0 Mv rfl (Ae (nT h1) (Ae (nT h1) (Df (Ae (nT h1) (Ab (o' := 0) rfl (Ae (nT h1) (Ap (c := Ag B) s0 Mv rfl (Ae (nT h1) (Cz (Ae (nT h1) (Dw (B4 (nT h1) (Aa ((decide (a < ((B.size : Nat) : Int)))) (fun h2 => ?_) (fun h2 => ?_))))))))))))))))))))
  have dh2 := of_decide_eq_true h2
  refine Ae h2 (Ae h2 (Df (Ae h2 (Ab (o' := 22) rfl (Ae h2 (Ap (c := xw) s0 Mw rfl (Ae h2 (J7 s0 (.here) (Ae h2 (Ae h2 (Df (Ae h2 (Ab (o' := 24) rfl (Ae h2 (Ap (c := xc) s0 Mw rfl (Ae h2 (J7 s0 C0 (Ae h2 (B9 (by omega) (by omega) (Ae h2 (Ae h2 (Df (Ae h2 (Ab (o' := 23) rfl (Ae h2 (Ap (c := xn) s0 Mw rfl (Ae h2 (J7 s0 Dj (Ae h2 (B9 (by omega) (by omega) (Ae h2 (Ku (B4 h2 (Aa ((decide (((((ws.length : Nat) : Int) + ((cs.length : Nat) : Int)) + ((ns.length : Nat) : Int)) ≤ 4))) (fun h3 => ?_) (fun h3 => ?_)))))))))))))))))))))))))))))))))))
  have dh3 := of_decide_eq_true h3
  refine As h3 (Df (Ab (o' := 0) rfl (Ap (c := si t) s0 Mw rfl (Be (Aa ((decide (t = 8))) (fun h4 => ?_) (fun h4 => ?_))))))
  have dh4 := of_decide_eq_true h4
  refine As h4 (Bg (cs := [sE, i0]) rfl (I6 s0 fun i5 H s6 => Ci (cs' := [sE, i0]) s6 (.here) (Ak rfl) rfl (Cn rfl) rfl fun H s7 => O0 rfl rfl ?_))
  rw [Mg, f101]
  try simp only [Gm]
  have s9 := s7.pick Mw
  refine J6 rfl rfl (J3 (n + 1) (by omega) c B a (b) hB (by omega) (by omega) s9 fun xq8 vq8 aq8 bq8 H lxq8 q8 s10 => ?_)
  have b_q8 := Fl q8 (by omega) (by omega)
  refine Mo s10 ⟨_, _, rfl, rfl, rfl, rfl⟩ (.here) (Ab (o' := 0) rfl (A6 s10 Dj rfl rfl fun H s11 => ?_))
  have s13 := s11.pick Dj
  refine J6 rfl rfl (AdY (n + 7) (by omega) c B aq8 (bq8) hB (by omega) (by omega) s13 fun vq12 aq12 bq12 H q12 s14 => ?_)
  have b_q12 := P8 q12 (by omega) (by omega)
  refine Ab (o' := 1) rfl (A6 s14 C0 rfl rfl fun H s15 => Df (Ab (o' := 22) rfl (Ap (c := xw) s15 Zi rfl (At s15 (.here) rfl (Bg (cs := [ss vq8, si vq12]) (Ko (z' := [ss vq8, si vq12]) (Ak rfl) rfl (Cn rfl) rfl (rfl)) (Co s15 fun i16 H s17 => Yv (cty := [9, 3]) (e := (⟨vq8, vq12⟩ : WantV)) s17 ⟨_, _, rfl, rfl, rfl, rfl⟩ Mw (.here) rfl rfl (.sc (.sc .nil)) (Fn trivial) rfl (by omega) fun x18 H lx18 s19 => Df (Ab (o' := 22) rfl (Ci (cs' := [si t, bF, i0, bF, si id, sE, .nl, sE, i0, bF, i0, bF, sE, .nl, i0, bF, bF, sE, bF, .nl, i0, bF, x18, xn, xc]) s19 Zi (Eh lx18) rfl (Cn rfl) rfl fun H s20 => ?_))))))))
  have e : Cj t B (f + 1) (a, b) ws cs ns = Cj t B f (aq12, bq12) (ws ++ [⟨vq8, vq12⟩]) cs ns := by
   simp only [Cm] at h2 h3 h4
   rw [Cj]; simp only [q8, q12]; simp [h1, h2, h3, h4]
  rw [e] at hk
  have hM2 : 6 ≤ f + 1 + (ws.length + cs.length + ns.length) := hM.resolve_left (by simp [h1])
  exact Vv n hn t B c d id hB k f m aq12 bq12 (ws ++ [⟨vq8, vq12⟩]) cs ns x18 xc xn _ (by omega) (by (simp only [zae, zas]; omega)) (by (simp only [zae, zas]; omega)) (by omega) (by omega) lx18 lxc lxn (s20.sel (.cons C0 (.cons Mw (.cons Mw (.cons Dj (.cons (.here) zS2)))))) hk
  have dh4 := of_decide_eq_false h4
  refine Ax h4 (Be (Aa ((decide (t = 9))) (fun h21 => ?_) (fun h21 => ?_)))
  have dh21 := of_decide_eq_true h21
  refine As h21 ?_
  have s23 := s0.pick Mv
  refine J6 rfl rfl (AdY (n + 7) (by omega) c B a (b) hB (by omega) (by omega) s23 fun vq22 aq22 bq22 H q22 s24 => ?_)
  have b_q22 := P8 q22 (by omega) (by omega)
  refine Df (Ab (o' := 24) rfl (Ap (c := xc) s24 Mw rfl (Bg (cs := [si vq22]) rfl (Co s24 fun i25 H s26 => Acq s26 Mv (.here) ⟨_, _, rfl, rfl, rfl, rfl⟩ rfl (by omega) fun x27 H lx27 s28 => Df (Ab (o' := 24) rfl (Ci (cs' := [si t, bF, i0, bF, si id, sE, .nl, sE, i0, bF, i0, bF, sE, .nl, i0, bF, bF, sE, bF, .nl, i0, bF, xw, xn, x27]) s28 Mw (Eh lx27) rfl (Cn rfl) rfl fun H s29 => ?_))))))
  have e : Cj t B (f + 1) (a, b) ws cs ns = Cj t B f (aq22, bq22) ws (cs ++ [vq22]) ns := by
   simp only [Cm] at h2 h3 h4 h21
   rw [Cj]; simp only [q22]; simp [h1, h2, h3, h4, h21]
  rw [e] at hk
  have hM2 : 6 ≤ f + 1 + (ws.length + cs.length + ns.length) := hM.resolve_left (by simp [h1])
  exact Vv n hn t B c d id hB k f m aq22 bq22 ws (cs ++ [vq22]) ns xw x27 xn _ (by omega) (by (simp only [zae, zas]; omega)) (by (simp only [zae, zas]; omega)) (by omega) (by omega) lxw lx27 lxn (s29.sel (.cons Mv (.cons C0 (.cons Dj (.cons C0 (.cons (.here) .rest)))))) hk
  have dh21 := of_decide_eq_false h21
  refine Ax h21 (Be (Aa ((decide (t = 10))) (fun h30 => ?_) (fun h30 => ?_)))
  have dh30 := of_decide_eq_true h30
  refine As h30 (O0 rfl rfl ?_)
  rw [Mg, f101]
  try simp only [Gm]
  have s32 := s0.pick Mv
  refine J6 rfl rfl (J3 (n + 1) (by omega) c B a (b) hB (by omega) (by omega) s32 fun xq31 vq31 aq31 bq31 H lxq31 q31 s33 => ?_)
  have b_q31 := Fl q31 (by omega) (by omega)
  refine Mo s33 ⟨_, _, rfl, rfl, rfl, rfl⟩ (.here) (Df (Ab (o' := 23) rfl (Ap (c := xn) s33 W1 rfl (Bg (cs := [ss vq31]) rfl (Co s33 fun i34 H s35 => Yw s35 W1 (.here) ⟨_, _, rfl, rfl, rfl, rfl⟩ rfl (by omega) fun x36 H lx36 s37 => Df (Ab (o' := 23) rfl (Ci (cs' := [si t, bF, i0, bF, si id, sE, .nl, sE, i0, bF, i0, bF, sE, .nl, i0, bF, bF, sE, bF, .nl, i0, bF, xw, x36, xc]) s37 W1 (Eh lx36) rfl (Cn rfl) rfl fun H s38 => ?_)))))))
  have e : Cj t B (f + 1) (a, b) ws cs ns = Cj t B f (aq31, bq31) ws cs (ns ++ [vq31]) := by
   simp only [Cm] at h2 h3 h4 h21 h30
   rw [Cj]; simp only [q31]; simp [h1, h2, h3, h4, h21, h30]
  rw [e] at hk
  have hM2 : 6 ≤ f + 1 + (ws.length + cs.length + ns.length) := hM.resolve_left (by simp [h1])
  exact Vv n hn t B c d id hB k f m aq31 bq31 ws cs (ns ++ [vq31]) xw xc x36 _ (by omega) (by (simp only [zae, zas]; omega)) (by (simp only [zae, zas]; omega)) (by omega) (by omega) lxw lxc lx36 (s38.sel (.cons Mw (.cons Mw (.cons C0 (.cons Dj (.cons (.here) (.skip .rest))))))) hk
  have dh30 := of_decide_eq_false h30
  refine Ax h30 (Df (Ab (o' := 2) rfl (Ci (cs' := [Ag B, si a, bT]) s0 Mv (Eh rfl) rfl (Cn rfl) rfl fun H s39 => ?_)))
  have e : Cj t B (f + 1) (a, b) ws cs ns = Cj t B f (a, true) ws cs ns := by
   simp only [Cm] at h2 h3 h4 h21 h30
   rw [Cj]; simp [h1, h2, h3, h4, h21, h30]
  rw [e] at hk
  have hM2 : 6 ≤ f + 1 + (ws.length + cs.length + ns.length) := hM.resolve_left (by simp [h1])
  exact Vv n hn t B c d id hB k f m a true ws cs ns xw xc xn _ (by omega) (by exact Or.inl ⟨rfl, by omega⟩) (by omega) (by omega) (by omega) lxw lxc lxn (s39.sel (.cons C0 (.cons C0 (.cons C0 (.cons (.here) (.cons (.here) .rest)))))) hk
  have dh3 := of_decide_eq_false h3
  refine Ax h3 ?_
  have e : Cj t B (f + 1) (a, b) ws cs ns = (ws, cs, ns) := by
   clear hk s0
   simp only [Cm] at h2 h3
   rw [Cj]; simp [h1, h2, h3]; try omega
  rw [e] at hk
  exact hk xw xc xn a b _ lxw lxc lxn (s0.sel (.cons (.here) (.cons (.here) (.cons (.here) (.cons (.here) (.cons (.here) .rest))))))
  have dh2 := of_decide_eq_false h2
  refine Ac h2 (Ac h2 (Ac h2 (Ac h2 (Ac h2 (Ac h2 (Ac h2 (Ac h2 (Ac h2 (Ac h2 (Ac h2 (Ac h2 (Ac h2 (Ac h2 (Ac h2 (Ac h2 (Ac h2 (Ac h2 (A7 h2 (Ax rfl ?_)))))))))))))))))))
  have e : Cj t B (f + 1) (a, b) ws cs ns = (ws, cs, ns) := by
   simp only [Cm] at h2
   rw [Cj]; simp [h1, h2]
  rw [e] at hk
  exact hk xw xc xn a b _ lxw lxc lxn (s0.sel (.cons (.here) (.cons (.here) (.cons (.here) (.cons (.here) (.cons (.here) .rest))))))
theorem AjK (n : Nat) (hn : 1048576 < n) (first : Int) (B : ByteArray) (hf : 0 ≤ first ∧ first < 256) (hB : B.size ≤ 1099511627776) : Dd E0 (n + 11) 59 69 [.sc (.int .i64 first), Ag B] = some (.agg (Ar (Dt first B))) := by
 rw [Bd, Aky, f69]
 refine C6 (G := (· = some (.agg (Ar (Dt first B))))) ?_
 try simp only [Gw, F8, Cq, B6, Ba, D9, A4, D5, Av, Ho, Ct, Qj]
 have s0 : Sep [] [] := Cx
 refine I6 s0 fun i1 H s2 => Bg (cs := [Ag B, i0, bF]) rfl (Od s2 (Ak rfl) fun i3 H s4 => O1 (by omega) (by omega) (by decide) (Bg (cs := [si (first / 16), bF, i0, bF, i0, sE, .nl, sE, i0, bF, i0, bF, sE, .nl, i0, bF, bF, sE, bF, .nl, i0, bF, .nl, .nl, .nl]) rfl (I6 s4 fun i5 H s6 => Ci (cs' := [si (first / 16), bF, i0, bF, i0, sE, .nl, sE, i0, bF, i0, bF, sE, .nl, i0, bF, bF, sE, bF, .nl, i0, bF, .nl, .nl, .nl]) s6 (.here) (Ak rfl) rfl (Cn rfl) rfl fun H s7 => Ab (o' := 0) rfl (Ap (c := si (first / 16)) s7 (.here) rfl (Be (Di (Aa ((decide ((first / 16) = 1))) (fun h8 => ?_) (fun h8 => ?_))))))))
 have dh8 := of_decide_eq_true h8
 refine As h8 (O0 rfl rfl ?_)
 rw [AkK, f99]
 try simp only [B6, Ba, D9, A4, Av, Qj]
 refine O0 rfl rfl ?_
 rw [Mg, f101]
 try simp only [Gm]
 have s10 := s7.pick C0
 refine J6 rfl rfl (J3 (n + 2) (by omega) i3 B 0 (false) hB (by omega) (by omega) s10 fun xq9 vq9 aq9 bq9 H lxq9 q9 s11 => ?_)
 have b_q9 := Fl q9 (by omega) (by omega)
 refine Mo s11 ⟨_, _, rfl, rfl, rfl, rfl⟩ (.here) ?_
 have s13 := s11.pick C0
 refine J6 rfl rfl (AdY (n + 8) (by omega) i3 B aq9 (bq9) hB (by omega) (by omega) s13 fun vq12 aq12 bq12 H q12 s14 => ?_)
 have b_q12 := P8 q12 (by omega) (by omega)
 refine Df (Ab (o' := 8) rfl (A6 s14 Dj rfl rfl fun H s15 => ?_))
 have s17 := s15.pick C0
 refine J6 rfl rfl (AdY (n + 8) (by omega) i3 B aq12 (bq12) hB (by omega) (by omega) s17 fun vq16 aq16 bq16 H q16 s18 => ?_)
 have b_q16 := P8 q16 (by omega) (by omega)
 have s20 := s18.pick (.here)
 refine J6 rfl rfl (AgW (n + 7) (by omega) i3 B aq16 (bq16) hB (by omega) (by omega) s20 fun vq19 aq19 bq19 H q19 s21 => ?_)
 have b_q19 := Ta q19 (by omega) (by omega)
 refine Df (Ab (o' := 10) rfl (A6 s21 C0 rfl rfl fun H s22 => O0 rfl rfl ?_))
 rw [Mg, f101]
 try simp only [Gm]
 have s24 := s22.pick C0
 refine J6 rfl rfl (J3 (n + 2) (by omega) i3 B aq19 (bq19) hB (by omega) (by omega) s24 fun xq23 vq23 aq23 bq23 H lxq23 q23 s25 => ?_)
 have b_q23 := Fl q23 (by omega) (by omega)
 refine Mo s25 ⟨_, _, rfl, rfl, rfl, rfl⟩ (.here) (Df (Ab (o' := 7) rfl (A6 s25 Dj rfl rfl fun H s26 => Gq rfl (Mi (Gq rfl (Mi (Gq rfl (Mi (Gq rfl (Mi (Df (Ab (o' := 9) rfl (A6 s26 (.here) rfl rfl fun H s27 => Df (Ab (o' := 11) rfl (A6 s27 (.here) rfl rfl fun H s28 => Df (Ab (o' := 18) rfl (A6 s28 (.here) rfl rfl fun H s29 => Df (Ab (o' := 16) rfl (A6 s29 (.here) rfl rfl fun H s30 => Df (Ab (o' := 11) rfl (Ap (c := sb (!(decide ((bits .and .i64 vq16 4) = 0)))) s30 (.here) rfl (Di (Aa ((decide ((bits .and .i64 vq16 4) = 0))) (fun h31 => ?_) (fun h31 => ?_))))))))))))))))))))))))
 have dh31 := of_decide_eq_true h31
 refine Ax (nF h31) (Df (Ab (o' := 16) rfl (Ap (c := sb (!(decide ((bits .and .i64 vq16 128) = 0)))) s30 (.here) rfl (Di (Aa ((decide ((bits .and .i64 vq16 128) = 0))) (fun h32 => ?_) (fun h32 => ?_))))))
 have dh32 := of_decide_eq_true h32
 refine Ax (nF h32) (Df (Ab (o' := 18) rfl (Ap (c := sb (!(decide ((bits .and .i64 vq16 64) = 0)))) s30 (.here) rfl (Aa ((decide ((bits .and .i64 vq16 64) = 0))) (fun h33 => ?_) (fun h33 => ?_)))))
 have dh33 := of_decide_eq_true h33
 refine Ax (nF h33) (At s30 (.here) rfl (Ci (cs' := [si (first / 16), bF, i0, bF, i0, sE, .nl, ss vq23, si vq12, sb (!(decide ((bits .and .i64 vq16 2) = 0))), si vq19, sb (!(decide ((bits .and .i64 vq16 4) = 0))), sE, .nl, i0, bF, sb (!(decide ((bits .and .i64 vq16 128) = 0))), sE, sb (!(decide ((bits .and .i64 vq16 64) = 0))), .nl, i0, bF, .nl, .nl, .nl]) s30 Mw (Ak rfl) rfl (Cn rfl) rfl fun H s34 => At s34 (.here) rfl (Ai (Cf s34 ⟨_, rfl, rfl⟩ (Ed (.nl (Ed (.nl (Hs (.nl (.sc (.sc (.nl (.nl (.nl .nil))))))))))) (Ee ⟨(Am ⟨_, _, rfl, rfl⟩), (Ee ⟨(Am ⟨_, _, rfl, rfl⟩), (Ht ⟨(Am ⟨_, _, rfl, rfl⟩), (Fn ⟨(Am ⟨_, _, rfl, rfl⟩), ⟨(Am ⟨_, _, rfl, rfl⟩), ⟨(Am ⟨_, _, rfl, rfl⟩), trivial⟩⟩⟩)⟩)⟩)⟩)) ?_)))
 have e : Dt first B = (⟨(first / 16), false, 0, false, 0, ⟨#[]⟩, ⟨#[]⟩, vq23, vq12, (!(decide ((bits .and .i64 vq16 2) = 0))), vq19, (!(decide ((bits .and .i64 vq16 4) = 0))), ⟨#[]⟩, ⟨#[]⟩, 0, false, (!(decide ((bits .and .i64 vq16 128) = 0))), ⟨#[]⟩, (!(decide ((bits .and .i64 vq16 64) = 0))), ⟨#[]⟩, 0, false, [], [], []⟩ : PacketV) := by
  simp only [Cm] at h8
  unfold Dt Fm Gp; simp only [h8, h31, h32, h33, q9, q12, q16, q19, q23, if_true, if_false, or_true, or_false, false_or, true_or, zaw, za0, zaa, reduceIte]; simp [Ce, h8, h31, h32, h33]
 rw [e]
 rfl
 have dh33 := of_decide_eq_false h33
 refine As (nT h33) ?_
 have s36 := s30.pick Dj
 refine J6 rfl rfl (J3 (n + 3) (by omega) i3 B aq23 (bq23) hB (by omega) (by omega) s36 fun xq35 vq35 aq35 bq35 H lxq35 q35 s37 => ?_)
 have b_q35 := Fl q35 (by omega) (by omega)
 refine Df (Ab (o' := 19) rfl (A6 s37 Dj lxq35 rfl fun H s38 => At s38 (.here) rfl (Ci (cs' := [si (first / 16), bF, i0, bF, i0, sE, .nl, ss vq23, si vq12, sb (!(decide ((bits .and .i64 vq16 2) = 0))), si vq19, sb (!(decide ((bits .and .i64 vq16 4) = 0))), sE, .nl, i0, bF, sb (!(decide ((bits .and .i64 vq16 128) = 0))), sE, sb (!(decide ((bits .and .i64 vq16 64) = 0))), xq35, i0, bF, .nl, .nl, .nl]) s38 W1 (Ak (Af rfl (Af rfl (Af rfl (Af rfl (Af rfl (Af rfl (Af rfl (Af rfl (Af rfl (Af rfl (Af rfl (Af rfl (Af rfl (Af rfl (Af rfl (Af rfl (Af rfl (Af rfl (Af rfl (Af lxq35 rfl))))))))))))))))))))) rfl (Cn rfl) rfl fun H s39 => At s39 (.here) rfl (Ai (Cf s39 ⟨_, rfl, rfl⟩ (Ed (.nl (Ed (.nl (Hs (.own Dj (.sc (.sc (.nl (.nl (.nl .nil))))))))))) (Ee ⟨(Am ⟨_, _, rfl, rfl⟩), (Ee ⟨(Am ⟨_, _, rfl, rfl⟩), (Ht ⟨(Cd (Da vq35) (by decide)), (Fn ⟨(Am ⟨_, _, rfl, rfl⟩), ⟨(Am ⟨_, _, rfl, rfl⟩), ⟨(Am ⟨_, _, rfl, rfl⟩), trivial⟩⟩⟩)⟩)⟩)⟩)) ?_))))
 have e : Dt first B = (⟨(first / 16), false, 0, false, 0, ⟨#[]⟩, ⟨#[]⟩, vq23, vq12, (!(decide ((bits .and .i64 vq16 2) = 0))), vq19, (!(decide ((bits .and .i64 vq16 4) = 0))), ⟨#[]⟩, ⟨#[]⟩, 0, false, (!(decide ((bits .and .i64 vq16 128) = 0))), ⟨#[]⟩, (!(decide ((bits .and .i64 vq16 64) = 0))), vq35, 0, false, [], [], []⟩ : PacketV) := by
  simp only [Cm] at h8
  unfold Dt Fm Gp; simp only [h8, h31, h32, h33, q9, q12, q16, q19, q23, q35, if_true, if_false, or_true, or_false, false_or, true_or, zaw, za0, zaa, reduceIte]; simp [Ce, h8, h31, h32, h33]
 rw [e]
 rfl
 have dh32 := of_decide_eq_false h32
 refine As (nT h32) (O0 rfl rfl ?_)
 rw [Mg, f101]
 try simp only [Gm]
 have s41 := s30.pick Dj
 refine J6 rfl rfl (J3 (n + 2) (by omega) i3 B aq23 (bq23) hB (by omega) (by omega) s41 fun xq40 vq40 aq40 bq40 H lxq40 q40 s42 => ?_)
 have b_q40 := Fl q40 (by omega) (by omega)
 refine Mo s42 ⟨_, _, rfl, rfl, rfl, rfl⟩ (.here) (Df (Ab (o' := 17) rfl (A6 s42 Dj rfl rfl fun H s43 => Df (Ab (o' := 18) rfl (Ap (c := sb (!(decide ((bits .and .i64 vq16 64) = 0)))) s43 (.here) rfl (Aa ((decide ((bits .and .i64 vq16 64) = 0))) (fun h44 => ?_) (fun h44 => ?_)))))))
 have dh44 := of_decide_eq_true h44
 refine Ax (nF h44) (At s43 (.here) rfl (Ci (cs' := [si (first / 16), bF, i0, bF, i0, sE, .nl, ss vq23, si vq12, sb (!(decide ((bits .and .i64 vq16 2) = 0))), si vq19, sb (!(decide ((bits .and .i64 vq16 4) = 0))), sE, .nl, i0, bF, sb (!(decide ((bits .and .i64 vq16 128) = 0))), ss vq40, sb (!(decide ((bits .and .i64 vq16 64) = 0))), .nl, i0, bF, .nl, .nl, .nl]) s43 W1 (Ak rfl) rfl (Cn rfl) rfl fun H s45 => At s45 (.here) rfl (Ai (Cf s45 ⟨_, rfl, rfl⟩ (Ed (.nl (Ed (.nl (Hs (.nl (.sc (.sc (.nl (.nl (.nl .nil))))))))))) (Ee ⟨(Am ⟨_, _, rfl, rfl⟩), (Ee ⟨(Am ⟨_, _, rfl, rfl⟩), (Ht ⟨(Am ⟨_, _, rfl, rfl⟩), (Fn ⟨(Am ⟨_, _, rfl, rfl⟩), ⟨(Am ⟨_, _, rfl, rfl⟩), ⟨(Am ⟨_, _, rfl, rfl⟩), trivial⟩⟩⟩)⟩)⟩)⟩)) ?_)))
 have e : Dt first B = (⟨(first / 16), false, 0, false, 0, ⟨#[]⟩, ⟨#[]⟩, vq23, vq12, (!(decide ((bits .and .i64 vq16 2) = 0))), vq19, (!(decide ((bits .and .i64 vq16 4) = 0))), ⟨#[]⟩, ⟨#[]⟩, 0, false, (!(decide ((bits .and .i64 vq16 128) = 0))), vq40, (!(decide ((bits .and .i64 vq16 64) = 0))), ⟨#[]⟩, 0, false, [], [], []⟩ : PacketV) := by
  simp only [Cm] at h8
  unfold Dt Fm Gp; simp only [h8, h31, h32, h44, q9, q12, q16, q19, q23, q40, if_true, if_false, or_true, or_false, false_or, true_or, zaw, za0, zaa, reduceIte]; simp [Ce, h8, h31, h32, h44]
 rw [e]
 rfl
 have dh44 := of_decide_eq_false h44
 refine As (nT h44) ?_
 have s47 := s43.pick Dj
 refine J6 rfl rfl (J3 (n + 3) (by omega) i3 B aq40 (bq40) hB (by omega) (by omega) s47 fun xq46 vq46 aq46 bq46 H lxq46 q46 s48 => ?_)
 have b_q46 := Fl q46 (by omega) (by omega)
 refine Df (Ab (o' := 19) rfl (A6 s48 Dj lxq46 rfl fun H s49 => At s49 (.here) rfl (Ci (cs' := [si (first / 16), bF, i0, bF, i0, sE, .nl, ss vq23, si vq12, sb (!(decide ((bits .and .i64 vq16 2) = 0))), si vq19, sb (!(decide ((bits .and .i64 vq16 4) = 0))), sE, .nl, i0, bF, sb (!(decide ((bits .and .i64 vq16 128) = 0))), ss vq40, sb (!(decide ((bits .and .i64 vq16 64) = 0))), xq46, i0, bF, .nl, .nl, .nl]) s49 Zi (Ak (Af rfl (Af rfl (Af rfl (Af rfl (Af rfl (Af rfl (Af rfl (Af rfl (Af rfl (Af rfl (Af rfl (Af rfl (Af rfl (Af rfl (Af rfl (Af rfl (Af rfl (Af rfl (Af rfl (Af lxq46 rfl))))))))))))))))))))) rfl (Cn rfl) rfl fun H s50 => At s50 (.here) rfl (Ai (Cf s50 ⟨_, rfl, rfl⟩ (Ed (.nl (Ed (.nl (Hs (.own Dj (.sc (.sc (.nl (.nl (.nl .nil))))))))))) (Ee ⟨(Am ⟨_, _, rfl, rfl⟩), (Ee ⟨(Am ⟨_, _, rfl, rfl⟩), (Ht ⟨(Cd (Da vq46) (by decide)), (Fn ⟨(Am ⟨_, _, rfl, rfl⟩), ⟨(Am ⟨_, _, rfl, rfl⟩), ⟨(Am ⟨_, _, rfl, rfl⟩), trivial⟩⟩⟩)⟩)⟩)⟩)) ?_))))
 have e : Dt first B = (⟨(first / 16), false, 0, false, 0, ⟨#[]⟩, ⟨#[]⟩, vq23, vq12, (!(decide ((bits .and .i64 vq16 2) = 0))), vq19, (!(decide ((bits .and .i64 vq16 4) = 0))), ⟨#[]⟩, ⟨#[]⟩, 0, false, (!(decide ((bits .and .i64 vq16 128) = 0))), vq40, (!(decide ((bits .and .i64 vq16 64) = 0))), vq46, 0, false, [], [], []⟩ : PacketV) := by
  simp only [Cm] at h8
  unfold Dt Fm Gp; simp only [h8, h31, h32, h44, q9, q12, q16, q19, q23, q40, q46, if_true, if_false, or_true, or_false, false_or, true_or, zaw, za0, zaa, reduceIte]; simp [Ce, h8, h31, h32, h44]
 rw [e]
 rfl
 have dh31 := of_decide_eq_false h31
 refine As (nT h31) (Tn 8 rfl (by decide) (Gq rfl (Gq rfl (Mi (Df (Ab (o' := 14) rfl (A6 s30 (.here) rfl rfl fun H s51 => Df (Ab (o' := 15) rfl (A6 s51 (.here) rfl rfl fun H s52 => O0 rfl rfl ?_)))))))))
 rw [Mg, f101]
 try simp only [Gm]
 have s54 := s52.pick Dj
 refine J6 rfl rfl (J3 (n + 2) (by omega) i3 B aq23 (bq23) hB (by omega) (by omega) s54 fun xq53 vq53 aq53 bq53 H lxq53 q53 s55 => ?_)
 have b_q53 := Fl q53 (by omega) (by omega)
 refine Mo s55 ⟨_, _, rfl, rfl, rfl, rfl⟩ (.here) (Df (Ab (o' := 12) rfl (A6 s55 Dj rfl rfl fun H s56 => ?_)))
 have s58 := s56.pick Dj
 refine J6 rfl rfl (J3 (n + 3) (by omega) i3 B aq53 (bq53) hB (by omega) (by omega) s58 fun xq57 vq57 aq57 bq57 H lxq57 q57 s59 => ?_)
 have b_q57 := Fl q57 (by omega) (by omega)
 refine Df (Ab (o' := 13) rfl (A6 s59 Dj lxq57 rfl fun H s60 => Df (Ab (o' := 16) rfl (Ap (c := sb (!(decide ((bits .and .i64 vq16 128) = 0)))) s60 (.here) rfl (Di (Aa ((decide ((bits .and .i64 vq16 128) = 0))) (fun h61 => ?_) (fun h61 => ?_)))))))
 have dh61 := of_decide_eq_true h61
 refine Ax (nF h61) (Df (Ab (o' := 18) rfl (Ap (c := sb (!(decide ((bits .and .i64 vq16 64) = 0)))) s60 (.here) rfl (Aa ((decide ((bits .and .i64 vq16 64) = 0))) (fun h62 => ?_) (fun h62 => ?_)))))
 have dh62 := of_decide_eq_true h62
 refine Ax (nF h62) (At s60 (.here) rfl (Ci (cs' := [si (first / 16), bF, i0, bF, i0, sE, .nl, ss vq23, si vq12, sb (!(decide ((bits .and .i64 vq16 2) = 0))), si vq19, sb (!(decide ((bits .and .i64 vq16 4) = 0))), ss vq53, xq57, si (bits .and .i64 (vq16 / 8) 3), sb (!(decide ((bits .and .i64 vq16 32) = 0))), sb (!(decide ((bits .and .i64 vq16 128) = 0))), sE, sb (!(decide ((bits .and .i64 vq16 64) = 0))), .nl, i0, bF, .nl, .nl, .nl]) s60 Zi (Ak (Af rfl (Af rfl (Af rfl (Af rfl (Af rfl (Af rfl (Af rfl (Af rfl (Af rfl (Af rfl (Af rfl (Af rfl (Af rfl (Af lxq57 rfl))))))))))))))) rfl (Cn rfl) rfl fun H s63 => At s63 (.here) rfl (Ai (Cf s63 ⟨_, rfl, rfl⟩ (Ed (.nl (Ed (.own Dj (Hs (.nl (.sc (.sc (.nl (.nl (.nl .nil))))))))))) (Ee ⟨(Am ⟨_, _, rfl, rfl⟩), (Ee ⟨(Cd (Da vq57) (by decide)), (Ht ⟨(Am ⟨_, _, rfl, rfl⟩), (Fn ⟨(Am ⟨_, _, rfl, rfl⟩), ⟨(Am ⟨_, _, rfl, rfl⟩), ⟨(Am ⟨_, _, rfl, rfl⟩), trivial⟩⟩⟩)⟩)⟩)⟩)) ?_)))
 have e : Dt first B = (⟨(first / 16), false, 0, false, 0, ⟨#[]⟩, ⟨#[]⟩, vq23, vq12, (!(decide ((bits .and .i64 vq16 2) = 0))), vq19, (!(decide ((bits .and .i64 vq16 4) = 0))), vq53, vq57, (bits .and .i64 (vq16 / 8) 3), (!(decide ((bits .and .i64 vq16 32) = 0))), (!(decide ((bits .and .i64 vq16 128) = 0))), ⟨#[]⟩, (!(decide ((bits .and .i64 vq16 64) = 0))), ⟨#[]⟩, 0, false, [], [], []⟩ : PacketV) := by
  simp only [Cm] at h8
  unfold Dt Fm Gp; simp only [h8, h31, h61, h62, q9, q12, q16, q19, q23, q53, q57, if_true, if_false, or_true, or_false, false_or, true_or, zaw, za0, zaa, reduceIte]; simp [Ce, h8, h31, h61, h62]
 rw [e]
 rfl
 have dh62 := of_decide_eq_false h62
 refine As (nT h62) ?_
 have s65 := s60.pick Dj
 refine J6 rfl rfl (J3 (n + 3) (by omega) i3 B aq57 (bq57) hB (by omega) (by omega) s65 fun xq64 vq64 aq64 bq64 H lxq64 q64 s66 => ?_)
 have b_q64 := Fl q64 (by omega) (by omega)
 refine Df (Ab (o' := 19) rfl (A6 s66 Dj lxq64 rfl fun H s67 => At s67 (.here) rfl (Ci (cs' := [si (first / 16), bF, i0, bF, i0, sE, .nl, ss vq23, si vq12, sb (!(decide ((bits .and .i64 vq16 2) = 0))), si vq19, sb (!(decide ((bits .and .i64 vq16 4) = 0))), ss vq53, xq57, si (bits .and .i64 (vq16 / 8) 3), sb (!(decide ((bits .and .i64 vq16 32) = 0))), sb (!(decide ((bits .and .i64 vq16 128) = 0))), sE, sb (!(decide ((bits .and .i64 vq16 64) = 0))), xq64, i0, bF, .nl, .nl, .nl]) s67 zP7 (Ak (Af rfl (Af rfl (Af rfl (Af rfl (Af rfl (Af rfl (Af rfl (Af rfl (Af rfl (Af rfl (Af rfl (Af rfl (Af rfl (Af lxq57 (Af rfl (Af rfl (Af rfl (Af rfl (Af rfl (Af lxq64 rfl))))))))))))))))))))) rfl (Cn rfl) rfl fun H s68 => At s68 (.here) rfl (Ai (Cf s68 ⟨_, rfl, rfl⟩ (Ed (.nl (Ed (.own Mw (Hs (.own Dj (.sc (.sc (.nl (.nl (.nl .nil))))))))))) (Ee ⟨(Am ⟨_, _, rfl, rfl⟩), (Ee ⟨(Cd (Da vq57) (by decide)), (Ht ⟨(Cd (Da vq64) (by decide)), (Fn ⟨(Am ⟨_, _, rfl, rfl⟩), ⟨(Am ⟨_, _, rfl, rfl⟩), ⟨(Am ⟨_, _, rfl, rfl⟩), trivial⟩⟩⟩)⟩)⟩)⟩)) ?_))))
 have e : Dt first B = (⟨(first / 16), false, 0, false, 0, ⟨#[]⟩, ⟨#[]⟩, vq23, vq12, (!(decide ((bits .and .i64 vq16 2) = 0))), vq19, (!(decide ((bits .and .i64 vq16 4) = 0))), vq53, vq57, (bits .and .i64 (vq16 / 8) 3), (!(decide ((bits .and .i64 vq16 32) = 0))), (!(decide ((bits .and .i64 vq16 128) = 0))), ⟨#[]⟩, (!(decide ((bits .and .i64 vq16 64) = 0))), vq64, 0, false, [], [], []⟩ : PacketV) := by
  simp only [Cm] at h8
  unfold Dt Fm Gp; simp only [h8, h31, h61, h62, q9, q12, q16, q19, q23, q53, q57, q64, if_true, if_false, or_true, or_false, false_or, true_or, zaw, za0, zaa, reduceIte]; simp [Ce, h8, h31, h61, h62]
 rw [e]
 rfl
 have dh61 := of_decide_eq_false h61
 refine As (nT h61) (O0 rfl rfl ?_)
 rw [Mg, f101]
 try simp only [Gm]
 have s70 := s60.pick Dj
 refine J6 rfl rfl (J3 (n + 2) (by omega) i3 B aq57 (bq57) hB (by omega) (by omega) s70 fun xq69 vq69 aq69 bq69 H lxq69 q69 s71 => ?_)
 have b_q69 := Fl q69 (by omega) (by omega)
 refine Mo s71 ⟨_, _, rfl, rfl, rfl, rfl⟩ (.here) (Df (Ab (o' := 17) rfl (A6 s71 Dj rfl rfl fun H s72 => Df (Ab (o' := 18) rfl (Ap (c := sb (!(decide ((bits .and .i64 vq16 64) = 0)))) s72 (.here) rfl (Aa ((decide ((bits .and .i64 vq16 64) = 0))) (fun h73 => ?_) (fun h73 => ?_)))))))
 have dh73 := of_decide_eq_true h73
 refine Ax (nF h73) (At s72 (.here) rfl (Ci (cs' := [si (first / 16), bF, i0, bF, i0, sE, .nl, ss vq23, si vq12, sb (!(decide ((bits .and .i64 vq16 2) = 0))), si vq19, sb (!(decide ((bits .and .i64 vq16 4) = 0))), ss vq53, xq57, si (bits .and .i64 (vq16 / 8) 3), sb (!(decide ((bits .and .i64 vq16 32) = 0))), sb (!(decide ((bits .and .i64 vq16 128) = 0))), ss vq69, sb (!(decide ((bits .and .i64 vq16 64) = 0))), .nl, i0, bF, .nl, .nl, .nl]) s72 zP7 (Ak (Af rfl (Af rfl (Af rfl (Af rfl (Af rfl (Af rfl (Af rfl (Af rfl (Af rfl (Af rfl (Af rfl (Af rfl (Af rfl (Af lxq57 rfl))))))))))))))) rfl (Cn rfl) rfl fun H s74 => At s74 (.here) rfl (Ai (Cf s74 ⟨_, rfl, rfl⟩ (Ed (.nl (Ed (.own Mw (Hs (.nl (.sc (.sc (.nl (.nl (.nl .nil))))))))))) (Ee ⟨(Am ⟨_, _, rfl, rfl⟩), (Ee ⟨(Cd (Da vq57) (by decide)), (Ht ⟨(Am ⟨_, _, rfl, rfl⟩), (Fn ⟨(Am ⟨_, _, rfl, rfl⟩), ⟨(Am ⟨_, _, rfl, rfl⟩), ⟨(Am ⟨_, _, rfl, rfl⟩), trivial⟩⟩⟩)⟩)⟩)⟩)) ?_)))
 have e : Dt first B = (⟨(first / 16), false, 0, false, 0, ⟨#[]⟩, ⟨#[]⟩, vq23, vq12, (!(decide ((bits .and .i64 vq16 2) = 0))), vq19, (!(decide ((bits .and .i64 vq16 4) = 0))), vq53, vq57, (bits .and .i64 (vq16 / 8) 3), (!(decide ((bits .and .i64 vq16 32) = 0))), (!(decide ((bits .and .i64 vq16 128) = 0))), vq69, (!(decide ((bits .and .i64 vq16 64) = 0))), ⟨#[]⟩, 0, false, [], [], []⟩ : PacketV) := by
  simp only [Cm] at h8
  unfold Dt Fm Gp; simp only [h8, h31, h61, h73, q9, q12, q16, q19, q23, q53, q57, q69, if_true, if_false, or_true, or_false, false_or, true_or, zaw, za0, zaa, reduceIte]; simp [Ce, h8, h31, h61, h73]
 rw [e]
 rfl
 have dh73 := of_decide_eq_false h73
 refine As (nT h73) ?_
 have s76 := s72.pick Dj
 refine J6 rfl rfl (J3 (n + 3) (by omega) i3 B aq69 (bq69) hB (by omega) (by omega) s76 fun xq75 vq75 aq75 bq75 H lxq75 q75 s77 => ?_)
 have b_q75 := Fl q75 (by omega) (by omega)
 refine Df (Ab (o' := 19) rfl (A6 s77 Dj lxq75 rfl fun H s78 => At s78 (.here) rfl (Ci (cs' := [si (first / 16), bF, i0, bF, i0, sE, .nl, ss vq23, si vq12, sb (!(decide ((bits .and .i64 vq16 2) = 0))), si vq19, sb (!(decide ((bits .and .i64 vq16 4) = 0))), ss vq53, xq57, si (bits .and .i64 (vq16 / 8) 3), sb (!(decide ((bits .and .i64 vq16 32) = 0))), sb (!(decide ((bits .and .i64 vq16 128) = 0))), ss vq69, sb (!(decide ((bits .and .i64 vq16 64) = 0))), xq75, i0, bF, .nl, .nl, .nl]) s78 zP8 (Ak (Af rfl (Af rfl (Af rfl (Af rfl (Af rfl (Af rfl (Af rfl (Af rfl (Af rfl (Af rfl (Af rfl (Af rfl (Af rfl (Af lxq57 (Af rfl (Af rfl (Af rfl (Af rfl (Af rfl (Af lxq75 rfl))))))))))))))))))))) rfl (Cn rfl) rfl fun H s79 => At s79 (.here) rfl (Ai (Cf s79 ⟨_, rfl, rfl⟩ (Ed (.nl (Ed (.own W1 (Hs (.own Dj (.sc (.sc (.nl (.nl (.nl .nil))))))))))) (Ee ⟨(Am ⟨_, _, rfl, rfl⟩), (Ee ⟨(Cd (Da vq57) (by decide)), (Ht ⟨(Cd (Da vq75) (by decide)), (Fn ⟨(Am ⟨_, _, rfl, rfl⟩), ⟨(Am ⟨_, _, rfl, rfl⟩), ⟨(Am ⟨_, _, rfl, rfl⟩), trivial⟩⟩⟩)⟩)⟩)⟩)) ?_))))
 have e : Dt first B = (⟨(first / 16), false, 0, false, 0, ⟨#[]⟩, ⟨#[]⟩, vq23, vq12, (!(decide ((bits .and .i64 vq16 2) = 0))), vq19, (!(decide ((bits .and .i64 vq16 4) = 0))), vq53, vq57, (bits .and .i64 (vq16 / 8) 3), (!(decide ((bits .and .i64 vq16 32) = 0))), (!(decide ((bits .and .i64 vq16 128) = 0))), vq69, (!(decide ((bits .and .i64 vq16 64) = 0))), vq75, 0, false, [], [], []⟩ : PacketV) := by
  simp only [Cm] at h8
  unfold Dt Fm Gp; simp only [h8, h31, h61, h73, q9, q12, q16, q19, q23, q53, q57, q69, q75, if_true, if_false, or_true, or_false, false_or, true_or, zaw, za0, zaa, reduceIte]; simp [Ce, h8, h31, h61, h73]
 rw [e]
 rfl
 have dh8 := of_decide_eq_false h8
 refine Ax h8 (Be (Aa ((decide ((first / 16) = 2))) (fun h80 => ?_) (fun h80 => ?_)))
 have dh80 := of_decide_eq_true h80
 refine As h80 ?_
 have s82 := s7.pick C0
 refine J6 rfl rfl (AdY (n + 9) (by omega) i3 B 0 (false) hB (by omega) (by omega) s82 fun vq81 aq81 bq81 H q81 s83 => ?_)
 have b_q81 := P8 q81 (by omega) (by omega)
 refine Be (Ab (o' := 21) rfl (A6 s83 C0 rfl rfl fun H s84 => ?_))
 have s86 := s84.pick C0
 refine J6 rfl rfl (AdY (n + 9) (by omega) i3 B aq81 (bq81) hB (by omega) (by omega) s86 fun vq85 aq85 bq85 H q85 s87 => ?_)
 have b_q85 := P8 q85 (by omega) (by omega)
 refine Ab (o' := 20) rfl (A6 s87 C0 rfl rfl fun H s88 => At s88 (.here) rfl (Ci (cs' := [si (first / 16), bF, i0, bF, i0, sE, .nl, sE, i0, bF, i0, bF, sE, .nl, i0, bF, bF, sE, bF, .nl, si vq85, sb (decide (vq81 = 1)), .nl, .nl, .nl]) s88 Dj (Ak rfl) rfl (Cn rfl) rfl fun H s89 => At s89 (.here) rfl (Ai (Cf s89 ⟨_, rfl, rfl⟩ (Ed (.nl (Ed (.nl (Hs (.nl (.sc (.sc (.nl (.nl (.nl .nil))))))))))) (Ee ⟨(Am ⟨_, _, rfl, rfl⟩), (Ee ⟨(Am ⟨_, _, rfl, rfl⟩), (Ht ⟨(Am ⟨_, _, rfl, rfl⟩), (Fn ⟨(Am ⟨_, _, rfl, rfl⟩), ⟨(Am ⟨_, _, rfl, rfl⟩), ⟨(Am ⟨_, _, rfl, rfl⟩), trivial⟩⟩⟩)⟩)⟩)⟩)) ?_)))
 have e : Dt first B = (⟨(first / 16), false, 0, false, 0, ⟨#[]⟩, ⟨#[]⟩, ⟨#[]⟩, 0, false, 0, false, ⟨#[]⟩, ⟨#[]⟩, 0, false, false, ⟨#[]⟩, false, ⟨#[]⟩, vq85, (decide (vq81 = 1)), [], [], []⟩ : PacketV) := by
  simp only [Cm] at h8 h80
  unfold Dt Fm Gp; simp only [h8, h80, q81, q85, if_true, if_false, or_true, or_false, false_or, true_or, zaw, za0, zaa, reduceIte]; simp [Ce, h8, h80]
 rw [e]
 rfl
 have dh80 := of_decide_eq_false h80
 refine Ax h80 (Be (Aa ((decide ((first / 16) = 3))) (fun h90 => ?_) (fun h90 => ?_)))
 have dh90 := of_decide_eq_true h90
 refine As h90 (Gq rfl (Mi (Tn 2 rfl (by decide) (Gq rfl (Gq rfl (Mi (Ab (o' := 1) rfl (A6 s7 (.here) rfl rfl fun H s91 => Ab (o' := 2) rfl (A6 s91 (.here) rfl rfl fun H s92 => Ab (o' := 3) rfl (A6 s92 (.here) rfl rfl fun H s93 => O0 rfl rfl ?_))))))))))
 rw [Mg, f101]
 try simp only [Gm]
 have s95 := s93.pick C0
 refine J6 rfl rfl (J3 (n + 3) (by omega) i3 B 0 (false) hB (by omega) (by omega) s95 fun xq94 vq94 aq94 bq94 H lxq94 q94 s96 => ?_)
 have b_q94 := Fl q94 (by omega) (by omega)
 refine Mo s96 ⟨_, _, rfl, rfl, rfl, rfl⟩ (.here) (Ab (o' := 5) rfl (A6 s96 Dj rfl rfl fun H s97 => Ab (o' := 2) rfl (Ap (c := si (bits .and .i64 (first / 2) 3)) s97 (.here) rfl (Er (Di (Aa ((decide (0 < (bits .and .i64 (first / 2) 3)))) (fun h98 => ?_) (fun h98 => ?_)))))))
 have dh98 := of_decide_eq_true h98
 refine As h98 ?_
 have s100 := s97.pick Dj
 refine J6 rfl rfl (AgW (n + 8) (by omega) i3 B aq94 (bq94) hB (by omega) (by omega) s100 fun vq99 aq99 bq99 H q99 s101 => ?_)
 have b_q99 := Ta q99 (by omega) (by omega)
 refine Ab (o' := 4) rfl (A6 s101 C0 rfl rfl fun H s102 => Df (Ab (o' := 2) rfl (Ap (c := sb bq99) s102 C0 rfl (C2 (Aa (bq99) (fun h103 => ?_) (fun h103 => ?_))))))
 refine Ax (nF h103) (At s102 (.here) rfl (Ci (cs' := [si (first / 16), sb (!(decide ((bits .and .i64 first 8) = 0))), si (bits .and .i64 (first / 2) 3), sb (!(decide ((bits .and .i64 first 1) = 0))), si vq99, ss vq94, .nl, sE, i0, bF, i0, bF, sE, .nl, i0, bF, bF, sE, bF, .nl, i0, bF, .nl, .nl, .nl]) s102 Mv (Ak rfl) rfl (Cn rfl) rfl fun H s104 => At s104 (.here) rfl (Ai (Cf s104 ⟨_, rfl, rfl⟩ (Ed (.nl (Ed (.nl (Hs (.nl (.sc (.sc (.nl (.nl (.nl .nil))))))))))) (Ee ⟨(Am ⟨_, _, rfl, rfl⟩), (Ee ⟨(Am ⟨_, _, rfl, rfl⟩), (Ht ⟨(Am ⟨_, _, rfl, rfl⟩), (Fn ⟨(Am ⟨_, _, rfl, rfl⟩), ⟨(Am ⟨_, _, rfl, rfl⟩), ⟨(Am ⟨_, _, rfl, rfl⟩), trivial⟩⟩⟩)⟩)⟩)⟩)) ?_)))
 have e : Dt first B = (⟨(first / 16), (!(decide ((bits .and .i64 first 8) = 0))), (bits .and .i64 (first / 2) 3), (!(decide ((bits .and .i64 first 1) = 0))), vq99, vq94, ⟨#[]⟩, ⟨#[]⟩, 0, false, 0, false, ⟨#[]⟩, ⟨#[]⟩, 0, false, false, ⟨#[]⟩, false, ⟨#[]⟩, 0, false, [], [], []⟩ : PacketV) := by
  simp only [Cm] at h8 h80 h90 h98
  unfold Dt Fm Gp; simp only [h8, h80, h90, h98, h103, q94, q99, if_true, if_false, or_true, or_false, false_or, true_or, zaw, za0, zaa, reduceIte]; simp [Ce, h8, h80, h90, h98, h103]
 rw [e]
 rfl
 refine As (nT h103) (Df (Ab (o' := 1) rfl (Ap (c := si aq99) s102 C0 rfl (Gs aq99 ((B.size : Nat) : Int) rfl rfl (by omega) (by omega) (by omega) ?_))))
 have z105 := zat (a := B) (b := aq99.toNat) (e := ((B.size : Nat) : Int).toNat)
 refine Bg (cs := [Ag (B.extract aq99.toNat ((B.size : Nat) : Int).toNat)]) rfl (Co s102 fun i106 H s107 => Cg s107 rfl (.sl (.here) rfl (.cons .ro .nil) .nil) (M5 (n + 6) (by omega) (B.extract aq99.toNat ((B.size : Nat) : Int).toNat) (by omega)) (Da (B.extract aq99.toNat ((B.size : Nat) : Int).toNat)) fun x108 H lx108 s109 => Ab (o' := 6) rfl (A6 s109 Dj lx108 rfl fun H s110 => At s110 (.here) rfl (Ci (cs' := [si (first / 16), sb (!(decide ((bits .and .i64 first 8) = 0))), si (bits .and .i64 (first / 2) 3), sb (!(decide ((bits .and .i64 first 1) = 0))), si vq99, ss vq94, x108, sE, i0, bF, i0, bF, sE, .nl, i0, bF, bF, sE, bF, .nl, i0, bF, .nl, .nl, .nl]) s110 W1 (Ak (Af rfl (Af rfl (Af rfl (Af rfl (Af rfl (Af rfl (Af lx108 rfl)))))))) rfl (Cn rfl) rfl fun H s111 => At s111 (.here) rfl (Ai (Cf s111 ⟨_, rfl, rfl⟩ (Ed (.own Dj (Ed (.nl (Hs (.nl (.sc (.sc (.nl (.nl (.nl .nil))))))))))) (Ee ⟨(Cd (Da (B.extract aq99.toNat ((B.size : Nat) : Int).toNat)) (by decide)), (Ee ⟨(Am ⟨_, _, rfl, rfl⟩), (Ht ⟨(Am ⟨_, _, rfl, rfl⟩), (Fn ⟨(Am ⟨_, _, rfl, rfl⟩), ⟨(Am ⟨_, _, rfl, rfl⟩), ⟨(Am ⟨_, _, rfl, rfl⟩), trivial⟩⟩⟩)⟩)⟩)⟩)) ?_))))
 have e : Dt first B = (⟨(first / 16), (!(decide ((bits .and .i64 first 8) = 0))), (bits .and .i64 (first / 2) 3), (!(decide ((bits .and .i64 first 1) = 0))), vq99, vq94, (B.extract aq99.toNat ((B.size : Nat) : Int).toNat), ⟨#[]⟩, 0, false, 0, false, ⟨#[]⟩, ⟨#[]⟩, 0, false, false, ⟨#[]⟩, false, ⟨#[]⟩, 0, false, [], [], []⟩ : PacketV) := by
  simp only [Cm] at h8 h80 h90 h98
  unfold Dt Fm Gp; simp only [h8, h80, h90, h98, h103, q94, q99, if_true, if_false, or_true, or_false, false_or, true_or, zaw, za0, zaa, reduceIte]; simp [Ce, h8, h80, h90, h98, h103]
 rw [e]
 rfl
 have dh98 := of_decide_eq_false h98
 refine Ax h98 (Df (Ab (o' := 2) rfl (Ap (c := sb bq94) s97 Dj rfl (C2 (Aa (bq94) (fun h112 => ?_) (fun h112 => ?_))))))
 refine Ax (nF h112) (At s97 (.here) rfl (Ci (cs' := [si (first / 16), sb (!(decide ((bits .and .i64 first 8) = 0))), si (bits .and .i64 (first / 2) 3), sb (!(decide ((bits .and .i64 first 1) = 0))), i0, ss vq94, .nl, sE, i0, bF, i0, bF, sE, .nl, i0, bF, bF, sE, bF, .nl, i0, bF, .nl, .nl, .nl]) s97 Mv (Ak rfl) rfl (Cn rfl) rfl fun H s113 => At s113 (.here) rfl (Ai (Cf s113 ⟨_, rfl, rfl⟩ (Ed (.nl (Ed (.nl (Hs (.nl (.sc (.sc (.nl (.nl (.nl .nil))))))))))) (Ee ⟨(Am ⟨_, _, rfl, rfl⟩), (Ee ⟨(Am ⟨_, _, rfl, rfl⟩), (Ht ⟨(Am ⟨_, _, rfl, rfl⟩), (Fn ⟨(Am ⟨_, _, rfl, rfl⟩), ⟨(Am ⟨_, _, rfl, rfl⟩), ⟨(Am ⟨_, _, rfl, rfl⟩), trivial⟩⟩⟩)⟩)⟩)⟩)) ?_)))
 have e : Dt first B = (⟨(first / 16), (!(decide ((bits .and .i64 first 8) = 0))), (bits .and .i64 (first / 2) 3), (!(decide ((bits .and .i64 first 1) = 0))), 0, vq94, ⟨#[]⟩, ⟨#[]⟩, 0, false, 0, false, ⟨#[]⟩, ⟨#[]⟩, 0, false, false, ⟨#[]⟩, false, ⟨#[]⟩, 0, false, [], [], []⟩ : PacketV) := by
  simp only [Cm] at h8 h80 h90 h98
  unfold Dt Fm Gp; simp only [h8, h80, h90, h98, h112, q94, if_true, if_false, or_true, or_false, false_or, true_or, zaw, za0, zaa, reduceIte]; simp [Ce, h8, h80, h90, h98, h112]
 rw [e]
 rfl
 refine As (nT h112) (Df (Ab (o' := 1) rfl (Ap (c := si aq94) s97 Dj rfl (Gs aq94 ((B.size : Nat) : Int) rfl rfl (by omega) (by omega) (by omega) ?_))))
 have z114 := zat (a := B) (b := aq94.toNat) (e := ((B.size : Nat) : Int).toNat)
 refine Bg (cs := [Ag (B.extract aq94.toNat ((B.size : Nat) : Int).toNat)]) rfl (Co s97 fun i115 H s116 => Cg s116 rfl (.sl (.here) rfl (.cons .ro .nil) .nil) (M5 (n + 6) (by omega) (B.extract aq94.toNat ((B.size : Nat) : Int).toNat) (by omega)) (Da (B.extract aq94.toNat ((B.size : Nat) : Int).toNat)) fun x117 H lx117 s118 => Ab (o' := 6) rfl (A6 s118 Dj lx117 rfl fun H s119 => At s119 (.here) rfl (Ci (cs' := [si (first / 16), sb (!(decide ((bits .and .i64 first 8) = 0))), si (bits .and .i64 (first / 2) 3), sb (!(decide ((bits .and .i64 first 1) = 0))), i0, ss vq94, x117, sE, i0, bF, i0, bF, sE, .nl, i0, bF, bF, sE, bF, .nl, i0, bF, .nl, .nl, .nl]) s119 W1 (Ak (Af rfl (Af rfl (Af rfl (Af rfl (Af rfl (Af rfl (Af lx117 rfl)))))))) rfl (Cn rfl) rfl fun H s120 => At s120 (.here) rfl (Ai (Cf s120 ⟨_, rfl, rfl⟩ (Ed (.own Dj (Ed (.nl (Hs (.nl (.sc (.sc (.nl (.nl (.nl .nil))))))))))) (Ee ⟨(Cd (Da (B.extract aq94.toNat ((B.size : Nat) : Int).toNat)) (by decide)), (Ee ⟨(Am ⟨_, _, rfl, rfl⟩), (Ht ⟨(Am ⟨_, _, rfl, rfl⟩), (Fn ⟨(Am ⟨_, _, rfl, rfl⟩), ⟨(Am ⟨_, _, rfl, rfl⟩), ⟨(Am ⟨_, _, rfl, rfl⟩), trivial⟩⟩⟩)⟩)⟩)⟩)) ?_))))
 have e : Dt first B = (⟨(first / 16), (!(decide ((bits .and .i64 first 8) = 0))), (bits .and .i64 (first / 2) 3), (!(decide ((bits .and .i64 first 1) = 0))), 0, vq94, (B.extract aq94.toNat ((B.size : Nat) : Int).toNat), ⟨#[]⟩, 0, false, 0, false, ⟨#[]⟩, ⟨#[]⟩, 0, false, false, ⟨#[]⟩, false, ⟨#[]⟩, 0, false, [], [], []⟩ : PacketV) := by
  simp only [Cm] at h8 h80 h90 h98
  unfold Dt Fm Gp; simp only [h8, h80, h90, h98, h112, q94, if_true, if_false, or_true, or_false, false_or, true_or, zaw, za0, zaa, reduceIte]; simp [Ce, h8, h80, h90, h98, h112]
 rw [e]
 rfl
 have dh90 := of_decide_eq_false h90
 refine Ax h90 (Be (Di (Aa ((decide ((first / 16) = 12))) (fun h121 => ?_) (fun h121 => ?_))))
 have dh121 := of_decide_eq_true h121
 refine As h121 (As h121 (At s7 (.here) rfl (Ci (cs' := [si (first / 16), bF, i0, bF, i0, sE, .nl, sE, i0, bF, i0, bF, sE, .nl, i0, bF, bF, sE, bF, .nl, i0, bF, .nl, .nl, .nl]) s7 Dj (Ak rfl) rfl (Cn rfl) rfl fun H s122 => At s122 (.here) rfl (Ai (Cf s122 ⟨_, rfl, rfl⟩ (Ed (.nl (Ed (.nl (Hs (.nl (.sc (.sc (.nl (.nl (.nl .nil))))))))))) (Ee ⟨(Am ⟨_, _, rfl, rfl⟩), (Ee ⟨(Am ⟨_, _, rfl, rfl⟩), (Ht ⟨(Am ⟨_, _, rfl, rfl⟩), (Fn ⟨(Am ⟨_, _, rfl, rfl⟩), ⟨(Am ⟨_, _, rfl, rfl⟩), ⟨(Am ⟨_, _, rfl, rfl⟩), trivial⟩⟩⟩)⟩)⟩)⟩)) ?_))))
 have e : Dt first B = (⟨(first / 16), false, 0, false, 0, ⟨#[]⟩, ⟨#[]⟩, ⟨#[]⟩, 0, false, 0, false, ⟨#[]⟩, ⟨#[]⟩, 0, false, false, ⟨#[]⟩, false, ⟨#[]⟩, 0, false, [], [], []⟩ : PacketV) := by
  simp only [Cm] at h8 h80 h90 h121
  unfold Dt Fm Gp; simp only [h8, h80, h90, h121, if_true, if_false, or_true, or_false, false_or, true_or, zaw, za0, zaa, reduceIte]; simp [Ce, h8, h80, h90, h121]
 rw [e]
 rfl
 have dh121 := of_decide_eq_false h121
 refine Ax h121 (Be (Aa ((decide ((first / 16) = 13))) (fun h123 => ?_) (fun h123 => ?_)))
 have dh123 := of_decide_eq_true h123
 refine As h123 (As h123 (At s7 (.here) rfl (Ci (cs' := [si (first / 16), bF, i0, bF, i0, sE, .nl, sE, i0, bF, i0, bF, sE, .nl, i0, bF, bF, sE, bF, .nl, i0, bF, .nl, .nl, .nl]) s7 Dj (Ak rfl) rfl (Cn rfl) rfl fun H s124 => At s124 (.here) rfl (Ai (Cf s124 ⟨_, rfl, rfl⟩ (Ed (.nl (Ed (.nl (Hs (.nl (.sc (.sc (.nl (.nl (.nl .nil))))))))))) (Ee ⟨(Am ⟨_, _, rfl, rfl⟩), (Ee ⟨(Am ⟨_, _, rfl, rfl⟩), (Ht ⟨(Am ⟨_, _, rfl, rfl⟩), (Fn ⟨(Am ⟨_, _, rfl, rfl⟩), ⟨(Am ⟨_, _, rfl, rfl⟩), ⟨(Am ⟨_, _, rfl, rfl⟩), trivial⟩⟩⟩)⟩)⟩)⟩)) ?_))))
 have e : Dt first B = (⟨(first / 16), false, 0, false, 0, ⟨#[]⟩, ⟨#[]⟩, ⟨#[]⟩, 0, false, 0, false, ⟨#[]⟩, ⟨#[]⟩, 0, false, false, ⟨#[]⟩, false, ⟨#[]⟩, 0, false, [], [], []⟩ : PacketV) := by
  simp only [Cm] at h8 h80 h90 h121 h123
  unfold Dt Fm Gp; simp only [h8, h80, h90, h121, h123, if_true, if_false, or_true, or_false, false_or, true_or, zaw, za0, zaa, reduceIte]; simp [Ce, h8, h80, h90, h121, h123]
 rw [e]
 rfl
 have dh123 := of_decide_eq_false h123
 refine Ax h123 (Be (Aa ((decide ((first / 16) = 14))) (fun h125 => ?_) (fun h125 => ?_)))
 have dh125 := of_decide_eq_true h125
 refine As h125 (At s7 (.here) rfl (Ci (cs' := [si (first / 16), bF, i0, bF, i0, sE, .nl, sE, i0, bF, i0, bF, sE, .nl, i0, bF, bF, sE, bF, .nl, i0, bF, .nl, .nl, .nl]) s7 Dj (Ak rfl) rfl (Cn rfl) rfl fun H s126 => At s126 (.here) rfl (Ai (Cf s126 ⟨_, rfl, rfl⟩ (Ed (.nl (Ed (.nl (Hs (.nl (.sc (.sc (.nl (.nl (.nl .nil))))))))))) (Ee ⟨(Am ⟨_, _, rfl, rfl⟩), (Ee ⟨(Am ⟨_, _, rfl, rfl⟩), (Ht ⟨(Am ⟨_, _, rfl, rfl⟩), (Fn ⟨(Am ⟨_, _, rfl, rfl⟩), ⟨(Am ⟨_, _, rfl, rfl⟩), ⟨(Am ⟨_, _, rfl, rfl⟩), trivial⟩⟩⟩)⟩)⟩)⟩)) ?_)))
 have e : Dt first B = (⟨(first / 16), false, 0, false, 0, ⟨#[]⟩, ⟨#[]⟩, ⟨#[]⟩, 0, false, 0, false, ⟨#[]⟩, ⟨#[]⟩, 0, false, false, ⟨#[]⟩, false, ⟨#[]⟩, 0, false, [], [], []⟩ : PacketV) := by
  simp only [Cm] at h8 h80 h90 h121 h123 h125
  unfold Dt Fm Gp; simp only [h8, h80, h90, h121, h123, h125, if_true, if_false, or_true, or_false, false_or, true_or, zaw, za0, zaa, reduceIte]; simp [Ce, h8, h80, h90, h121, h123, h125]
 rw [e]
 rfl
 have dh125 := of_decide_eq_false h125
 refine Ax h125 ?_
 have s128 := s7.pick C0
 refine J6 rfl rfl (AgW (n + 8) (by omega) i3 B 0 (false) hB (by omega) (by omega) s128 fun vq127 aq127 bq127 H q127 s129 => ?_)
 have b_q127 := Ta q127 (by omega) (by omega)
 refine Ab (o' := 4) rfl (A6 s129 C0 rfl rfl fun H s130 => O0 rfl rfl ?_)
 rw [Ahp, f103]
 have s131 := s130.nl (ty := 56) ⟨_, _, rfl, rfl⟩
 have s132 := s131.nl (ty := 57) ⟨_, _, rfl, rfl⟩
 have s133 := s132.nl (ty := 55) ⟨_, _, rfl, rfl⟩
 have s135a := s133.sel (.cons .here (.cons .here (.cons .here (.cons C0 (.cons (.here) .rest)))))
 refine Vv (n + 1) (by omega) (first / 16) B i3 i5 vq127 hB _ 8 _ aq127 bq127 [] [] [] .nl .nl .nl _ (by omega) (Or.inr (by decide)) (by decide) (by omega) (by omega) rfl rfl rfl s135a fun wq134 cq134 nq134 aq134 bq134 H lwq134 lcq134 lnq134 s135 => At s135 Mw rfl (Ci (cs' := [si (first / 16), bF, i0, bF, si vq127, sE, .nl, sE, i0, bF, i0, bF, sE, .nl, i0, bF, bF, sE, bF, .nl, i0, bF, wq134, nq134, cq134]) s135 W1 (Ak (Af rfl (Af rfl (Af rfl (Af rfl (Af rfl (Af rfl (Af rfl (Af rfl (Af rfl (Af rfl (Af rfl (Af rfl (Af rfl (Af rfl (Af rfl (Af rfl (Af rfl (Af rfl (Af rfl (Af rfl (Af rfl (Af rfl (Af lwq134 (Af lnq134 (Af lcq134 rfl)))))))))))))))))))))))))) rfl (Cn rfl) rfl fun H s136 => At s136 (.here) rfl (Ai (Cf s136 ⟨_, rfl, rfl⟩ (Ed (.nl (Ed (.nl (Hs (.nl (.sc (.sc (.own C0 (.own Dj (.own C0 .nil))))))))))) (Ee ⟨(Am ⟨_, _, rfl, rfl⟩), (Ee ⟨(Am ⟨_, _, rfl, rfl⟩), (Ht ⟨(Am ⟨_, _, rfl, rfl⟩), (Fn ⟨(Cd (K8 ((Cj (first / 16) B 8 (aq127, bq127) [] [] []).1)) (by decide)), ⟨(Cd (V4 ((Cj (first / 16) B 8 (aq127, bq127) [] [] []).2.2)) (by decide)), ⟨(Cd (Y4 ((Cj (first / 16) B 8 (aq127, bq127) [] [] []).2.1)) (by decide)), trivial⟩⟩⟩)⟩)⟩)⟩)) ?_))
 have e : Dt first B = (⟨(first / 16), false, 0, false, vq127, ⟨#[]⟩, ⟨#[]⟩, ⟨#[]⟩, 0, false, 0, false, ⟨#[]⟩, ⟨#[]⟩, 0, false, false, ⟨#[]⟩, false, ⟨#[]⟩, 0, false, ((Cj (first / 16) B 8 (aq127, bq127) [] [] []).1), (Cj (first / 16) B 8 (aq127, bq127) [] [] []).2.2, (Cj (first / 16) B 8 (aq127, bq127) [] [] []).2.1⟩ : PacketV) := by
  simp only [Cm] at h8 h80 h90 h121 h123 h125
  unfold Dt Fm Gp; simp only [h8, h80, h90, h121, h123, h125, q127, if_true, if_false, or_true, or_false, false_or, true_or, zaw, za0, zaa, reduceIte]; simp [Ce, h8, h80, h90, h121, h123, h125]
 rw [e]
 rfl
end
section
open Go
theorem AbF (n : Nat) (hn : 1048576 < n) (B : ByteArray) (hB : B.size ≤ 1048576) : Dd E0 (n + 6) 59 86 [Ag B] = some (.agg (Ar (A0 B))) := by
 rw [Bd, Ak7, f86]
 refine C6 (G := (· = some (.agg (Ar (A0 B))))) ?_
 try simp only [F8, B6, Ba, D9, A4, D5, Av, Bh, Pr.gT, Pr.gF, Pr.hT, Pr.hF, Pr.kT, Pr.kF, Bv, B5, Bu, Ct, Dh, Iw]
 have s0 : Sep [] [] := Cx
 refine I6 s0 fun i1 H s2 => Bg (cs := [si 1, bF, i0, bF, i0, sE, .nl, sE, i0, bF, i0, bF, sE, .nl, i0, bF, bF, sE, bF, .nl, i0, bF, .nl, .nl, .nl]) rfl (I6 s2 fun i3 H s4 => Ci (cs' := [si 1, bF, i0, bF, i0, sE, .nl, sE, i0, bF, i0, bF, sE, .nl, i0, bF, bF, sE, bF, .nl, i0, bF, .nl, .nl, .nl]) s4 (.here) (Ak rfl) rfl (Cn rfl) rfl fun H s5 => ?_)
 obtain ⟨vq6, yq6, oq6, q6⟩ : ∃ w y o, Cc B 0 = (w, y, o) := ⟨_, _, _, rfl⟩
 have bq6 := Gv q6
 refine Ew s5 rfl (.cons .ro (.cons .sc .nil)) (by have h := K9 n (by omega) B 0 (by omega) (by omega); rw [q6] at h; exact h) rfl (Bm (Bm (Bm Et))) ?_
 rintro _ _ H ⟨_, rfl, ⟨_, rfl, ⟨_, rfl, ⟨rfl, rfl⟩⟩⟩⟩ s7
 simp only [zal] at s7
 refine B0 (v := ss vq6) rfl (B0 (v := si yq6) rfl (B0 (v := sb oq6) rfl (C2 (Aa (oq6) (fun h8 => ?_) (fun h8 => ?_)))))
 refine Ae (nF h8) (Ae (nF h8) (Sm (A7 (nF h8) (Aa ((vq6.toList == (⟨#[77, 81, 84, 84]⟩ : ByteArray).toList)) (fun h9 => ?_) (fun h9 => ?_)))))
 refine Ae (nF h9) (Ae (nF h9) (Ae (nF h9) (Cz (Ae (nF h9) (O2 (by omega) (by omega) (Ae (nF h9) (Er (A7 (nF h9) (Aa ((decide ((((B.size : Nat) : Int) - 2) < yq6))) (fun h10 => ?_) (fun h10 => ?_))))))))))
 have dh10 := of_decide_eq_true h10
 refine As h10 (Bg (cs := E2) rfl (Ci (cs' := E2) s7 C0 (Ak rfl) rfl (Cn rfl) rfl fun H s11 => At s11 (.here) rfl (Ai (Cf s11 ⟨_, rfl, rfl⟩ (Ed (.nl (Ed (.nl (Hs (.nl (.sc (.sc (.nl (.nl (.nl .nil))))))))))) (Ee ⟨(Am ⟨_, _, rfl, rfl⟩), (Ee ⟨(Am ⟨_, _, rfl, rfl⟩), (Ht ⟨(Am ⟨_, _, rfl, rfl⟩), (Fn ⟨(Am ⟨_, _, rfl, rfl⟩), ⟨(Am ⟨_, _, rfl, rfl⟩), ⟨(Am ⟨_, _, rfl, rfl⟩), trivial⟩⟩⟩)⟩)⟩)⟩)) ?_)))
 have e : A0 B = (⟨0, false, 0, false, 0, ⟨#[]⟩, ⟨#[]⟩, ⟨#[]⟩, 0, false, 0, false, ⟨#[]⟩, ⟨#[]⟩, 0, false, false, ⟨#[]⟩, false, ⟨#[]⟩, 0, false, [], [], []⟩ : PacketV) := by
  unfold A0 Hx Hr Hq Ep Hp F9; simp only [h8, h9, h10, q6, if_true, if_false, or_true, or_false, false_or, true_or, zaa, reduceIte, mqtt, Cw]; (rfl)
 rw [e]
 rfl
 have dh10 := of_decide_eq_false h10
 refine Ax h10 ?_
 have w12 := Ef B yq6
 refine Gr (by omega) (by omega) fun _ => Fg (c := su (A5 B yq6)) rfl (Kt (by omega) (by omega) (Ab (o' := 8) rfl (A6 s7 (.here) rfl rfl fun H s13 => B9 (by omega) (by omega) ?_)))
 have w14 := Ef B (yq6 + 1)
 refine Gr (by omega) (by omega) fun _ => Fg (c := su (A5 B (yq6 + 1))) rfl (Kt (by omega) (by omega) (Gq rfl (Er (Ab (o' := 9) rfl (A6 s13 (.here) rfl rfl fun H s15 => Gq rfl (Er (Ab (o' := 11) rfl (A6 s15 (.here) rfl rfl fun H s16 => Tn 8 rfl (by decide) (Gq rfl (Ab (o' := 14) rfl (A6 s16 (.here) rfl rfl fun H s17 => Gq rfl (Er (Ab (o' := 15) rfl (A6 s17 (.here) rfl rfl fun H s18 => Gq rfl (Er (Ab (o' := 18) rfl (A6 s18 (.here) rfl rfl fun H s19 => Gq rfl (Er (Ab (o' := 16) rfl (A6 s19 (.here) rfl rfl fun H s20 => B9 (by omega) (by omega) ?_))))))))))))))))))))
 obtain ⟨wq21, yq21, oq21, q21⟩ : ∃ w y o, Bq B (yq6 + 2) = (w, y, o) := ⟨_, _, _, rfl⟩
 have bq21 := F5 q21
 refine Ew s20 rfl (.cons .ro (.cons .sc .nil)) (by have h := P6 (n + 4) (by omega) B (yq6 + 2) (by omega) (by omega); rw [q21] at h; exact h) rfl (Bm (Bm (Bm Et))) ?_
 rintro _ _ H ⟨_, rfl, ⟨_, rfl, ⟨_, rfl, ⟨rfl, rfl⟩⟩⟩⟩ s22
 simp only [zal] at s22
 refine B0 (v := si wq21) rfl (B0 (v := si yq21) rfl (B0 (v := sb oq21) rfl (Ab (o' := 10) rfl (A6 s22 (.here) rfl rfl fun H s23 => ?_))))
 obtain ⟨vq24, yq24, oq24, q24⟩ : ∃ w y o, Cc B yq21 = (w, y, o) := ⟨_, _, _, rfl⟩
 have bq24 := Gv q24
 refine Ew s23 rfl (.cons .ro (.cons .sc .nil)) (by have h := K9 n (by omega) B yq21 (by omega) (by omega); rw [q24] at h; exact h) rfl (Bm (Bm (Bm Et))) ?_
 rintro _ _ H ⟨_, rfl, ⟨_, rfl, ⟨_, rfl, ⟨rfl, rfl⟩⟩⟩⟩ s25
 simp only [zal] at s25
 refine B0 (v := ss vq24) rfl (B0 (v := si yq24) rfl (B0 (v := sb oq24) rfl (Ab (o' := 7) rfl (A6 s25 (.here) rfl rfl fun H s26 => C2 (Aa (oq21) (fun h27 => ?_) (fun h27 => ?_))))))
 refine Ae (nF h27) (Ae (nF h27) (C2 (A7 (nF h27) (Aa (oq24) (fun h28 => ?_) (fun h28 => ?_)))))
 refine Ax (nF h28) (Ab (o' := 11) rfl (Ap (c := .sc (.bool (decide (0 < (bits .and .i64 (A5 B (yq6 + 1)) 4))))) s26 (.here) rfl (Di (Aa ((decide (0 < (bits .and .i64 (A5 B (yq6 + 1)) 4)))) (fun h29 => ?_) (fun h29 => ?_)))))
 have dh29 := of_decide_eq_true h29
 refine As h29 ?_
 obtain ⟨vq30, yq30, oq30, q30⟩ : ∃ w y o, Cc B yq24 = (w, y, o) := ⟨_, _, _, rfl⟩
 have bq30 := Gv q30
 refine Ew s26 rfl (.cons .ro (.cons .sc .nil)) (by have h := K9 n (by omega) B yq24 (by omega) (by omega); rw [q30] at h; exact h) rfl (Bm (Bm (Bm Et))) ?_
 rintro _ _ H ⟨_, rfl, ⟨_, rfl, ⟨_, rfl, ⟨rfl, rfl⟩⟩⟩⟩ s31
 simp only [zal] at s31
 refine B0 (v := ss vq30) rfl (B0 (v := si yq30) rfl (B0 (v := sb oq30) rfl ?_))
 obtain ⟨vq32, yq32, oq32, q32⟩ : ∃ w y o, Bk B yq30 = (w, y, o) := ⟨_, _, _, rfl⟩
 have bq32 := Fo q32
 refine Ew s31 rfl (.cons .ro (.cons .sc .nil)) (by have h := P5 (n + 3) (by omega) B yq30 (by omega) (by omega); rw [q32] at h; exact h) rfl (J8 (ty := 22) rfl (Da vq32) (Bm (Bm Et))) ?_
 rintro _ _ H ⟨x33, _, _, lx33, rfl, rfl, ⟨_, rfl, ⟨_, rfl, ⟨rfl, rfl⟩⟩⟩⟩ s34
 simp only [zal, zaz] at s34
 refine B0 (v := x33) rfl (B0 (v := si yq32) rfl (B0 (v := sb oq32) rfl (C2 (Aa (oq30) (fun h35 => ?_) (fun h35 => ?_)))))
 refine Ae (nF h35) (Ae (nF h35) (C2 (A7 (nF h35) (Aa (oq32) (fun h36 => ?_) (fun h36 => ?_)))))
 refine Ax (nF h36) (Ab (o' := 12) rfl (A6 s34 C0 rfl rfl fun H s37 => Ab (o' := 13) rfl (A6 s37 (.here) lx33 rfl fun H s38 => Ab (o' := 16) rfl (Ap (c := .sc (.bool (decide (0 < (bits .and .i64 (A5 B (yq6 + 1)) 128))))) s38 (.here) rfl (Di (Aa ((decide (0 < (bits .and .i64 (A5 B (yq6 + 1)) 128)))) (fun h39 => ?_) (fun h39 => ?_)))))))
 have dh39 := of_decide_eq_true h39
 refine As h39 ?_
 obtain ⟨vq40, yq40, oq40, q40⟩ : ∃ w y o, Cc B yq32 = (w, y, o) := ⟨_, _, _, rfl⟩
 have bq40 := Gv q40
 refine Ew s38 rfl (.cons .ro (.cons .sc .nil)) (by have h := K9 n (by omega) B yq32 (by omega) (by omega); rw [q40] at h; exact h) rfl (Bm (Bm (Bm Et))) ?_
 rintro _ _ H ⟨_, rfl, ⟨_, rfl, ⟨_, rfl, ⟨rfl, rfl⟩⟩⟩⟩ s41
 simp only [zal] at s41
 refine B0 (v := ss vq40) rfl (B0 (v := si yq40) rfl (B0 (v := sb oq40) rfl (C2 (Aa (oq40) (fun h42 => ?_) (fun h42 => ?_)))))
 refine Ax (nF h42) (Ab (o' := 17) rfl (A6 s41 (.here) rfl rfl fun H s43 => Ab (o' := 18) rfl (Ap (c := .sc (.bool (decide (0 < (bits .and .i64 (A5 B (yq6 + 1)) 64))))) s43 (.here) rfl (Di (Aa ((decide (0 < (bits .and .i64 (A5 B (yq6 + 1)) 64)))) (fun h44 => ?_) (fun h44 => ?_))))))
 have dh44 := of_decide_eq_true h44
 refine As h44 ?_
 obtain ⟨vq45, yq45, oq45, q45⟩ : ∃ w y o, Bk B yq40 = (w, y, o) := ⟨_, _, _, rfl⟩
 have bq45 := Fo q45
 refine Ew s43 rfl (.cons .ro (.cons .sc .nil)) (by have h := P5 (n + 3) (by omega) B yq40 (by omega) (by omega); rw [q45] at h; exact h) rfl (J8 (ty := 22) rfl (Da vq45) (Bm (Bm Et))) ?_
 rintro _ _ H ⟨x46, _, _, lx46, rfl, rfl, ⟨_, rfl, ⟨_, rfl, ⟨rfl, rfl⟩⟩⟩⟩ s47
 simp only [zal, zaz] at s47
 refine B0 (v := x46) rfl (B0 (v := si yq45) rfl (B0 (v := sb oq45) rfl (C2 (Aa (oq45) (fun h48 => ?_) (fun h48 => ?_)))))
 refine Ax (nF h48) (Ab (o' := 19) rfl (A6 s47 C0 lx46 rfl fun H s49 => At s49 (.here) rfl (Ci (cs' := [si 1, bF, i0, bF, i0, sE, .nl, ss vq24, si (A5 B yq6), .sc (.bool (decide (0 < (bits .and .i64 (A5 B (yq6 + 1)) 2)))), si wq21, .sc (.bool (decide (0 < (bits .and .i64 (A5 B (yq6 + 1)) 4)))), ss vq30, x33, si (bits .and .i64 ((A5 B (yq6 + 1)) / 8) 3), .sc (.bool (decide (0 < (bits .and .i64 (A5 B (yq6 + 1)) 32)))), .sc (.bool (decide (0 < (bits .and .i64 (A5 B (yq6 + 1)) 128)))), ss vq40, .sc (.bool (decide (0 < (bits .and .i64 (A5 B (yq6 + 1)) 64)))), x46, i0, bF, .nl, .nl, .nl]) s49 Mv (Ak (Af rfl (Af rfl (Af rfl (Af rfl (Af rfl (Af rfl (Af rfl (Af rfl (Af rfl (Af rfl (Af rfl (Af rfl (Af rfl (Af lx33 (Af rfl (Af rfl (Af rfl (Af rfl (Af rfl (Af lx46 rfl))))))))))))))))))))) rfl (Cn rfl) rfl fun H s50 => At s50 (.here) rfl (Ai (Cf s50 ⟨_, rfl, rfl⟩ (Ed (.nl (Ed (.own Mv (Hs (.own Dj (.sc (.sc (.nl (.nl (.nl .nil))))))))))) (Ee ⟨(Am ⟨_, _, rfl, rfl⟩), (Ee ⟨(Cd (Da vq32) (by decide)), (Ht ⟨(Cd (Da vq45) (by decide)), (Fn ⟨(Am ⟨_, _, rfl, rfl⟩), ⟨(Am ⟨_, _, rfl, rfl⟩), ⟨(Am ⟨_, _, rfl, rfl⟩), trivial⟩⟩⟩)⟩)⟩)⟩)) ?_))))
 have e : A0 B = (⟨1, false, 0, false, 0, ⟨#[]⟩, ⟨#[]⟩, vq24, (A5 B yq6), (decide (0 < (bits .and .i64 (A5 B (yq6 + 1)) 2))), wq21, (decide (0 < (bits .and .i64 (A5 B (yq6 + 1)) 4))), vq30, vq32, (bits .and .i64 ((A5 B (yq6 + 1)) / 8) 3), (decide (0 < (bits .and .i64 (A5 B (yq6 + 1)) 32))), (decide (0 < (bits .and .i64 (A5 B (yq6 + 1)) 128))), vq40, (decide (0 < (bits .and .i64 (A5 B (yq6 + 1)) 64))), vq45, 0, false, [], [], []⟩ : PacketV) := by
  unfold A0 Hx Hr Hq Ep Hp F9; simp only [h8, h9, h10, h27, h28, h29, h35, h36, h39, h42, h44, h48, q6, q21, q24, q30, q32, q40, q45, if_true, if_false, or_true, or_false, false_or, true_or, zaa, reduceIte, mqtt, Cw]; (rfl)
 rw [e]
 rfl
 refine As (nT h48) (Bg (cs := E2) rfl (Ci (cs' := E2) s47 Mv (Ak rfl) rfl (Cn rfl) rfl fun H s51 => At s51 (.here) rfl (Ai (Cf s51 ⟨_, rfl, rfl⟩ (Ed (.nl (Ed (.nl (Hs (.nl (.sc (.sc (.nl (.nl (.nl .nil))))))))))) (Ee ⟨(Am ⟨_, _, rfl, rfl⟩), (Ee ⟨(Am ⟨_, _, rfl, rfl⟩), (Ht ⟨(Am ⟨_, _, rfl, rfl⟩), (Fn ⟨(Am ⟨_, _, rfl, rfl⟩), ⟨(Am ⟨_, _, rfl, rfl⟩), ⟨(Am ⟨_, _, rfl, rfl⟩), trivial⟩⟩⟩)⟩)⟩)⟩)) ?_)))
 have e : A0 B = (⟨0, false, 0, false, 0, ⟨#[]⟩, ⟨#[]⟩, ⟨#[]⟩, 0, false, 0, false, ⟨#[]⟩, ⟨#[]⟩, 0, false, false, ⟨#[]⟩, false, ⟨#[]⟩, 0, false, [], [], []⟩ : PacketV) := by
  unfold A0 Hx Hr Hq Ep Hp F9; simp only [h8, h9, h10, h27, h28, h29, h35, h36, h39, h42, h44, h48, q6, q21, q24, q30, q32, q40, q45, if_true, if_false, or_true, or_false, false_or, true_or, zaa, reduceIte, mqtt, Cw]; (rfl)
 rw [e]
 rfl
 have dh44 := of_decide_eq_false h44
 refine Ax h44 (At s43 (.here) rfl (Ci (cs' := [si 1, bF, i0, bF, i0, sE, .nl, ss vq24, si (A5 B yq6), .sc (.bool (decide (0 < (bits .and .i64 (A5 B (yq6 + 1)) 2)))), si wq21, .sc (.bool (decide (0 < (bits .and .i64 (A5 B (yq6 + 1)) 4)))), ss vq30, x33, si (bits .and .i64 ((A5 B (yq6 + 1)) / 8) 3), .sc (.bool (decide (0 < (bits .and .i64 (A5 B (yq6 + 1)) 32)))), .sc (.bool (decide (0 < (bits .and .i64 (A5 B (yq6 + 1)) 128)))), ss vq40, .sc (.bool (decide (0 < (bits .and .i64 (A5 B (yq6 + 1)) 64)))), .nl, i0, bF, .nl, .nl, .nl]) s43 Dj (Ak (Af rfl (Af rfl (Af rfl (Af rfl (Af rfl (Af rfl (Af rfl (Af rfl (Af rfl (Af rfl (Af rfl (Af rfl (Af rfl (Af lx33 rfl))))))))))))))) rfl (Cn rfl) rfl fun H s52 => At s52 (.here) rfl (Ai (Cf s52 ⟨_, rfl, rfl⟩ (Ed (.nl (Ed (.own Dj (Hs (.nl (.sc (.sc (.nl (.nl (.nl .nil))))))))))) (Ee ⟨(Am ⟨_, _, rfl, rfl⟩), (Ee ⟨(Cd (Da vq32) (by decide)), (Ht ⟨(Am ⟨_, _, rfl, rfl⟩), (Fn ⟨(Am ⟨_, _, rfl, rfl⟩), ⟨(Am ⟨_, _, rfl, rfl⟩), ⟨(Am ⟨_, _, rfl, rfl⟩), trivial⟩⟩⟩)⟩)⟩)⟩)) ?_)))
 have e : A0 B = (⟨1, false, 0, false, 0, ⟨#[]⟩, ⟨#[]⟩, vq24, (A5 B yq6), (decide (0 < (bits .and .i64 (A5 B (yq6 + 1)) 2))), wq21, (decide (0 < (bits .and .i64 (A5 B (yq6 + 1)) 4))), vq30, vq32, (bits .and .i64 ((A5 B (yq6 + 1)) / 8) 3), (decide (0 < (bits .and .i64 (A5 B (yq6 + 1)) 32))), (decide (0 < (bits .and .i64 (A5 B (yq6 + 1)) 128))), vq40, (decide (0 < (bits .and .i64 (A5 B (yq6 + 1)) 64))), ⟨#[]⟩, 0, false, [], [], []⟩ : PacketV) := by
  unfold A0 Hx Hr Hq Ep Hp F9; simp only [h8, h9, h10, h27, h28, h29, h35, h36, h39, h42, h44, q6, q21, q24, q30, q32, q40, if_true, if_false, or_true, or_false, false_or, true_or, zaa, reduceIte, mqtt, Cw]; (rfl)
 rw [e]
 rfl
 refine As (nT h42) (Bg (cs := E2) rfl (Ci (cs' := E2) s41 Dj (Ak rfl) rfl (Cn rfl) rfl fun H s53 => At s53 (.here) rfl (Ai (Cf s53 ⟨_, rfl, rfl⟩ (Ed (.nl (Ed (.nl (Hs (.nl (.sc (.sc (.nl (.nl (.nl .nil))))))))))) (Ee ⟨(Am ⟨_, _, rfl, rfl⟩), (Ee ⟨(Am ⟨_, _, rfl, rfl⟩), (Ht ⟨(Am ⟨_, _, rfl, rfl⟩), (Fn ⟨(Am ⟨_, _, rfl, rfl⟩), ⟨(Am ⟨_, _, rfl, rfl⟩), ⟨(Am ⟨_, _, rfl, rfl⟩), trivial⟩⟩⟩)⟩)⟩)⟩)) ?_)))
 have e : A0 B = (⟨0, false, 0, false, 0, ⟨#[]⟩, ⟨#[]⟩, ⟨#[]⟩, 0, false, 0, false, ⟨#[]⟩, ⟨#[]⟩, 0, false, false, ⟨#[]⟩, false, ⟨#[]⟩, 0, false, [], [], []⟩ : PacketV) := by
  unfold A0 Hx Hr Hq Ep Hp F9; simp only [h8, h9, h10, h27, h28, h29, h35, h36, h39, h42, q6, q21, q24, q30, q32, q40, if_true, if_false, or_true, or_false, false_or, true_or, zaa, reduceIte, mqtt, Cw]; (rfl)
 rw [e]
 rfl
 have dh39 := of_decide_eq_false h39
 refine Ax h39 (Ab (o' := 18) rfl (Ap (c := .sc (.bool (decide (0 < (bits .and .i64 (A5 B (yq6 + 1)) 64))))) s38 (.here) rfl (Di (Aa ((decide (0 < (bits .and .i64 (A5 B (yq6 + 1)) 64)))) (fun h54 => ?_) (fun h54 => ?_)))))
 have dh54 := of_decide_eq_true h54
 refine As h54 ?_
 obtain ⟨vq55, yq55, oq55, q55⟩ : ∃ w y o, Bk B yq32 = (w, y, o) := ⟨_, _, _, rfl⟩
 have bq55 := Fo q55
 refine Ew s38 rfl (.cons .ro (.cons .sc .nil)) (by have h := P5 (n + 3) (by omega) B yq32 (by omega) (by omega); rw [q55] at h; exact h) rfl (J8 (ty := 22) rfl (Da vq55) (Bm (Bm Et))) ?_
 rintro _ _ H ⟨x56, _, _, lx56, rfl, rfl, ⟨_, rfl, ⟨_, rfl, ⟨rfl, rfl⟩⟩⟩⟩ s57
 simp only [zal, zaz] at s57
 refine B0 (v := x56) rfl (B0 (v := si yq55) rfl (B0 (v := sb oq55) rfl (C2 (Aa (oq55) (fun h58 => ?_) (fun h58 => ?_)))))
 refine Ax (nF h58) (Ab (o' := 19) rfl (A6 s57 C0 lx56 rfl fun H s59 => At s59 (.here) rfl (Ci (cs' := [si 1, bF, i0, bF, i0, sE, .nl, ss vq24, si (A5 B yq6), .sc (.bool (decide (0 < (bits .and .i64 (A5 B (yq6 + 1)) 2)))), si wq21, .sc (.bool (decide (0 < (bits .and .i64 (A5 B (yq6 + 1)) 4)))), ss vq30, x33, si (bits .and .i64 ((A5 B (yq6 + 1)) / 8) 3), .sc (.bool (decide (0 < (bits .and .i64 (A5 B (yq6 + 1)) 32)))), .sc (.bool (decide (0 < (bits .and .i64 (A5 B (yq6 + 1)) 128)))), sE, .sc (.bool (decide (0 < (bits .and .i64 (A5 B (yq6 + 1)) 64)))), x56, i0, bF, .nl, .nl, .nl]) s59 Mv (Ak (Af rfl (Af rfl (Af rfl (Af rfl (Af rfl (Af rfl (Af rfl (Af rfl (Af rfl (Af rfl (Af rfl (Af rfl (Af rfl (Af lx33 (Af rfl (Af rfl (Af rfl (Af rfl (Af rfl (Af lx56 rfl))))))))))))))))))))) rfl (Cn rfl) rfl fun H s60 => At s60 (.here) rfl (Ai (Cf s60 ⟨_, rfl, rfl⟩ (Ed (.nl (Ed (.own Mv (Hs (.own Dj (.sc (.sc (.nl (.nl (.nl .nil))))))))))) (Ee ⟨(Am ⟨_, _, rfl, rfl⟩), (Ee ⟨(Cd (Da vq32) (by decide)), (Ht ⟨(Cd (Da vq55) (by decide)), (Fn ⟨(Am ⟨_, _, rfl, rfl⟩), ⟨(Am ⟨_, _, rfl, rfl⟩), ⟨(Am ⟨_, _, rfl, rfl⟩), trivial⟩⟩⟩)⟩)⟩)⟩)) ?_))))
 have e : A0 B = (⟨1, false, 0, false, 0, ⟨#[]⟩, ⟨#[]⟩, vq24, (A5 B yq6), (decide (0 < (bits .and .i64 (A5 B (yq6 + 1)) 2))), wq21, (decide (0 < (bits .and .i64 (A5 B (yq6 + 1)) 4))), vq30, vq32, (bits .and .i64 ((A5 B (yq6 + 1)) / 8) 3), (decide (0 < (bits .and .i64 (A5 B (yq6 + 1)) 32))), (decide (0 < (bits .and .i64 (A5 B (yq6 + 1)) 128))), ⟨#[]⟩, (decide (0 < (bits .and .i64 (A5 B (yq6 + 1)) 64))), vq55, 0, false, [], [], []⟩ : PacketV) := by
  unfold A0 Hx Hr Hq Ep Hp F9; simp only [h8, h9, h10, h27, h28, h29, h35, h36, h39, h54, h58, q6, q21, q24, q30, q32, q55, if_true, if_false, or_true, or_false, false_or, true_or, zaa, reduceIte, mqtt, Cw]; (rfl)
 rw [e]
 rfl
 refine As (nT h58) (Bg (cs := E2) rfl (Ci (cs' := E2) s57 Mv (Ak rfl) rfl (Cn rfl) rfl fun H s61 => At s61 (.here) rfl (Ai (Cf s61 ⟨_, rfl, rfl⟩ (Ed (.nl (Ed (.nl (Hs (.nl (.sc (.sc (.nl (.nl (.nl .nil))))))))))) (Ee ⟨(Am ⟨_, _, rfl, rfl⟩), (Ee ⟨(Am ⟨_, _, rfl, rfl⟩), (Ht ⟨(Am ⟨_, _, rfl, rfl⟩), (Fn ⟨(Am ⟨_, _, rfl, rfl⟩), ⟨(Am ⟨_, _, rfl, rfl⟩), ⟨(Am ⟨_, _, rfl, rfl⟩), trivial⟩⟩⟩)⟩)⟩)⟩)) ?_)))
 have e : A0 B = (⟨0, false, 0, false, 0, ⟨#[]⟩, ⟨#[]⟩, ⟨#[]⟩, 0, false, 0, false, ⟨#[]⟩, ⟨#[]⟩, 0, false, false, ⟨#[]⟩, false, ⟨#[]⟩, 0, false, [], [], []⟩ : PacketV) := by
  unfold A0 Hx Hr Hq Ep Hp F9; simp only [h8, h9, h10, h27, h28, h29, h35, h36, h39, h54, h58, q6, q21, q24, q30, q32, q55, if_true, if_false, or_true, or_false, false_or, true_or, zaa, reduceIte, mqtt, Cw]; (rfl)
 rw [e]
 rfl
 have dh54 := of_decide_eq_false h54
 refine Ax h54 (At s38 (.here) rfl (Ci (cs' := [si 1, bF, i0, bF, i0, sE, .nl, ss vq24, si (A5 B yq6), .sc (.bool (decide (0 < (bits .and .i64 (A5 B (yq6 + 1)) 2)))), si wq21, .sc (.bool (decide (0 < (bits .and .i64 (A5 B (yq6 + 1)) 4)))), ss vq30, x33, si (bits .and .i64 ((A5 B (yq6 + 1)) / 8) 3), .sc (.bool (decide (0 < (bits .and .i64 (A5 B (yq6 + 1)) 32)))), .sc (.bool (decide (0 < (bits .and .i64 (A5 B (yq6 + 1)) 128)))), sE, .sc (.bool (decide (0 < (bits .and .i64 (A5 B (yq6 + 1)) 64)))), .nl, i0, bF, .nl, .nl, .nl]) s38 Dj (Ak (Af rfl (Af rfl (Af rfl (Af rfl (Af rfl (Af rfl (Af rfl (Af rfl (Af rfl (Af rfl (Af rfl (Af rfl (Af rfl (Af lx33 rfl))))))))))))))) rfl (Cn rfl) rfl fun H s62 => At s62 (.here) rfl (Ai (Cf s62 ⟨_, rfl, rfl⟩ (Ed (.nl (Ed (.own Dj (Hs (.nl (.sc (.sc (.nl (.nl (.nl .nil))))))))))) (Ee ⟨(Am ⟨_, _, rfl, rfl⟩), (Ee ⟨(Cd (Da vq32) (by decide)), (Ht ⟨(Am ⟨_, _, rfl, rfl⟩), (Fn ⟨(Am ⟨_, _, rfl, rfl⟩), ⟨(Am ⟨_, _, rfl, rfl⟩), ⟨(Am ⟨_, _, rfl, rfl⟩), trivial⟩⟩⟩)⟩)⟩)⟩)) ?_)))
 have e : A0 B = (⟨1, false, 0, false, 0, ⟨#[]⟩, ⟨#[]⟩, vq24, (A5 B yq6), (decide (0 < (bits .and .i64 (A5 B (yq6 + 1)) 2))), wq21, (decide (0 < (bits .and .i64 (A5 B (yq6 + 1)) 4))), vq30, vq32, (bits .and .i64 ((A5 B (yq6 + 1)) / 8) 3), (decide (0 < (bits .and .i64 (A5 B (yq6 + 1)) 32))), (decide (0 < (bits .and .i64 (A5 B (yq6 + 1)) 128))), ⟨#[]⟩, (decide (0 < (bits .and .i64 (A5 B (yq6 + 1)) 64))), ⟨#[]⟩, 0, false, [], [], []⟩ : PacketV) := by
  unfold A0 Hx Hr Hq Ep Hp F9; simp only [h8, h9, h10, h27, h28, h29, h35, h36, h39, h54, q6, q21, q24, q30, q32, if_true, if_false, or_true, or_false, false_or, true_or, zaa, reduceIte, mqtt, Cw]; (rfl)
 rw [e]
 rfl
 refine As (nT h36) (Bg (cs := E2) rfl (Ci (cs' := E2) s34 Dj (Ak rfl) rfl (Cn rfl) rfl fun H s63 => At s63 (.here) rfl (Ai (Cf s63 ⟨_, rfl, rfl⟩ (Ed (.nl (Ed (.nl (Hs (.nl (.sc (.sc (.nl (.nl (.nl .nil))))))))))) (Ee ⟨(Am ⟨_, _, rfl, rfl⟩), (Ee ⟨(Am ⟨_, _, rfl, rfl⟩), (Ht ⟨(Am ⟨_, _, rfl, rfl⟩), (Fn ⟨(Am ⟨_, _, rfl, rfl⟩), ⟨(Am ⟨_, _, rfl, rfl⟩), ⟨(Am ⟨_, _, rfl, rfl⟩), trivial⟩⟩⟩)⟩)⟩)⟩)) ?_)))
 have e : A0 B = (⟨0, false, 0, false, 0, ⟨#[]⟩, ⟨#[]⟩, ⟨#[]⟩, 0, false, 0, false, ⟨#[]⟩, ⟨#[]⟩, 0, false, false, ⟨#[]⟩, false, ⟨#[]⟩, 0, false, [], [], []⟩ : PacketV) := by
  unfold A0 Hx Hr Hq Ep Hp F9; simp only [h8, h9, h10, h27, h28, h29, h35, h36, q6, q21, q24, q30, q32, if_true, if_false, or_true, or_false, false_or, true_or, zaa, reduceIte, mqtt, Cw]; (rfl)
 rw [e]
 rfl
 refine Ac (nT h35) (Ac (nT h35) (B4 (nT h35) (As rfl (Bg (cs := E2) rfl (Ci (cs' := E2) s34 Dj (Ak rfl) rfl (Cn rfl) rfl fun H s64 => At s64 (.here) rfl (Ai (Cf s64 ⟨_, rfl, rfl⟩ (Ed (.nl (Ed (.nl (Hs (.nl (.sc (.sc (.nl (.nl (.nl .nil))))))))))) (Ee ⟨(Am ⟨_, _, rfl, rfl⟩), (Ee ⟨(Am ⟨_, _, rfl, rfl⟩), (Ht ⟨(Am ⟨_, _, rfl, rfl⟩), (Fn ⟨(Am ⟨_, _, rfl, rfl⟩), ⟨(Am ⟨_, _, rfl, rfl⟩), ⟨(Am ⟨_, _, rfl, rfl⟩), trivial⟩⟩⟩)⟩)⟩)⟩)) ?_))))))
 have e : A0 B = (⟨0, false, 0, false, 0, ⟨#[]⟩, ⟨#[]⟩, ⟨#[]⟩, 0, false, 0, false, ⟨#[]⟩, ⟨#[]⟩, 0, false, false, ⟨#[]⟩, false, ⟨#[]⟩, 0, false, [], [], []⟩ : PacketV) := by
  unfold A0 Hx Hr Hq Ep Hp F9; simp only [h8, h9, h10, h27, h28, h29, h35, q6, q21, q24, q30, q32, if_true, if_false, or_true, or_false, false_or, true_or, zaa, reduceIte, mqtt, Cw]; (rfl)
 rw [e]
 rfl
 have dh29 := of_decide_eq_false h29
 refine Ax h29 (Ab (o' := 16) rfl (Ap (c := .sc (.bool (decide (0 < (bits .and .i64 (A5 B (yq6 + 1)) 128))))) s26 (.here) rfl (Di (Aa ((decide (0 < (bits .and .i64 (A5 B (yq6 + 1)) 128)))) (fun h65 => ?_) (fun h65 => ?_)))))
 have dh65 := of_decide_eq_true h65
 refine As h65 ?_
 obtain ⟨vq66, yq66, oq66, q66⟩ : ∃ w y o, Cc B yq24 = (w, y, o) := ⟨_, _, _, rfl⟩
 have bq66 := Gv q66
 refine Ew s26 rfl (.cons .ro (.cons .sc .nil)) (by have h := K9 n (by omega) B yq24 (by omega) (by omega); rw [q66] at h; exact h) rfl (Bm (Bm (Bm Et))) ?_
 rintro _ _ H ⟨_, rfl, ⟨_, rfl, ⟨_, rfl, ⟨rfl, rfl⟩⟩⟩⟩ s67
 simp only [zal] at s67
 refine B0 (v := ss vq66) rfl (B0 (v := si yq66) rfl (B0 (v := sb oq66) rfl (C2 (Aa (oq66) (fun h68 => ?_) (fun h68 => ?_)))))
 refine Ax (nF h68) (Ab (o' := 17) rfl (A6 s67 (.here) rfl rfl fun H s69 => Ab (o' := 18) rfl (Ap (c := .sc (.bool (decide (0 < (bits .and .i64 (A5 B (yq6 + 1)) 64))))) s69 (.here) rfl (Di (Aa ((decide (0 < (bits .and .i64 (A5 B (yq6 + 1)) 64)))) (fun h70 => ?_) (fun h70 => ?_))))))
 have dh70 := of_decide_eq_true h70
 refine As h70 ?_
 obtain ⟨vq71, yq71, oq71, q71⟩ : ∃ w y o, Bk B yq66 = (w, y, o) := ⟨_, _, _, rfl⟩
 have bq71 := Fo q71
 refine Ew s69 rfl (.cons .ro (.cons .sc .nil)) (by have h := P5 (n + 3) (by omega) B yq66 (by omega) (by omega); rw [q71] at h; exact h) rfl (J8 (ty := 22) rfl (Da vq71) (Bm (Bm Et))) ?_
 rintro _ _ H ⟨x72, _, _, lx72, rfl, rfl, ⟨_, rfl, ⟨_, rfl, ⟨rfl, rfl⟩⟩⟩⟩ s73
 simp only [zal, zaz] at s73
 refine B0 (v := x72) rfl (B0 (v := si yq71) rfl (B0 (v := sb oq71) rfl (C2 (Aa (oq71) (fun h74 => ?_) (fun h74 => ?_)))))
 refine Ax (nF h74) (Ab (o' := 19) rfl (A6 s73 C0 lx72 rfl fun H s75 => At s75 (.here) rfl (Ci (cs' := [si 1, bF, i0, bF, i0, sE, .nl, ss vq24, si (A5 B yq6), .sc (.bool (decide (0 < (bits .and .i64 (A5 B (yq6 + 1)) 2)))), si wq21, .sc (.bool (decide (0 < (bits .and .i64 (A5 B (yq6 + 1)) 4)))), sE, .nl, si (bits .and .i64 ((A5 B (yq6 + 1)) / 8) 3), .sc (.bool (decide (0 < (bits .and .i64 (A5 B (yq6 + 1)) 32)))), .sc (.bool (decide (0 < (bits .and .i64 (A5 B (yq6 + 1)) 128)))), ss vq66, .sc (.bool (decide (0 < (bits .and .i64 (A5 B (yq6 + 1)) 64)))), x72, i0, bF, .nl, .nl, .nl]) s75 Dj (Ak (Af rfl (Af rfl (Af rfl (Af rfl (Af rfl (Af rfl (Af rfl (Af rfl (Af rfl (Af rfl (Af rfl (Af rfl (Af rfl (Af rfl (Af rfl (Af rfl (Af rfl (Af rfl (Af rfl (Af lx72 rfl))))))))))))))))))))) rfl (Cn rfl) rfl fun H s76 => At s76 (.here) rfl (Ai (Cf s76 ⟨_, rfl, rfl⟩ (Ed (.nl (Ed (.nl (Hs (.own Dj (.sc (.sc (.nl (.nl (.nl .nil))))))))))) (Ee ⟨(Am ⟨_, _, rfl, rfl⟩), (Ee ⟨(Am ⟨_, _, rfl, rfl⟩), (Ht ⟨(Cd (Da vq71) (by decide)), (Fn ⟨(Am ⟨_, _, rfl, rfl⟩), ⟨(Am ⟨_, _, rfl, rfl⟩), ⟨(Am ⟨_, _, rfl, rfl⟩), trivial⟩⟩⟩)⟩)⟩)⟩)) ?_))))
 have e : A0 B = (⟨1, false, 0, false, 0, ⟨#[]⟩, ⟨#[]⟩, vq24, (A5 B yq6), (decide (0 < (bits .and .i64 (A5 B (yq6 + 1)) 2))), wq21, (decide (0 < (bits .and .i64 (A5 B (yq6 + 1)) 4))), ⟨#[]⟩, ⟨#[]⟩, (bits .and .i64 ((A5 B (yq6 + 1)) / 8) 3), (decide (0 < (bits .and .i64 (A5 B (yq6 + 1)) 32))), (decide (0 < (bits .and .i64 (A5 B (yq6 + 1)) 128))), vq66, (decide (0 < (bits .and .i64 (A5 B (yq6 + 1)) 64))), vq71, 0, false, [], [], []⟩ : PacketV) := by
  unfold A0 Hx Hr Hq Ep Hp F9; simp only [h8, h9, h10, h27, h28, h29, h65, h68, h70, h74, q6, q21, q24, q66, q71, if_true, if_false, or_true, or_false, false_or, true_or, zaa, reduceIte, mqtt, Cw]; (rfl)
 rw [e]
 rfl
 refine As (nT h74) (Bg (cs := E2) rfl (Ci (cs' := E2) s73 Dj (Ak rfl) rfl (Cn rfl) rfl fun H s77 => At s77 (.here) rfl (Ai (Cf s77 ⟨_, rfl, rfl⟩ (Ed (.nl (Ed (.nl (Hs (.nl (.sc (.sc (.nl (.nl (.nl .nil))))))))))) (Ee ⟨(Am ⟨_, _, rfl, rfl⟩), (Ee ⟨(Am ⟨_, _, rfl, rfl⟩), (Ht ⟨(Am ⟨_, _, rfl, rfl⟩), (Fn ⟨(Am ⟨_, _, rfl, rfl⟩), ⟨(Am ⟨_, _, rfl, rfl⟩), ⟨(Am ⟨_, _, rfl, rfl⟩), trivial⟩⟩⟩)⟩)⟩)⟩)) ?_)))
 have e : A0 B = (⟨0, false, 0, false, 0, ⟨#[]⟩, ⟨#[]⟩, ⟨#[]⟩, 0, false, 0, false, ⟨#[]⟩, ⟨#[]⟩, 0, false, false, ⟨#[]⟩, false, ⟨#[]⟩, 0, false, [], [], []⟩ : PacketV) := by
  unfold A0 Hx Hr Hq Ep Hp F9; simp only [h8, h9, h10, h27, h28, h29, h65, h68, h70, h74, q6, q21, q24, q66, q71, if_true, if_false, or_true, or_false, false_or, true_or, zaa, reduceIte, mqtt, Cw]; (rfl)
 rw [e]
 rfl
 have dh70 := of_decide_eq_false h70
 refine Ax h70 (At s69 (.here) rfl (Ci (cs' := [si 1, bF, i0, bF, i0, sE, .nl, ss vq24, si (A5 B yq6), .sc (.bool (decide (0 < (bits .and .i64 (A5 B (yq6 + 1)) 2)))), si wq21, .sc (.bool (decide (0 < (bits .and .i64 (A5 B (yq6 + 1)) 4)))), sE, .nl, si (bits .and .i64 ((A5 B (yq6 + 1)) / 8) 3), .sc (.bool (decide (0 < (bits .and .i64 (A5 B (yq6 + 1)) 32)))), .sc (.bool (decide (0 < (bits .and .i64 (A5 B (yq6 + 1)) 128)))), ss vq66, .sc (.bool (decide (0 < (bits .and .i64 (A5 B (yq6 + 1)) 64)))), .nl, i0, bF, .nl, .nl, .nl]) s69 C0 (Ak rfl) rfl (Cn rfl) rfl fun H s78 => At s78 (.here) rfl (Ai (Cf s78 ⟨_, rfl, rfl⟩ (Ed (.nl (Ed (.nl (Hs (.nl (.sc (.sc (.nl (.nl (.nl .nil))))))))))) (Ee ⟨(Am ⟨_, _, rfl, rfl⟩), (Ee ⟨(Am ⟨_, _, rfl, rfl⟩), (Ht ⟨(Am ⟨_, _, rfl, rfl⟩), (Fn ⟨(Am ⟨_, _, rfl, rfl⟩), ⟨(Am ⟨_, _, rfl, rfl⟩), ⟨(Am ⟨_, _, rfl, rfl⟩), trivial⟩⟩⟩)⟩)⟩)⟩)) ?_)))
 have e : A0 B = (⟨1, false, 0, false, 0, ⟨#[]⟩, ⟨#[]⟩, vq24, (A5 B yq6), (decide (0 < (bits .and .i64 (A5 B (yq6 + 1)) 2))), wq21, (decide (0 < (bits .and .i64 (A5 B (yq6 + 1)) 4))), ⟨#[]⟩, ⟨#[]⟩, (bits .and .i64 ((A5 B (yq6 + 1)) / 8) 3), (decide (0 < (bits .and .i64 (A5 B (yq6 + 1)) 32))), (decide (0 < (bits .and .i64 (A5 B (yq6 + 1)) 128))), vq66, (decide (0 < (bits .and .i64 (A5 B (yq6 + 1)) 64))), ⟨#[]⟩, 0, false, [], [], []⟩ : PacketV) := by
  unfold A0 Hx Hr Hq Ep Hp F9; simp only [h8, h9, h10, h27, h28, h29, h65, h68, h70, q6, q21, q24, q66, if_true, if_false, or_true, or_false, false_or, true_or, zaa, reduceIte, mqtt, Cw]; (rfl)
 rw [e]
 rfl
 refine As (nT h68) (Bg (cs := E2) rfl (Ci (cs' := E2) s67 C0 (Ak rfl) rfl (Cn rfl) rfl fun H s79 => At s79 (.here) rfl (Ai (Cf s79 ⟨_, rfl, rfl⟩ (Ed (.nl (Ed (.nl (Hs (.nl (.sc (.sc (.nl (.nl (.nl .nil))))))))))) (Ee ⟨(Am ⟨_, _, rfl, rfl⟩), (Ee ⟨(Am ⟨_, _, rfl, rfl⟩), (Ht ⟨(Am ⟨_, _, rfl, rfl⟩), (Fn ⟨(Am ⟨_, _, rfl, rfl⟩), ⟨(Am ⟨_, _, rfl, rfl⟩), ⟨(Am ⟨_, _, rfl, rfl⟩), trivial⟩⟩⟩)⟩)⟩)⟩)) ?_)))
 have e : A0 B = (⟨0, false, 0, false, 0, ⟨#[]⟩, ⟨#[]⟩, ⟨#[]⟩, 0, false, 0, false, ⟨#[]⟩, ⟨#[]⟩, 0, false, false, ⟨#[]⟩, false, ⟨#[]⟩, 0, false, [], [], []⟩ : PacketV) := by
  unfold A0 Hx Hr Hq Ep Hp F9; simp only [h8, h9, h10, h27, h28, h29, h65, h68, q6, q21, q24, q66, if_true, if_false, or_true, or_false, false_or, true_or, zaa, reduceIte, mqtt, Cw]; (rfl)
 rw [e]
 rfl
 have dh65 := of_decide_eq_false h65
 refine Ax h65 (Ab (o' := 18) rfl (Ap (c := .sc (.bool (decide (0 < (bits .and .i64 (A5 B (yq6 + 1)) 64))))) s26 (.here) rfl (Di (Aa ((decide (0 < (bits .and .i64 (A5 B (yq6 + 1)) 64)))) (fun h80 => ?_) (fun h80 => ?_)))))
 have dh80 := of_decide_eq_true h80
 refine As h80 ?_
 obtain ⟨vq81, yq81, oq81, q81⟩ : ∃ w y o, Bk B yq24 = (w, y, o) := ⟨_, _, _, rfl⟩
 have bq81 := Fo q81
 refine Ew s26 rfl (.cons .ro (.cons .sc .nil)) (by have h := P5 (n + 3) (by omega) B yq24 (by omega) (by omega); rw [q81] at h; exact h) rfl (J8 (ty := 22) rfl (Da vq81) (Bm (Bm Et))) ?_
 rintro _ _ H ⟨x82, _, _, lx82, rfl, rfl, ⟨_, rfl, ⟨_, rfl, ⟨rfl, rfl⟩⟩⟩⟩ s83
 simp only [zal, zaz] at s83
 refine B0 (v := x82) rfl (B0 (v := si yq81) rfl (B0 (v := sb oq81) rfl (C2 (Aa (oq81) (fun h84 => ?_) (fun h84 => ?_)))))
 refine Ax (nF h84) (Ab (o' := 19) rfl (A6 s83 C0 lx82 rfl fun H s85 => At s85 (.here) rfl (Ci (cs' := [si 1, bF, i0, bF, i0, sE, .nl, ss vq24, si (A5 B yq6), .sc (.bool (decide (0 < (bits .and .i64 (A5 B (yq6 + 1)) 2)))), si wq21, .sc (.bool (decide (0 < (bits .and .i64 (A5 B (yq6 + 1)) 4)))), sE, .nl, si (bits .and .i64 ((A5 B (yq6 + 1)) / 8) 3), .sc (.bool (decide (0 < (bits .and .i64 (A5 B (yq6 + 1)) 32)))), .sc (.bool (decide (0 < (bits .and .i64 (A5 B (yq6 + 1)) 128)))), sE, .sc (.bool (decide (0 < (bits .and .i64 (A5 B (yq6 + 1)) 64)))), x82, i0, bF, .nl, .nl, .nl]) s85 Dj (Ak (Af rfl (Af rfl (Af rfl (Af rfl (Af rfl (Af rfl (Af rfl (Af rfl (Af rfl (Af rfl (Af rfl (Af rfl (Af rfl (Af rfl (Af rfl (Af rfl (Af rfl (Af rfl (Af rfl (Af lx82 rfl))))))))))))))))))))) rfl (Cn rfl) rfl fun H s86 => At s86 (.here) rfl (Ai (Cf s86 ⟨_, rfl, rfl⟩ (Ed (.nl (Ed (.nl (Hs (.own Dj (.sc (.sc (.nl (.nl (.nl .nil))))))))))) (Ee ⟨(Am ⟨_, _, rfl, rfl⟩), (Ee ⟨(Am ⟨_, _, rfl, rfl⟩), (Ht ⟨(Cd (Da vq81) (by decide)), (Fn ⟨(Am ⟨_, _, rfl, rfl⟩), ⟨(Am ⟨_, _, rfl, rfl⟩), ⟨(Am ⟨_, _, rfl, rfl⟩), trivial⟩⟩⟩)⟩)⟩)⟩)) ?_))))
 have e : A0 B = (⟨1, false, 0, false, 0, ⟨#[]⟩, ⟨#[]⟩, vq24, (A5 B yq6), (decide (0 < (bits .and .i64 (A5 B (yq6 + 1)) 2))), wq21, (decide (0 < (bits .and .i64 (A5 B (yq6 + 1)) 4))), ⟨#[]⟩, ⟨#[]⟩, (bits .and .i64 ((A5 B (yq6 + 1)) / 8) 3), (decide (0 < (bits .and .i64 (A5 B (yq6 + 1)) 32))), (decide (0 < (bits .and .i64 (A5 B (yq6 + 1)) 128))), ⟨#[]⟩, (decide (0 < (bits .and .i64 (A5 B (yq6 + 1)) 64))), vq81, 0, false, [], [], []⟩ : PacketV) := by
  unfold A0 Hx Hr Hq Ep Hp F9; simp only [h8, h9, h10, h27, h28, h29, h65, h80, h84, q6, q21, q24, q81, if_true, if_false, or_true, or_false, false_or, true_or, zaa, reduceIte, mqtt, Cw]; (rfl)
 rw [e]
 rfl
 refine As (nT h84) (Bg (cs := E2) rfl (Ci (cs' := E2) s83 Dj (Ak rfl) rfl (Cn rfl) rfl fun H s87 => At s87 (.here) rfl (Ai (Cf s87 ⟨_, rfl, rfl⟩ (Ed (.nl (Ed (.nl (Hs (.nl (.sc (.sc (.nl (.nl (.nl .nil))))))))))) (Ee ⟨(Am ⟨_, _, rfl, rfl⟩), (Ee ⟨(Am ⟨_, _, rfl, rfl⟩), (Ht ⟨(Am ⟨_, _, rfl, rfl⟩), (Fn ⟨(Am ⟨_, _, rfl, rfl⟩), ⟨(Am ⟨_, _, rfl, rfl⟩), ⟨(Am ⟨_, _, rfl, rfl⟩), trivial⟩⟩⟩)⟩)⟩)⟩)) ?_)))
 have e : A0 B = (⟨0, false, 0, false, 0, ⟨#[]⟩, ⟨#[]⟩, ⟨#[]⟩, 0, false, 0, false, ⟨#[]⟩, ⟨#[]⟩, 0, false, false, ⟨#[]⟩, false, ⟨#[]⟩, 0, false, [], [], []⟩ : PacketV) := by
  unfold A0 Hx Hr Hq Ep Hp F9; simp only [h8, h9, h10, h27, h28, h29, h65, h80, h84, q6, q21, q24, q81, if_true, if_false, or_true, or_false, false_or, true_or, zaa, reduceIte, mqtt, Cw]; (rfl)
 rw [e]
 rfl
 have dh80 := of_decide_eq_false h80
 refine Ax h80 (At s26 (.here) rfl (Ci (cs' := [si 1, bF, i0, bF, i0, sE, .nl, ss vq24, si (A5 B yq6), .sc (.bool (decide (0 < (bits .and .i64 (A5 B (yq6 + 1)) 2)))), si wq21, .sc (.bool (decide (0 < (bits .and .i64 (A5 B (yq6 + 1)) 4)))), sE, .nl, si (bits .and .i64 ((A5 B (yq6 + 1)) / 8) 3), .sc (.bool (decide (0 < (bits .and .i64 (A5 B (yq6 + 1)) 32)))), .sc (.bool (decide (0 < (bits .and .i64 (A5 B (yq6 + 1)) 128)))), sE, .sc (.bool (decide (0 < (bits .and .i64 (A5 B (yq6 + 1)) 64)))), .nl, i0, bF, .nl, .nl, .nl]) s26 C0 (Ak rfl) rfl (Cn rfl) rfl fun H s88 => At s88 (.here) rfl (Ai (Cf s88 ⟨_, rfl, rfl⟩ (Ed (.nl (Ed (.nl (Hs (.nl (.sc (.sc (.nl (.nl (.nl .nil))))))))))) (Ee ⟨(Am ⟨_, _, rfl, rfl⟩), (Ee ⟨(Am ⟨_, _, rfl, rfl⟩), (Ht ⟨(Am ⟨_, _, rfl, rfl⟩), (Fn ⟨(Am ⟨_, _, rfl, rfl⟩), ⟨(Am ⟨_, _, rfl, rfl⟩), ⟨(Am ⟨_, _, rfl, rfl⟩), trivial⟩⟩⟩)⟩)⟩)⟩)) ?_)))
 have e : A0 B = (⟨1, false, 0, false, 0, ⟨#[]⟩, ⟨#[]⟩, vq24, (A5 B yq6), (decide (0 < (bits .and .i64 (A5 B (yq6 + 1)) 2))), wq21, (decide (0 < (bits .and .i64 (A5 B (yq6 + 1)) 4))), ⟨#[]⟩, ⟨#[]⟩, (bits .and .i64 ((A5 B (yq6 + 1)) / 8) 3), (decide (0 < (bits .and .i64 (A5 B (yq6 + 1)) 32))), (decide (0 < (bits .and .i64 (A5 B (yq6 + 1)) 128))), ⟨#[]⟩, (decide (0 < (bits .and .i64 (A5 B (yq6 + 1)) 64))), ⟨#[]⟩, 0, false, [], [], []⟩ : PacketV) := by
  unfold A0 Hx Hr Hq Ep Hp F9; simp only [h8, h9, h10, h27, h28, h29, h65, h80, q6, q21, q24, if_true, if_false, or_true, or_false, false_or, true_or, zaa, reduceIte, mqtt, Cw]; (rfl)
 rw [e]
 rfl
 refine As (nT h28) (Bg (cs := E2) rfl (Ci (cs' := E2) s26 C0 (Ak rfl) rfl (Cn rfl) rfl fun H s89 => At s89 (.here) rfl (Ai (Cf s89 ⟨_, rfl, rfl⟩ (Ed (.nl (Ed (.nl (Hs (.nl (.sc (.sc (.nl (.nl (.nl .nil))))))))))) (Ee ⟨(Am ⟨_, _, rfl, rfl⟩), (Ee ⟨(Am ⟨_, _, rfl, rfl⟩), (Ht ⟨(Am ⟨_, _, rfl, rfl⟩), (Fn ⟨(Am ⟨_, _, rfl, rfl⟩), ⟨(Am ⟨_, _, rfl, rfl⟩), ⟨(Am ⟨_, _, rfl, rfl⟩), trivial⟩⟩⟩)⟩)⟩)⟩)) ?_)))
 have e : A0 B = (⟨0, false, 0, false, 0, ⟨#[]⟩, ⟨#[]⟩, ⟨#[]⟩, 0, false, 0, false, ⟨#[]⟩, ⟨#[]⟩, 0, false, false, ⟨#[]⟩, false, ⟨#[]⟩, 0, false, [], [], []⟩ : PacketV) := by
  unfold A0 Hx Hr Hq Ep Hp F9; simp only [h8, h9, h10, h27, h28, q6, q21, q24, if_true, if_false, or_true, or_false, false_or, true_or, zaa, reduceIte, mqtt, Cw]; (rfl)
 rw [e]
 rfl
 refine Ac (nT h27) (Ac (nT h27) (B4 (nT h27) (As rfl (Bg (cs := E2) rfl (Ci (cs' := E2) s26 C0 (Ak rfl) rfl (Cn rfl) rfl fun H s90 => At s90 (.here) rfl (Ai (Cf s90 ⟨_, rfl, rfl⟩ (Ed (.nl (Ed (.nl (Hs (.nl (.sc (.sc (.nl (.nl (.nl .nil))))))))))) (Ee ⟨(Am ⟨_, _, rfl, rfl⟩), (Ee ⟨(Am ⟨_, _, rfl, rfl⟩), (Ht ⟨(Am ⟨_, _, rfl, rfl⟩), (Fn ⟨(Am ⟨_, _, rfl, rfl⟩), ⟨(Am ⟨_, _, rfl, rfl⟩), ⟨(Am ⟨_, _, rfl, rfl⟩), trivial⟩⟩⟩)⟩)⟩)⟩)) ?_))))))
 have e : A0 B = (⟨0, false, 0, false, 0, ⟨#[]⟩, ⟨#[]⟩, ⟨#[]⟩, 0, false, 0, false, ⟨#[]⟩, ⟨#[]⟩, 0, false, false, ⟨#[]⟩, false, ⟨#[]⟩, 0, false, [], [], []⟩ : PacketV) := by
  unfold A0 Hx Hr Hq Ep Hp F9; simp only [h8, h9, h10, h27, q6, q21, q24, if_true, if_false, or_true, or_false, false_or, true_or, zaa, reduceIte, mqtt, Cw]; (rfl)
 rw [e]
 rfl
 refine Ac (nT h9) (Ac (nT h9) (Ac (nT h9) (Ac (nT h9) (Ac (nT h9) (B4 (nT h9) (As rfl (Bg (cs := E2) rfl (Ci (cs' := E2) s7 C0 (Ak rfl) rfl (Cn rfl) rfl fun H s91 => At s91 (.here) rfl (Ai (Cf s91 ⟨_, rfl, rfl⟩ (Ed (.nl (Ed (.nl (Hs (.nl (.sc (.sc (.nl (.nl (.nl .nil))))))))))) (Ee ⟨(Am ⟨_, _, rfl, rfl⟩), (Ee ⟨(Am ⟨_, _, rfl, rfl⟩), (Ht ⟨(Am ⟨_, _, rfl, rfl⟩), (Fn ⟨(Am ⟨_, _, rfl, rfl⟩), ⟨(Am ⟨_, _, rfl, rfl⟩), ⟨(Am ⟨_, _, rfl, rfl⟩), trivial⟩⟩⟩)⟩)⟩)⟩)) ?_)))))))))
 have e : A0 B = (⟨0, false, 0, false, 0, ⟨#[]⟩, ⟨#[]⟩, ⟨#[]⟩, 0, false, 0, false, ⟨#[]⟩, ⟨#[]⟩, 0, false, false, ⟨#[]⟩, false, ⟨#[]⟩, 0, false, [], [], []⟩ : PacketV) := by
  unfold A0 Hx Hr Hq Ep Hp F9; simp only [h8, h9, q6, if_true, if_false, or_true, or_false, false_or, true_or, zaa, reduceIte, mqtt, Cw]; (rfl)
 rw [e]
 rfl
 refine Ac (nT h8) (Ac (nT h8) (B4 (nT h8) (Ac rfl (Ac rfl (Ac rfl (Ac rfl (Ac rfl (B4 rfl (As rfl (Bg (cs := E2) rfl (Ci (cs' := E2) s7 C0 (Ak rfl) rfl (Cn rfl) rfl fun H s92 => At s92 (.here) rfl (Ai (Cf s92 ⟨_, rfl, rfl⟩ (Ed (.nl (Ed (.nl (Hs (.nl (.sc (.sc (.nl (.nl (.nl .nil))))))))))) (Ee ⟨(Am ⟨_, _, rfl, rfl⟩), (Ee ⟨(Am ⟨_, _, rfl, rfl⟩), (Ht ⟨(Am ⟨_, _, rfl, rfl⟩), (Fn ⟨(Am ⟨_, _, rfl, rfl⟩), ⟨(Am ⟨_, _, rfl, rfl⟩), ⟨(Am ⟨_, _, rfl, rfl⟩), trivial⟩⟩⟩)⟩)⟩)⟩)) ?_))))))))))))
 have e : A0 B = (⟨0, false, 0, false, 0, ⟨#[]⟩, ⟨#[]⟩, ⟨#[]⟩, 0, false, 0, false, ⟨#[]⟩, ⟨#[]⟩, 0, false, false, ⟨#[]⟩, false, ⟨#[]⟩, 0, false, [], [], []⟩ : PacketV) := by
  unfold A0 Hx Hr Hq Ep Hp F9; simp only [h8, q6, if_true, if_false, or_true, or_false, false_or, true_or, zaa, reduceIte, mqtt, Cw]; (rfl)
 rw [e]
 rfl
theorem Ot (n : Nat) (hn : 1048576 < n) (t id : Int) (B : ByteArray) (d4 d5 : Nat) (hB : B.size ≤ 1048576) (cs : List Int) : ∀ (f m : Nat) (a : Int) (ws : List WantV) (ns : List ByteArray) (xw xc xn : AV) (H : Ad), f ≤ m → ((B.size : Nat) : Int) - a < f → 0 ≤ a → ((ws.length + ns.length : Nat) : Int) ≤ a ∧ a ≤ ((B.size : Nat) : Int) → Bn xw = true → Bn xc = true → Bn xn = true → Sep H [.own xw 55 (C5 Bw ws), .own xc 57 (El cs), .own xn 56 (En ns), .blk d4 [.sc (.int .i64 0), .sc (.bool false), .sc (.int .i64 0), .sc (.bool false), .sc (.int .i64 0), .sc (.string (⟨#[]⟩)), .nl, .sc (.string (⟨#[]⟩)), .sc (.int .i64 0), .sc (.bool false), .sc (.int .i64 0), .sc (.bool false), .sc (.string (⟨#[]⟩)), .nl, .sc (.int .i64 0), .sc (.bool false), .sc (.bool false), .sc (.string (⟨#[]⟩)), .sc (.bool false), .nl, .sc (.int .i64 0), .sc (.bool false), .nl, .nl, .nl] true, .blk d5 [.sc (.int .i64 t), .sc (.bool false), .sc (.int .i64 0), .sc (.bool false), .sc (.int .i64 id), .sc (.string (⟨#[]⟩)), .nl, .sc (.string (⟨#[]⟩)), .sc (.int .i64 0), .sc (.bool false), .sc (.int .i64 0), .sc (.bool false), .sc (.string (⟨#[]⟩)), .nl, .sc (.int .i64 0), .sc (.bool false), .sc (.bool false), .sc (.string (⟨#[]⟩)), .sc (.bool false), .nl, .sc (.int .i64 0), .sc (.bool false), xw, xn, xc] true] → Gd (· = some (.agg (Ar (L5 t id cs (C8 t B f a ws ns))))) (Ow (PR (n + 6) AV) (n + 6) (fun x H => Bf Au E0.tp 59 H x) m (Ag B) (.ptr d4 0) (.ptr d5 0) (.sc (.int .i64 a)) H)
 | 0, m, a, ws, ns, xw, xc, xn, H, hm, hM, h0, h1, lxw, lxc, lxn, s0 => by
  exfalso
  omega
 | f + 1, m + 1, a, ws, ns, xw, xc, xn, H, hm, hM, h0, h1, lxw, lxc, lxn, s0 => by
  rw [Ow]
  try simp only [Cq, B6, Ba, D9, A4, D5, Av, Bh, Pr.gT, Pr.gF, Pr.hT, Pr.hF, Pr.kT, Pr.kF, Bv, B5, Bu, Ct, Du, Dh, Iw]
  refine Cz (Dw (Aa ((decide (a < ((B.size : Nat) : Int)))) (fun h1 => ?_) (fun h1 => ?_)))
  have dh1 := of_decide_eq_true h1
  refine Ae h1 (Ab (o' := 0) rfl (Ae h1 (Ap (c := si t) s0 Mw rfl (Ae h1 (Be (Ae h1 (Aa ((decide (t = 8))) (fun h2 => ?_) (fun h2 => ?_))))))))
  have dh2 := of_decide_eq_true h2
  refine Ac h2 (Ac h2 (Ac h2 (Ae h1 (B4 h2 (B4 h1 (As rfl ?_))))))
  obtain ⟨vq3, yq3, oq3, q3⟩ : ∃ w y o, Cc B a = (w, y, o) := ⟨_, _, _, rfl⟩
  have bq3 := Gv q3
  refine Ew s0 rfl (.cons .ro (.cons .sc .nil)) (by have h := K9 (n + 1) (by omega) B a (by omega) (by omega); rw [q3] at h; exact h) rfl (Bm (Bm (Bm Et))) ?_
  rintro _ _ H ⟨_, rfl, ⟨_, rfl, ⟨_, rfl, ⟨rfl, rfl⟩⟩⟩⟩ s4
  simp only [zal] at s4
  refine B0 (v := ss vq3) rfl (B0 (v := si yq3) rfl (B0 (v := sb oq3) rfl (C2 (Aa (oq3) (fun h5 => ?_) (fun h5 => ?_)))))
  refine Ax (nF h5) (Ab (o' := 0) rfl (Ap (c := si t) s4 Mw rfl (Be (Aa ((decide (t = 10))) (fun h6 => ?_) (fun h6 => ?_)))))
  have dh6 := of_decide_eq_true h6
  refine As h6 (Ab (o' := 23) rfl (Ap (c := xn) s4 Mw rfl (Bg (cs := [ss vq3]) rfl (Co s4 fun i7 H s8 => Yw s8 Mv (.here) ⟨_, _, rfl, rfl, rfl, rfl⟩ rfl (by omega) fun x9 H lx9 s10 => Ab (o' := 23) rfl (Ci (cs' := [si t, bF, i0, bF, si id, sE, .nl, sE, i0, bF, i0, bF, sE, .nl, i0, bF, bF, sE, bF, .nl, i0, bF, xw, x9, xc]) s10 Mw (Eh lx9) rfl (Cn rfl) rfl fun H s11 => ?_)))))
  have e : C8 t B (f + 1) a ws ns = C8 t B f yq3 ws (ns ++ [vq3]) := by
   clear s0 s4 s8 s10 s11
   simp only [Cm] at h1 h2 h6
   (exfalso; omega)
  rw [e]
  have hk := bq3.2.2.2 h5
  exact Ot n hn t id B d4 d5 hB cs f m yq3 ws (ns ++ [vq3]) xw xc x9 _ (by omega) (by omega) (by omega) (by omega) lxw lxc lx9 (s11.sel (.cons Dj (.cons Dj (.cons C0 (.cons C0 (.cons (.here) .nil))))))
  have dh6 := of_decide_eq_false h6
  refine Ax h6 (Cz (Be (Aa ((decide (yq3 = ((B.size : Nat) : Int)))) (fun h12 => ?_) (fun h12 => ?_))))
  have dh12 := of_decide_eq_true h12
  refine As h12 (Bg (cs := E2) rfl (Ci (cs' := E2) s4 Mv (Ak rfl) rfl (Cn rfl) rfl fun H s13 => At s13 (.here) rfl (Ai (Cf s13 ⟨_, rfl, rfl⟩ (Ed (.nl (Ed (.nl (Hs (.nl (.sc (.sc (.nl (.nl (.nl .nil))))))))))) (Ee ⟨(Am ⟨_, _, rfl, rfl⟩), (Ee ⟨(Am ⟨_, _, rfl, rfl⟩), (Ht ⟨(Am ⟨_, _, rfl, rfl⟩), (Fn ⟨(Am ⟨_, _, rfl, rfl⟩), ⟨(Am ⟨_, _, rfl, rfl⟩), ⟨(Am ⟨_, _, rfl, rfl⟩), trivial⟩⟩⟩)⟩)⟩)⟩)) ?_)))
  have e : L5 t id cs (C8 t B (f + 1) a ws ns) = (⟨0, false, 0, false, 0, ⟨#[]⟩, ⟨#[]⟩, ⟨#[]⟩, 0, false, 0, false, ⟨#[]⟩, ⟨#[]⟩, 0, false, false, ⟨#[]⟩, false, ⟨#[]⟩, 0, false, [], [], []⟩ : PacketV) := by
   simp only [Cm] at h1 h2 h6 h12
   rw [C8]; simp only [q3]; simp [L5, Ce, h1, h2, h5, h6, h12]
  rw [e]
  rfl
  have dh12 := of_decide_eq_false h12
  refine Ax h12 (Ab (o' := 22) rfl (Ap (c := xw) s4 Mw rfl ?_))
  have w14 := Ef B yq3
  refine Gr (by omega) (by omega) fun _ => Fg (c := su (A5 B yq3)) rfl (Kt (by omega) (by omega) (Bg (cs := [ss vq3, si (A5 B yq3)]) rfl (Bg (cs := [ss vq3, si (A5 B yq3)]) (Ko (z' := [ss vq3, si (A5 B yq3)]) (Ak rfl) rfl (Cn rfl) rfl (rfl)) (Co s4 fun i15 H s16 => Yv (cty := [9, 3]) (e := (⟨vq3, (A5 B yq3)⟩ : WantV)) s16 ⟨_, _, rfl, rfl, rfl, rfl⟩ C0 (.here) rfl rfl (.sc (.sc .nil)) (Fn trivial) rfl (by omega) fun x17 H lx17 s18 => Ab (o' := 22) rfl (Ci (cs' := [si t, bF, i0, bF, si id, sE, .nl, sE, i0, bF, i0, bF, sE, .nl, i0, bF, bF, sE, bF, .nl, i0, bF, x17, xn, xc]) s18 Mw (Eh lx17) rfl (Cn rfl) rfl fun H s19 => B9 (by omega) (by omega) ?_)))))
  have e : C8 t B (f + 1) a ws ns = C8 t B f (yq3 + 1) (ws ++ [⟨vq3, (A5 B yq3)⟩]) ns := by
   simp only [Cm] at h1 h2 h6 h12
   (rw [C8]; simp only [q3]; simp [h1, h2, h5, h6, h12])
  rw [e]
  have hk := bq3.2.2.2 h5
  exact Ot n hn t id B d4 d5 hB cs f m (yq3 + 1) (ws ++ [⟨vq3, (A5 B yq3)⟩]) ns x17 xc xn _ (by omega) (by omega) (by omega) (by (simp only [zae, zas]; omega)) lx17 lxc lxn (s19.sel (.cons C0 (.cons C0 (.cons C0 (.cons C0 (.cons (.here) .nil))))))
  refine As (nT h5) (Bg (cs := E2) rfl (Ci (cs' := E2) s4 Mv (Ak rfl) rfl (Cn rfl) rfl fun H s20 => At s20 (.here) rfl (Ai (Cf s20 ⟨_, rfl, rfl⟩ (Ed (.nl (Ed (.nl (Hs (.nl (.sc (.sc (.nl (.nl (.nl .nil))))))))))) (Ee ⟨(Am ⟨_, _, rfl, rfl⟩), (Ee ⟨(Am ⟨_, _, rfl, rfl⟩), (Ht ⟨(Am ⟨_, _, rfl, rfl⟩), (Fn ⟨(Am ⟨_, _, rfl, rfl⟩), ⟨(Am ⟨_, _, rfl, rfl⟩), ⟨(Am ⟨_, _, rfl, rfl⟩), trivial⟩⟩⟩)⟩)⟩)⟩)) ?_)))
  have e : L5 t id cs (C8 t B (f + 1) a ws ns) = (⟨0, false, 0, false, 0, ⟨#[]⟩, ⟨#[]⟩, ⟨#[]⟩, 0, false, 0, false, ⟨#[]⟩, ⟨#[]⟩, 0, false, false, ⟨#[]⟩, false, ⟨#[]⟩, 0, false, [], [], []⟩ : PacketV) := by
   simp only [Cm] at h1 h2
   rw [C8]; simp only [q3]; simp [L5, Ce, h1, h2, h5]
  rw [e]
  rfl
  have dh2 := of_decide_eq_false h2
  refine Ae h2 (Ab (o' := 0) rfl (Ae h2 (Ap (c := si t) s0 Mw rfl (Ae h2 (Be (Ae h1 (A7 h2 (B4 h1 (Aa ((decide (t = 10))) (fun h21 => ?_) (fun h21 => ?_))))))))))
  have dh21 := of_decide_eq_true h21
  refine As h21 ?_
  obtain ⟨vq22, yq22, oq22, q22⟩ : ∃ w y o, Cc B a = (w, y, o) := ⟨_, _, _, rfl⟩
  have bq22 := Gv q22
  refine Ew s0 rfl (.cons .ro (.cons .sc .nil)) (by have h := K9 (n + 1) (by omega) B a (by omega) (by omega); rw [q22] at h; exact h) rfl (Bm (Bm (Bm Et))) ?_
  rintro _ _ H ⟨_, rfl, ⟨_, rfl, ⟨_, rfl, ⟨rfl, rfl⟩⟩⟩⟩ s23
  simp only [zal] at s23
  refine B0 (v := ss vq22) rfl (B0 (v := si yq22) rfl (B0 (v := sb oq22) rfl (C2 (Aa (oq22) (fun h24 => ?_) (fun h24 => ?_)))))
  refine Ax (nF h24) (Ab (o' := 0) rfl (Ap (c := si t) s23 Mw rfl (Be (As h21 (Ab (o' := 23) rfl (Ap (c := xn) s23 Mw rfl (Bg (cs := [ss vq22]) rfl (Co s23 fun i25 H s26 => Yw s26 Mv (.here) ⟨_, _, rfl, rfl, rfl, rfl⟩ rfl (by omega) fun x27 H lx27 s28 => Ab (o' := 23) rfl (Ci (cs' := [si t, bF, i0, bF, si id, sE, .nl, sE, i0, bF, i0, bF, sE, .nl, i0, bF, bF, sE, bF, .nl, i0, bF, xw, x27, xc]) s28 Mw (Eh lx27) rfl (Cn rfl) rfl fun H s29 => ?_)))))))))
  have e : C8 t B (f + 1) a ws ns = C8 t B f yq22 ws (ns ++ [vq22]) := by
   simp only [Cm] at h1 h2 h21
   (rw [C8]; simp only [q22]; simp [h1, h2, h21, h24])
  rw [e]
  have hk := bq22.2.2.2 h24
  exact Ot n hn t id B d4 d5 hB cs f m yq22 ws (ns ++ [vq22]) xw xc x27 _ (by omega) (by omega) (by omega) (by (simp only [zae, zas]; omega)) lxw lxc lx27 (s29.sel (.cons Dj (.cons Dj (.cons C0 (.cons C0 (.cons (.here) .nil))))))
  refine As (nT h24) (Bg (cs := E2) rfl (Ci (cs' := E2) s23 Mv (Ak rfl) rfl (Cn rfl) rfl fun H s30 => At s30 (.here) rfl (Ai (Cf s30 ⟨_, rfl, rfl⟩ (Ed (.nl (Ed (.nl (Hs (.nl (.sc (.sc (.nl (.nl (.nl .nil))))))))))) (Ee ⟨(Am ⟨_, _, rfl, rfl⟩), (Ee ⟨(Am ⟨_, _, rfl, rfl⟩), (Ht ⟨(Am ⟨_, _, rfl, rfl⟩), (Fn ⟨(Am ⟨_, _, rfl, rfl⟩), ⟨(Am ⟨_, _, rfl, rfl⟩), ⟨(Am ⟨_, _, rfl, rfl⟩), trivial⟩⟩⟩)⟩)⟩)⟩)) ?_)))
  have e : L5 t id cs (C8 t B (f + 1) a ws ns) = (⟨0, false, 0, false, 0, ⟨#[]⟩, ⟨#[]⟩, ⟨#[]⟩, 0, false, 0, false, ⟨#[]⟩, ⟨#[]⟩, 0, false, false, ⟨#[]⟩, false, ⟨#[]⟩, 0, false, [], [], []⟩ : PacketV) := by
   simp only [Cm] at h1 h2 h21
   rw [C8]; simp only [q22]; simp [L5, Ce, h1, h2, h21, h24]
  rw [e]
  rfl
  have dh21 := of_decide_eq_false h21
  refine Ax h21 (At s0 Mw rfl (Ci (cs' := [si t, bF, i0, bF, si id, sE, .nl, sE, i0, bF, i0, bF, sE, .nl, i0, bF, bF, sE, bF, .nl, i0, bF, xw, xn, xc]) s0 Mv (Ak (Af rfl (Af rfl (Af rfl (Af rfl (Af rfl (Af rfl (Af rfl (Af rfl (Af rfl (Af rfl (Af rfl (Af rfl (Af rfl (Af rfl (Af rfl (Af rfl (Af rfl (Af rfl (Af rfl (Af rfl (Af rfl (Af rfl (Af lxw (Af lxn (Af lxc rfl)))))))))))))))))))))))))) rfl (Cn rfl) rfl fun H s31 => At s31 (.here) rfl (Ai (Cf s31 ⟨_, rfl, rfl⟩ (Ed (.nl (Ed (.nl (Hs (.nl (.sc (.sc (.own C0 (.own Dj (.own C0 .nil))))))))))) (Ee ⟨(Am ⟨_, _, rfl, rfl⟩), (Ee ⟨(Am ⟨_, _, rfl, rfl⟩), (Ht ⟨(Am ⟨_, _, rfl, rfl⟩), (Fn ⟨(Cd (K8 ws) (by decide)), ⟨(Cd (V4 ns) (by decide)), ⟨(Cd (Y4 cs) (by decide)), trivial⟩⟩⟩)⟩)⟩)⟩)) ?_)))
  have e : L5 t id cs (C8 t B (f + 1) a ws ns) = (⟨t, false, 0, false, id, ⟨#[]⟩, ⟨#[]⟩, ⟨#[]⟩, 0, false, 0, false, ⟨#[]⟩, ⟨#[]⟩, 0, false, false, ⟨#[]⟩, false, ⟨#[]⟩, 0, false, ws, ns, cs⟩ : PacketV) := by
   simp only [Cm] at h1 h2 h21
   rw [C8]; simp [L5, Ce, h1, h2, h21]
  rw [e]
  rfl
  have dh1 := of_decide_eq_false h1
  refine Ac h1 (Ac h1 (Ac h1 (Ac h1 (D1 (D1 (D1 (Ac h1 (A7 h1 (Ax rfl (At s0 Mw rfl (Ci (cs' := [si t, bF, i0, bF, si id, sE, .nl, sE, i0, bF, i0, bF, sE, .nl, i0, bF, bF, sE, bF, .nl, i0, bF, xw, xn, xc]) s0 Mv (Ak (Af rfl (Af rfl (Af rfl (Af rfl (Af rfl (Af rfl (Af rfl (Af rfl (Af rfl (Af rfl (Af rfl (Af rfl (Af rfl (Af rfl (Af rfl (Af rfl (Af rfl (Af rfl (Af rfl (Af rfl (Af rfl (Af rfl (Af lxw (Af lxn (Af lxc rfl)))))))))))))))))))))))))) rfl (Cn rfl) rfl fun H s32 => At s32 (.here) rfl (Ai (Cf s32 ⟨_, rfl, rfl⟩ (Ed (.nl (Ed (.nl (Hs (.nl (.sc (.sc (.own C0 (.own Dj (.own C0 .nil))))))))))) (Ee ⟨(Am ⟨_, _, rfl, rfl⟩), (Ee ⟨(Am ⟨_, _, rfl, rfl⟩), (Ht ⟨(Am ⟨_, _, rfl, rfl⟩), (Fn ⟨(Cd (K8 ws) (by decide)), ⟨(Cd (V4 ns) (by decide)), ⟨(Cd (Y4 cs) (by decide)), trivial⟩⟩⟩)⟩)⟩)⟩)) ?_))))))))))))
  have e : L5 t id cs (C8 t B (f + 1) a ws ns) = (⟨t, false, 0, false, id, ⟨#[]⟩, ⟨#[]⟩, ⟨#[]⟩, 0, false, 0, false, ⟨#[]⟩, ⟨#[]⟩, 0, false, false, ⟨#[]⟩, false, ⟨#[]⟩, 0, false, ws, ns, cs⟩ : PacketV) := by
   simp only [Cm] at h1
   rw [C8]; simp [L5, Ce, h1]
  rw [e]
  rfl
theorem Uo (n : Nat) (hn : 1048576 < n) (t id : Int) (B : ByteArray) (d4 d5 : Nat) (hB : B.size ≤ 1048576) (a : Int) (ha : 0 ≤ a ∧ a ≤ ((B.size : Nat) : Int)) : ∀ (f m : Nat) (i : Int) (cs : List Int) (xc : AV) (H : Ad), f ≤ m → ((B.size : Nat) : Int) - i < f → 0 ≤ i → ((cs.length : Nat) : Int) ≤ i ∧ i ≤ ((B.size : Nat) : Int) → Bn xc = true → Sep H [.own xc 57 (El cs), .blk d4 [.sc (.int .i64 0), .sc (.bool false), .sc (.int .i64 0), .sc (.bool false), .sc (.int .i64 0), .sc (.string (⟨#[]⟩)), .nl, .sc (.string (⟨#[]⟩)), .sc (.int .i64 0), .sc (.bool false), .sc (.int .i64 0), .sc (.bool false), .sc (.string (⟨#[]⟩)), .nl, .sc (.int .i64 0), .sc (.bool false), .sc (.bool false), .sc (.string (⟨#[]⟩)), .sc (.bool false), .nl, .sc (.int .i64 0), .sc (.bool false), .nl, .nl, .nl] true, .blk d5 [.sc (.int .i64 t), .sc (.bool false), .sc (.int .i64 0), .sc (.bool false), .sc (.int .i64 id), .sc (.string (⟨#[]⟩)), .nl, .sc (.string (⟨#[]⟩)), .sc (.int .i64 0), .sc (.bool false), .sc (.int .i64 0), .sc (.bool false), .sc (.string (⟨#[]⟩)), .nl, .sc (.int .i64 0), .sc (.bool false), .sc (.bool false), .sc (.string (⟨#[]⟩)), .sc (.bool false), .nl, .sc (.int .i64 0), .sc (.bool false), .nl, .nl, xc] true] → Gd (· = some (.agg (Ar (L5 t id (Ge B f i cs) (C8 t B (B.size + 1) a [] []))))) (Ox (PR (n + 6) AV) (n + 6) (fun x H => Bf Au E0.tp 59 H x) m (Ag B) (.ptr d4 0) (.ptr d5 0) (.sc (.int .i64 a)) (.sc (.int .i64 i)) H)
 | 0, m, i, cs, xc, H, hm, hM, h0, h1, lxc, s0 => by
  exfalso
  omega
 | f + 1, m + 1, i, cs, xc, H, hm, hM, h0, h1, lxc, s0 => by
  rw [Ox]
  try simp only [Cq, B6, Ba, D9, A4, Av, B5, Bu, Ct, Du, Dh]
  refine Cz (Dw (Aa ((decide (i < ((B.size : Nat) : Int)))) (fun h1 => ?_) (fun h1 => ?_)))
  have dh1 := of_decide_eq_true h1
  refine As h1 (Ab (o' := 24) rfl (Ap (c := xc) s0 Dj rfl ?_))
  have w2 := Ef B i
  refine Gr (by omega) (by omega) fun _ => Fg (c := su (A5 B i)) rfl (Kt (by omega) (by omega) (Bg (cs := [si (A5 B i)]) rfl (Co s0 fun i3 H s4 => Acq s4 C0 (.here) ⟨_, _, rfl, rfl, rfl, rfl⟩ rfl (by omega) fun x5 H lx5 s6 => Ab (o' := 24) rfl (A6 s6 Dj lx5 rfl fun H s7 => B9 (by omega) (by omega) ?_))))
  have e : Ge B (f + 1) i cs = Ge B f (i + 1) (cs ++ [(A5 B i)]) := by
   simp only [Cm] at h1
   rw [Ge]; simp [h1]
  rw [e]
  exact Uo n hn t id B d4 d5 hB a ha f m (i + 1) (cs ++ [(A5 B i)]) x5 _ (by omega) (by omega) (by omega) (by (simp only [zae, zas]; omega)) lx5 (s7.sel (.cons C0 (.cons C0 (.cons (.here) .nil))))
  have dh1 := of_decide_eq_false h1
  refine Ax h1 ?_
  have e : Ge B (f + 1) i cs = cs := by
   simp only [Cm] at h1
   rw [Ge]; simp [h1]
  rw [e]
  have s8 := s0.nl (ty := 56) ⟨_, _, rfl, rfl⟩
  have s9 := s8.nl (ty := 55) ⟨_, _, rfl, rfl⟩
  exact Ot n hn t id B d4 d5 hB cs (B.size + 1) _ a [] [] .nl xc .nl _ (by omega) (by omega) (by omega) (by omega) rfl lxc rfl (s9.sel (.cons (.here) (.cons C0 (.cons (.here) (.cons (.here) (.cons (.here) .nil))))))
theorem Aji (n : Nat) (hn : 1048576 < n) (first : Int) (B : ByteArray) (hf : 0 ≤ first ∧ first < 256) (hB : B.size ≤ 1048576) : Dd E0 (n + 7) 59 63 [.sc (.int .i64 first), Ag B] = some (.agg (Ar (Dr first B))) := by
 rw [Bd, Aks, f63]
 refine C6 (G := (· = some (.agg (Ar (Dr first B))))) ?_
 try simp only [F8, B6, Ba, D9, A4, D5, Av, Bh, Pr.gT, Pr.gF, Pr.hT, Pr.hF, Pr.kT, Pr.kF, Bv, B5, Bu, Ho, Ct, Du, Dh, Iw]
 have s0 : Sep [] [] := Cx
 refine I6 s0 fun i1 H s2 => O1 (by omega) (by omega) (by decide) (Bg (cs := [si (first / 16), bF, i0, bF, i0, sE, .nl, sE, i0, bF, i0, bF, sE, .nl, i0, bF, bF, sE, bF, .nl, i0, bF, .nl, .nl, .nl]) rfl (I6 s2 fun i3 H s4 => Ci (cs' := [si (first / 16), bF, i0, bF, i0, sE, .nl, sE, i0, bF, i0, bF, sE, .nl, i0, bF, bF, sE, bF, .nl, i0, bF, .nl, .nl, .nl]) s4 (.here) (Ak rfl) rfl (Cn rfl) rfl fun H s5 => Ab (o' := 0) rfl (Ap (c := si (first / 16)) s5 (.here) rfl (Be (Aa ((decide ((first / 16) = 1))) (fun h6 => ?_) (fun h6 => ?_))))))
 have dh6 := of_decide_eq_true h6
 refine As h6 (Rg s5 rfl (.cons .ro .nil) (AbF n (by omega) B hB) ⟨_, rfl, rfl⟩ (M4 _) ?_)
 rintro _ _ H ⟨x7, x8, x9, x10, x11, x12, lx7, lx8, lx9, lx10, lx11, lx12, rfl, rfl⟩ s13
 simp only [zal, zaz] at s13
 refine Ci (cs' := [si ((A0 B).fType), .sc (.bool (A0 B).fDup), si ((A0 B).fQos), .sc (.bool (A0 B).fRetain), si ((A0 B).fId), ss ((A0 B).fTopic), x7, ss ((A0 B).fClient), si ((A0 B).fLevel), .sc (.bool (A0 B).fClean), si ((A0 B).fKeep), .sc (.bool (A0 B).fHasWill), ss ((A0 B).fWTopic), x8, si ((A0 B).fWQos), .sc (.bool (A0 B).fWRetain), .sc (.bool (A0 B).fHasUser), ss ((A0 B).fUser), .sc (.bool (A0 B).fHasPass), x9, si ((A0 B).fCode), .sc (.bool (A0 B).fPresent), x10, x11, x12]) s13 zP7 (Ak (Af rfl (Af rfl (Af rfl (Af rfl (Af rfl (Af rfl (Af lx7 (Af rfl (Af rfl (Af rfl (Af rfl (Af rfl (Af rfl (Af lx8 (Af rfl (Af rfl (Af rfl (Af rfl (Af rfl (Af lx9 (Af rfl (Af rfl (Af lx10 (Af lx11 (Af lx12 rfl)))))))))))))))))))))))))) rfl (Cn rfl) rfl fun H s14 => At s14 (.here) rfl (Ai (Cf s14 ⟨_, rfl, rfl⟩ (Ed (.own Zi (Ed (.own W1 (Hs (.own Mw (.sc (.sc (.own Mv (.own Dj (.own C0 .nil))))))))))) (Ee ⟨(Cd (Da ((A0 B).fBody)) (by decide)), (Ee ⟨(Cd (Da ((A0 B).fWBody)) (by decide)), (Ht ⟨(Cd (Da ((A0 B).fPass)) (by decide)), (Fn ⟨(Cd (K8 ((A0 B).fWants)) (by decide)), ⟨(Cd (V4 ((A0 B).fNames)) (by decide)), ⟨(Cd (Y4 ((A0 B).fCodes)) (by decide)), trivial⟩⟩⟩)⟩)⟩)⟩)) ?_)
 have e : Dr first B = (⟨(A0 B).fType, (A0 B).fDup, (A0 B).fQos, (A0 B).fRetain, (A0 B).fId, (A0 B).fTopic, (A0 B).fBody, (A0 B).fClient, (A0 B).fLevel, (A0 B).fClean, (A0 B).fKeep, (A0 B).fHasWill, (A0 B).fWTopic, (A0 B).fWBody, (A0 B).fWQos, (A0 B).fWRetain, (A0 B).fHasUser, (A0 B).fUser, (A0 B).fHasPass, (A0 B).fPass, (A0 B).fCode, (A0 B).fPresent, ((A0 B).fWants), (A0 B).fNames, (A0 B).fCodes⟩ : PacketV) := by
  simp only [Cm] at h6
  unfold Dr Hy Fv Ld; ((simp only [h6, if_true, if_false, or_true, or_false, false_or, true_or, zaa, reduceIte, and_true, and_false, true_and, false_and, Cw]; done))
 rw [e]
 rfl
 have dh6 := of_decide_eq_false h6
 refine Ax h6 (Ab (o' := 0) rfl (Ap (c := si (first / 16)) s5 (.here) rfl (Be (Aa ((decide ((first / 16) = 2))) (fun h15 => ?_) (fun h15 => ?_)))))
 have dh15 := of_decide_eq_true h15
 refine Ae h15 (Ae h15 (Cz (Ae h15 (Be (B4 h15 (Aa ((decide (((B.size : Nat) : Int) = 2))) (fun h16 => ?_) (fun h16 => ?_)))))))
 have dh16 := of_decide_eq_true h16
 refine As h16 ?_
 have w17 := Ef B 0
 refine Gr (by omega) (by omega) fun _ => Fg (c := su (A5 B 0)) rfl (Qb (v := sb ((A5 B 0) == 1)) (fun k => rfl) (Ab (o' := 21) rfl (A6 s5 (.here) rfl rfl fun H s18 => ?_)))
 have w19 := Ef B 1
 refine Gr (by omega) (by omega) fun _ => Fg (c := su (A5 B 1)) rfl (Kt (by omega) (by omega) (Ab (o' := 20) rfl (A6 s18 (.here) rfl rfl fun H s20 => At s20 (.here) rfl (Ci (cs' := [si (first / 16), bF, i0, bF, i0, sE, .nl, sE, i0, bF, i0, bF, sE, .nl, i0, bF, bF, sE, bF, .nl, si (A5 B 1), sb ((A5 B 0) == 1), .nl, .nl, .nl]) s20 C0 (Ak rfl) rfl (Cn rfl) rfl fun H s21 => At s21 (.here) rfl (Ai (Cf s21 ⟨_, rfl, rfl⟩ (Ed (.nl (Ed (.nl (Hs (.nl (.sc (.sc (.nl (.nl (.nl .nil))))))))))) (Ee ⟨(Am ⟨_, _, rfl, rfl⟩), (Ee ⟨(Am ⟨_, _, rfl, rfl⟩), (Ht ⟨(Am ⟨_, _, rfl, rfl⟩), (Fn ⟨(Am ⟨_, _, rfl, rfl⟩), ⟨(Am ⟨_, _, rfl, rfl⟩), ⟨(Am ⟨_, _, rfl, rfl⟩), trivial⟩⟩⟩)⟩)⟩)⟩)) ?_)))))
 have e : Dr first B = (⟨(first / 16), false, 0, false, 0, ⟨#[]⟩, ⟨#[]⟩, ⟨#[]⟩, 0, false, 0, false, ⟨#[]⟩, ⟨#[]⟩, 0, false, false, ⟨#[]⟩, false, ⟨#[]⟩, (A5 B 1), ((A5 B 0) == 1), [], [], []⟩ : PacketV) := by
  simp only [Cm] at h6 h15 h16
  unfold Dr Hy Fv Ld; ((simp only [h6, h15, h16, if_true, if_false, or_true, or_false, false_or, true_or, zaa, reduceIte, and_true, and_false, true_and, false_and, Cw]; rfl))
 rw [e]
 rfl
 have dh16 := of_decide_eq_false h16
 refine Ax h16 (Ab (o' := 0) rfl (Ap (c := si (first / 16)) s5 (.here) rfl (Be (Aa ((decide ((first / 16) = 3))) (fun h22 => ?_) (fun h22 => ?_)))))
 have dh22 := of_decide_eq_true h22
 refine As h22 (Gq rfl (Er (Ab (o' := 1) rfl (A6 s5 (.here) rfl rfl fun H s23 => Tn 2 rfl (by decide) (Gq rfl (Ab (o' := 2) rfl (A6 s23 (.here) rfl rfl fun H s24 => Gq rfl (Er (Ab (o' := 3) rfl (A6 s24 (.here) rfl rfl fun H s25 => ?_))))))))))
 obtain ⟨vq26, yq26, oq26, q26⟩ : ∃ w y o, Cc B 0 = (w, y, o) := ⟨_, _, _, rfl⟩
 have bq26 := Gv q26
 refine Ew s25 rfl (.cons .ro (.cons .sc .nil)) (by have h := K9 (n + 1) (by omega) B 0 (by omega) (by omega); rw [q26] at h; exact h) rfl (Bm (Bm (Bm Et))) ?_
 rintro _ _ H ⟨_, rfl, ⟨_, rfl, ⟨_, rfl, ⟨rfl, rfl⟩⟩⟩⟩ s27
 simp only [zal] at s27
 refine B0 (v := ss vq26) rfl (B0 (v := si yq26) rfl (B0 (v := sb oq26) rfl (C2 (Aa (oq26) (fun h28 => ?_) (fun h28 => ?_)))))
 refine Ax (nF h28) (Ab (o' := 5) rfl (A6 s27 (.here) rfl rfl fun H s29 => Ab (o' := 2) rfl (Ap (c := si (bits .and .i64 (first / 2) 3)) s29 (.here) rfl (Er (Di (Aa ((decide (0 < (bits .and .i64 (first / 2) 3)))) (fun h30 => ?_) (fun h30 => ?_)))))))
 have dh30 := of_decide_eq_true h30
 refine As h30 ?_
 obtain ⟨wq31, yq31, oq31, q31⟩ : ∃ w y o, Bq B yq26 = (w, y, o) := ⟨_, _, _, rfl⟩
 have bq31 := F5 q31
 refine Ew s29 rfl (.cons .ro (.cons .sc .nil)) (by have h := P6 (n + 5) (by omega) B yq26 (by omega) (by omega); rw [q31] at h; exact h) rfl (Bm (Bm (Bm Et))) ?_
 rintro _ _ H ⟨_, rfl, ⟨_, rfl, ⟨_, rfl, ⟨rfl, rfl⟩⟩⟩⟩ s32
 simp only [zal] at s32
 refine B0 (v := si wq31) rfl (B0 (v := si yq31) rfl (B0 (v := sb oq31) rfl (C2 (Aa (oq31) (fun h33 => ?_) (fun h33 => ?_)))))
 refine Ax (nF h33) (Ab (o' := 4) rfl (A6 s32 (.here) rfl rfl fun H s34 => Gs yq31 ((B.size : Nat) : Int) rfl rfl (by omega) (by omega) (by omega) ?_))
 have z35 := zat (a := B) (b := yq31.toNat) (e := ((B.size : Nat) : Int).toNat)
 refine Ji s34 (by omega) fun x36 H lx36 s37 => Ab (o' := 6) rfl (A6 s37 C0 lx36 rfl fun H s38 => At s38 (.here) rfl (Ci (cs' := [si (first / 16), sb (decide (0 < (bits .and .i64 first 8))), si (bits .and .i64 (first / 2) 3), sb (decide (0 < (bits .and .i64 first 1))), si wq31, ss vq26, x36, sE, i0, bF, i0, bF, sE, .nl, i0, bF, bF, sE, bF, .nl, i0, bF, .nl, .nl, .nl]) s38 Dj (Ak (Af rfl (Af rfl (Af rfl (Af rfl (Af rfl (Af rfl (Af lx36 rfl)))))))) rfl (Cn rfl) rfl fun H s39 => At s39 (.here) rfl (Ai (Cf s39 ⟨_, rfl, rfl⟩ (Ed (.own Dj (Ed (.nl (Hs (.nl (.sc (.sc (.nl (.nl (.nl .nil))))))))))) (Ee ⟨(Cd (Da (B.extract yq31.toNat ((B.size : Nat) : Int).toNat)) (by decide)), (Ee ⟨(Am ⟨_, _, rfl, rfl⟩), (Ht ⟨(Am ⟨_, _, rfl, rfl⟩), (Fn ⟨(Am ⟨_, _, rfl, rfl⟩), ⟨(Am ⟨_, _, rfl, rfl⟩), ⟨(Am ⟨_, _, rfl, rfl⟩), trivial⟩⟩⟩)⟩)⟩)⟩)) ?_)))
 have e : Dr first B = (⟨(first / 16), (decide (0 < (bits .and .i64 first 8))), (bits .and .i64 (first / 2) 3), (decide (0 < (bits .and .i64 first 1))), wq31, vq26, (B.extract yq31.toNat ((B.size : Nat) : Int).toNat), ⟨#[]⟩, 0, false, 0, false, ⟨#[]⟩, ⟨#[]⟩, 0, false, false, ⟨#[]⟩, false, ⟨#[]⟩, 0, false, [], [], []⟩ : PacketV) := by
  clear s0 s2 s4 s5 s23 s24 s25 s27 s29 s32 s34 s37 s38 s39
  simp only [Cm] at h6 h15 h16 h22 h30
  unfold Dr Hy Fv Ld; ((simp only [h6, h15, h16, h22, h30, h28, h33, q26, q31, if_true, if_false, or_true, or_false, false_or, true_or, zaa, reduceIte, and_true, and_false, true_and, false_and, Cw]; simp [Ce, h6, h15, h16, h22, h30, h28, h33]; omega))
 rw [e]
 rfl
 refine As (nT h33) (Bg (cs := E2) rfl (Ci (cs' := E2) s32 C0 (Ak rfl) rfl (Cn rfl) rfl fun H s40 => At s40 (.here) rfl (Ai (Cf s40 ⟨_, rfl, rfl⟩ (Ed (.nl (Ed (.nl (Hs (.nl (.sc (.sc (.nl (.nl (.nl .nil))))))))))) (Ee ⟨(Am ⟨_, _, rfl, rfl⟩), (Ee ⟨(Am ⟨_, _, rfl, rfl⟩), (Ht ⟨(Am ⟨_, _, rfl, rfl⟩), (Fn ⟨(Am ⟨_, _, rfl, rfl⟩), ⟨(Am ⟨_, _, rfl, rfl⟩), ⟨(Am ⟨_, _, rfl, rfl⟩), trivial⟩⟩⟩)⟩)⟩)⟩)) ?_)))
 have e : Dr first B = (⟨0, false, 0, false, 0, ⟨#[]⟩, ⟨#[]⟩, ⟨#[]⟩, 0, false, 0, false, ⟨#[]⟩, ⟨#[]⟩, 0, false, false, ⟨#[]⟩, false, ⟨#[]⟩, 0, false, [], [], []⟩ : PacketV) := by
  clear s0 s2 s4 s5 s23 s24 s25 s27 s29 s32 s40
  simp only [Cm] at h6 h15 h16 h22 h30
  unfold Dr Hy Fv Ld; ((simp only [h6, h15, h16, h22, h30, h28, h33, q26, q31, if_true, if_false, or_true, or_false, false_or, true_or, zaa, reduceIte, and_true, and_false, true_and, false_and, Cw]; simp [Ce, h6, h15, h16, h22, h30, h28, h33]; omega))
 rw [e]
 rfl
 have dh30 := of_decide_eq_false h30
 refine Ax h30 (Gs yq26 ((B.size : Nat) : Int) rfl rfl (by omega) (by omega) (by omega) ?_)
 have z41 := zat (a := B) (b := yq26.toNat) (e := ((B.size : Nat) : Int).toNat)
 refine Ji s29 (by omega) fun x42 H lx42 s43 => Ab (o' := 6) rfl (A6 s43 C0 lx42 rfl fun H s44 => At s44 (.here) rfl (Ci (cs' := [si (first / 16), sb (decide (0 < (bits .and .i64 first 8))), si (bits .and .i64 (first / 2) 3), sb (decide (0 < (bits .and .i64 first 1))), i0, ss vq26, x42, sE, i0, bF, i0, bF, sE, .nl, i0, bF, bF, sE, bF, .nl, i0, bF, .nl, .nl, .nl]) s44 Dj (Ak (Af rfl (Af rfl (Af rfl (Af rfl (Af rfl (Af rfl (Af lx42 rfl)))))))) rfl (Cn rfl) rfl fun H s45 => At s45 (.here) rfl (Ai (Cf s45 ⟨_, rfl, rfl⟩ (Ed (.own Dj (Ed (.nl (Hs (.nl (.sc (.sc (.nl (.nl (.nl .nil))))))))))) (Ee ⟨(Cd (Da (B.extract yq26.toNat ((B.size : Nat) : Int).toNat)) (by decide)), (Ee ⟨(Am ⟨_, _, rfl, rfl⟩), (Ht ⟨(Am ⟨_, _, rfl, rfl⟩), (Fn ⟨(Am ⟨_, _, rfl, rfl⟩), ⟨(Am ⟨_, _, rfl, rfl⟩), ⟨(Am ⟨_, _, rfl, rfl⟩), trivial⟩⟩⟩)⟩)⟩)⟩)) ?_)))
 have e : Dr first B = (⟨(first / 16), (decide (0 < (bits .and .i64 first 8))), (bits .and .i64 (first / 2) 3), (decide (0 < (bits .and .i64 first 1))), 0, vq26, (B.extract yq26.toNat ((B.size : Nat) : Int).toNat), ⟨#[]⟩, 0, false, 0, false, ⟨#[]⟩, ⟨#[]⟩, 0, false, false, ⟨#[]⟩, false, ⟨#[]⟩, 0, false, [], [], []⟩ : PacketV) := by
  clear s0 s2 s4 s5 s23 s24 s25 s27 s29 s43 s44 s45
  simp only [Cm] at h6 h15 h16 h22 h30
  unfold Dr Hy Fv Ld; ((simp only [h6, h15, h16, h22, h30, h28, q26, if_true, if_false, or_true, or_false, false_or, true_or, zaa, reduceIte, and_true, and_false, true_and, false_and, Cw]; simp [Ce, h6, h15, h16, h22, h30, h28]; omega))
 rw [e]
 rfl
 refine As (nT h28) (Bg (cs := E2) rfl (Ci (cs' := E2) s27 C0 (Ak rfl) rfl (Cn rfl) rfl fun H s46 => At s46 (.here) rfl (Ai (Cf s46 ⟨_, rfl, rfl⟩ (Ed (.nl (Ed (.nl (Hs (.nl (.sc (.sc (.nl (.nl (.nl .nil))))))))))) (Ee ⟨(Am ⟨_, _, rfl, rfl⟩), (Ee ⟨(Am ⟨_, _, rfl, rfl⟩), (Ht ⟨(Am ⟨_, _, rfl, rfl⟩), (Fn ⟨(Am ⟨_, _, rfl, rfl⟩), ⟨(Am ⟨_, _, rfl, rfl⟩), ⟨(Am ⟨_, _, rfl, rfl⟩), trivial⟩⟩⟩)⟩)⟩)⟩)) ?_)))
 have e : Dr first B = (⟨0, false, 0, false, 0, ⟨#[]⟩, ⟨#[]⟩, ⟨#[]⟩, 0, false, 0, false, ⟨#[]⟩, ⟨#[]⟩, 0, false, false, ⟨#[]⟩, false, ⟨#[]⟩, 0, false, [], [], []⟩ : PacketV) := by
  clear s0 s2 s4 s5 s23 s24 s25 s27 s46
  simp only [Cm] at h6 h15 h16 h22
  unfold Dr Hy Fv Ld; ((simp only [h6, h15, h16, h22, h28, q26, if_true, if_false, or_true, or_false, false_or, true_or, zaa, reduceIte, and_true, and_false, true_and, false_and, Cw]; simp [Ce, h6, h15, h16, h22, h28]; omega))
 rw [e]
 rfl
 have dh22 := of_decide_eq_false h22
 refine Ax h22 (Ab (o' := 0) rfl (Ap (c := si (first / 16)) s5 (.here) rfl (Dw (Di (Aa ((decide ((first / 16) < 12))) (fun h47 => ?_) (fun h47 => ?_))))))
 have dh47 := of_decide_eq_true h47
 refine As h47 ?_
 obtain ⟨wq48, yq48, oq48, q48⟩ : ∃ w y o, Bq B 0 = (w, y, o) := ⟨_, _, _, rfl⟩
 have bq48 := F5 q48
 refine Ew s5 rfl (.cons .ro (.cons .sc .nil)) (by have h := P6 (n + 5) (by omega) B 0 (by omega) (by omega); rw [q48] at h; exact h) rfl (Bm (Bm (Bm Et))) ?_
 rintro _ _ H ⟨_, rfl, ⟨_, rfl, ⟨_, rfl, ⟨rfl, rfl⟩⟩⟩⟩ s49
 simp only [zal] at s49
 refine B0 (v := si wq48) rfl (B0 (v := si yq48) rfl (B0 (v := sb oq48) rfl (C2 (Aa (oq48) (fun h50 => ?_) (fun h50 => ?_)))))
 refine Ax (nF h50) (Ab (o' := 4) rfl (A6 s49 (.here) rfl rfl fun H s51 => Ab (o' := 0) rfl (Ap (c := si (first / 16)) s51 (.here) rfl (Be (Di (Aa ((decide ((first / 16) = 9))) (fun h52 => ?_) (fun h52 => ?_)))))))
 have dh52 := of_decide_eq_true h52
 refine As h52 ?_
 have e : Dr first B = L5 (first / 16) wq48 (Ge B (B.size + 1) yq48 []) (C8 (first / 16) B (B.size + 1) yq48 [] []) := by
  clear s0 s2 s4 s5 s49 s51
  simp only [Cm] at h6 h15 h16 h22 h47 h52
  unfold Dr Hy Fv Ld; ((simp only [h6, h15, h16, h22, h47, h52, h50, q48, if_true, if_false, or_true, or_false, false_or, true_or, zaa, reduceIte, and_true, and_false, true_and, false_and, Cw]; simp [Ce, h6, h15, h16, h22, h47, h52, h50]; omega))
 rw [e]
 have s53 := s51.nl (ty := 57) ⟨_, _, rfl, rfl⟩
 exact Uo n hn (first / 16) wq48 B i1 i3 hB yq48 (by omega) (B.size + 1) _ yq48 [] .nl _ (by omega) (by omega) (by omega) (by omega) rfl (s53.sel (.cons (.here) (.cons C0 (.cons (.here) .nil))))
 have dh52 := of_decide_eq_false h52
 refine Ax h52 ?_
 have e : Dr first B = L5 (first / 16) wq48 [] (C8 (first / 16) B (B.size + 1) yq48 [] []) := by
  simp only [Cm] at h6 h15 h16 h22 h47 h52
  unfold Dr Hy Fv Ld; ((simp only [h6, h15, h16, h22, h47, h52, h50, q48, if_true, if_false, or_true, or_false, false_or, true_or, zaa, reduceIte, and_true, and_false, true_and, false_and, Cw]; rfl))
 rw [e]
 have s54 := s51.nl (ty := 57) ⟨_, _, rfl, rfl⟩
 have s55 := s54.nl (ty := 56) ⟨_, _, rfl, rfl⟩
 have s56 := s55.nl (ty := 55) ⟨_, _, rfl, rfl⟩
 exact Ot n hn (first / 16) wq48 B i1 i3 hB [] (B.size + 1) _ yq48 [] [] .nl .nl .nl _ (by omega) (by omega) (by omega) (by (simp only [zav]; omega)) rfl rfl rfl (s56.sel (.cons (.here) (.cons C0 (.cons (.here) (.cons C0 (.cons (.here) .nil))))))
 refine As (nT h50) (Bg (cs := E2) rfl (Ci (cs' := E2) s49 C0 (Ak rfl) rfl (Cn rfl) rfl fun H s57 => At s57 (.here) rfl (Ai (Cf s57 ⟨_, rfl, rfl⟩ (Ed (.nl (Ed (.nl (Hs (.nl (.sc (.sc (.nl (.nl (.nl .nil))))))))))) (Ee ⟨(Am ⟨_, _, rfl, rfl⟩), (Ee ⟨(Am ⟨_, _, rfl, rfl⟩), (Ht ⟨(Am ⟨_, _, rfl, rfl⟩), (Fn ⟨(Am ⟨_, _, rfl, rfl⟩), ⟨(Am ⟨_, _, rfl, rfl⟩), ⟨(Am ⟨_, _, rfl, rfl⟩), trivial⟩⟩⟩)⟩)⟩)⟩)) ?_)))
 have e : Dr first B = (⟨0, false, 0, false, 0, ⟨#[]⟩, ⟨#[]⟩, ⟨#[]⟩, 0, false, 0, false, ⟨#[]⟩, ⟨#[]⟩, 0, false, false, ⟨#[]⟩, false, ⟨#[]⟩, 0, false, [], [], []⟩ : PacketV) := by
  simp only [Cm] at h6 h15 h16 h22 h47
  unfold Dr Hy Fv Ld; ((simp only [h6, h15, h16, h22, h47, h50, q48, if_true, if_false, or_true, or_false, false_or, true_or, zaa, reduceIte, and_true, and_false, true_and, false_and, Cw]; rfl))
 rw [e]
 rfl
 have dh47 := of_decide_eq_false h47
 refine Ax h47 (Ab (o' := 0) rfl (Ap (c := si (first / 16)) s5 (.here) rfl (Be (Di (Aa ((decide ((first / 16) = 9))) (fun h58 => ?_) (fun h58 => ?_))))))
 have dh58 := of_decide_eq_true h58
 refine As h58 ?_
 have e : Dr first B = L5 (first / 16) 0 (Ge B (B.size + 1) 0 []) (C8 (first / 16) B (B.size + 1) 0 [] []) := by
  clear s0 s2 s4 s5
  simp only [Cm] at h6 h15 h16 h22 h47 h58
  unfold Dr Hy Fv Ld; ((simp only [h6, h15, h16, h22, h47, h58, if_true, if_false, or_true, or_false, false_or, true_or, zaa, reduceIte, and_true, and_false, true_and, false_and, Cw]; simp [Ce, h6, h15, h16, h22, h47, h58]; omega))
 rw [e]
 have s59 := s5.nl (ty := 57) ⟨_, _, rfl, rfl⟩
 exact Uo n hn (first / 16) 0 B i1 i3 hB 0 (by omega) (B.size + 1) _ 0 [] .nl _ (by omega) (by omega) (by omega) (by omega) rfl (s59.sel (.cons (.here) (.cons C0 (.cons (.here) .nil))))
 have dh58 := of_decide_eq_false h58
 refine Ax h58 ?_
 have e : Dr first B = L5 (first / 16) 0 [] (C8 (first / 16) B (B.size + 1) 0 [] []) := by
  clear s0 s2 s4 s5
  simp only [Cm] at h6 h15 h16 h22 h47 h58
  unfold Dr Hy Fv Ld; ((simp only [h6, h15, h16, h22, h47, h58, if_true, if_false, or_true, or_false, false_or, true_or, zaa, reduceIte, and_true, and_false, true_and, false_and, Cw]; simp [Ce, h6, h15, h16, h22, h47, h58]; omega))
 rw [e]
 have s60 := s5.nl (ty := 57) ⟨_, _, rfl, rfl⟩
 have s61 := s60.nl (ty := 56) ⟨_, _, rfl, rfl⟩
 have s62 := s61.nl (ty := 55) ⟨_, _, rfl, rfl⟩
 exact Ot n hn (first / 16) 0 B i1 i3 hB [] (B.size + 1) _ 0 [] [] .nl .nl .nl _ (by omega) (by omega) (by omega) (by omega) rfl rfl rfl (s62.sel (.cons (.here) (.cons C0 (.cons (.here) (.cons C0 (.cons (.here) .nil))))))
 have dh15 := of_decide_eq_false h15
 refine Ac h15 (Ac h15 (Ac h15 (A7 h15 (Ax rfl (Ab (o' := 0) rfl (Ap (c := si (first / 16)) s5 (.here) rfl (Be (Aa ((decide ((first / 16) = 3))) (fun h63 => ?_) (fun h63 => ?_)))))))))
 have dh63 := of_decide_eq_true h63
 refine As h63 (Gq rfl (Er (Ab (o' := 1) rfl (A6 s5 (.here) rfl rfl fun H s64 => Tn 2 rfl (by decide) (Gq rfl (Ab (o' := 2) rfl (A6 s64 (.here) rfl rfl fun H s65 => Gq rfl (Er (Ab (o' := 3) rfl (A6 s65 (.here) rfl rfl fun H s66 => ?_))))))))))
 obtain ⟨vq67, yq67, oq67, q67⟩ : ∃ w y o, Cc B 0 = (w, y, o) := ⟨_, _, _, rfl⟩
 have bq67 := Gv q67
 refine Ew s66 rfl (.cons .ro (.cons .sc .nil)) (by have h := K9 (n + 1) (by omega) B 0 (by omega) (by omega); rw [q67] at h; exact h) rfl (Bm (Bm (Bm Et))) ?_
 rintro _ _ H ⟨_, rfl, ⟨_, rfl, ⟨_, rfl, ⟨rfl, rfl⟩⟩⟩⟩ s68
 simp only [zal] at s68
 refine B0 (v := ss vq67) rfl (B0 (v := si yq67) rfl (B0 (v := sb oq67) rfl (C2 (Aa (oq67) (fun h69 => ?_) (fun h69 => ?_)))))
 refine Ax (nF h69) (Ab (o' := 5) rfl (A6 s68 (.here) rfl rfl fun H s70 => Ab (o' := 2) rfl (Ap (c := si (bits .and .i64 (first / 2) 3)) s70 (.here) rfl (Er (Di (Aa ((decide (0 < (bits .and .i64 (first / 2) 3)))) (fun h71 => ?_) (fun h71 => ?_)))))))
 have dh71 := of_decide_eq_true h71
 refine As h71 ?_
 obtain ⟨wq72, yq72, oq72, q72⟩ : ∃ w y o, Bq B yq67 = (w, y, o) := ⟨_, _, _, rfl⟩
 have bq72 := F5 q72
 refine Ew s70 rfl (.cons .ro (.cons .sc .nil)) (by have h := P6 (n + 5) (by omega) B yq67 (by omega) (by omega); rw [q72] at h; exact h) rfl (Bm (Bm (Bm Et))) ?_
 rintro _ _ H ⟨_, rfl, ⟨_, rfl, ⟨_, rfl, ⟨rfl, rfl⟩⟩⟩⟩ s73
 simp only [zal] at s73
 refine B0 (v := si wq72) rfl (B0 (v := si yq72) rfl (B0 (v := sb oq72) rfl (C2 (Aa (oq72) (fun h74 => ?_) (fun h74 => ?_)))))
 refine Ax (nF h74) (Ab (o' := 4) rfl (A6 s73 (.here) rfl rfl fun H s75 => Gs yq72 ((B.size : Nat) : Int) rfl rfl (by omega) (by omega) (by omega) ?_))
 have z76 := zat (a := B) (b := yq72.toNat) (e := ((B.size : Nat) : Int).toNat)
 refine Ji s75 (by omega) fun x77 H lx77 s78 => Ab (o' := 6) rfl (A6 s78 C0 lx77 rfl fun H s79 => At s79 (.here) rfl (Ci (cs' := [si (first / 16), sb (decide (0 < (bits .and .i64 first 8))), si (bits .and .i64 (first / 2) 3), sb (decide (0 < (bits .and .i64 first 1))), si wq72, ss vq67, x77, sE, i0, bF, i0, bF, sE, .nl, i0, bF, bF, sE, bF, .nl, i0, bF, .nl, .nl, .nl]) s79 Dj (Ak (Af rfl (Af rfl (Af rfl (Af rfl (Af rfl (Af rfl (Af lx77 rfl)))))))) rfl (Cn rfl) rfl fun H s80 => At s80 (.here) rfl (Ai (Cf s80 ⟨_, rfl, rfl⟩ (Ed (.own Dj (Ed (.nl (Hs (.nl (.sc (.sc (.nl (.nl (.nl .nil))))))))))) (Ee ⟨(Cd (Da (B.extract yq72.toNat ((B.size : Nat) : Int).toNat)) (by decide)), (Ee ⟨(Am ⟨_, _, rfl, rfl⟩), (Ht ⟨(Am ⟨_, _, rfl, rfl⟩), (Fn ⟨(Am ⟨_, _, rfl, rfl⟩), ⟨(Am ⟨_, _, rfl, rfl⟩), ⟨(Am ⟨_, _, rfl, rfl⟩), trivial⟩⟩⟩)⟩)⟩)⟩)) ?_)))
 have e : Dr first B = (⟨(first / 16), (decide (0 < (bits .and .i64 first 8))), (bits .and .i64 (first / 2) 3), (decide (0 < (bits .and .i64 first 1))), wq72, vq67, (B.extract yq72.toNat ((B.size : Nat) : Int).toNat), ⟨#[]⟩, 0, false, 0, false, ⟨#[]⟩, ⟨#[]⟩, 0, false, false, ⟨#[]⟩, false, ⟨#[]⟩, 0, false, [], [], []⟩ : PacketV) := by
  simp only [Cm] at h6 h15 h63 h71
  unfold Dr Hy Fv Ld; ((simp only [h6, h15, h63, h71, h69, h74, q67, q72, if_true, if_false, or_true, or_false, false_or, true_or, zaa, reduceIte, and_true, and_false, true_and, false_and, Cw]; rfl))
 rw [e]
 rfl
 refine As (nT h74) (Bg (cs := E2) rfl (Ci (cs' := E2) s73 C0 (Ak rfl) rfl (Cn rfl) rfl fun H s81 => At s81 (.here) rfl (Ai (Cf s81 ⟨_, rfl, rfl⟩ (Ed (.nl (Ed (.nl (Hs (.nl (.sc (.sc (.nl (.nl (.nl .nil))))))))))) (Ee ⟨(Am ⟨_, _, rfl, rfl⟩), (Ee ⟨(Am ⟨_, _, rfl, rfl⟩), (Ht ⟨(Am ⟨_, _, rfl, rfl⟩), (Fn ⟨(Am ⟨_, _, rfl, rfl⟩), ⟨(Am ⟨_, _, rfl, rfl⟩), ⟨(Am ⟨_, _, rfl, rfl⟩), trivial⟩⟩⟩)⟩)⟩)⟩)) ?_)))
 have e : Dr first B = (⟨0, false, 0, false, 0, ⟨#[]⟩, ⟨#[]⟩, ⟨#[]⟩, 0, false, 0, false, ⟨#[]⟩, ⟨#[]⟩, 0, false, false, ⟨#[]⟩, false, ⟨#[]⟩, 0, false, [], [], []⟩ : PacketV) := by
  simp only [Cm] at h6 h15 h63 h71
  unfold Dr Hy Fv Ld; ((simp only [h6, h15, h63, h71, h69, h74, q67, q72, if_true, if_false, or_true, or_false, false_or, true_or, zaa, reduceIte, and_true, and_false, true_and, false_and, Cw]; rfl))
 rw [e]
 rfl
 have dh71 := of_decide_eq_false h71
 refine Ax h71 (Gs yq67 ((B.size : Nat) : Int) rfl rfl (by omega) (by omega) (by omega) ?_)
 have z82 := zat (a := B) (b := yq67.toNat) (e := ((B.size : Nat) : Int).toNat)
 refine Ji s70 (by omega) fun x83 H lx83 s84 => Ab (o' := 6) rfl (A6 s84 C0 lx83 rfl fun H s85 => At s85 (.here) rfl (Ci (cs' := [si (first / 16), sb (decide (0 < (bits .and .i64 first 8))), si (bits .and .i64 (first / 2) 3), sb (decide (0 < (bits .and .i64 first 1))), i0, ss vq67, x83, sE, i0, bF, i0, bF, sE, .nl, i0, bF, bF, sE, bF, .nl, i0, bF, .nl, .nl, .nl]) s85 Dj (Ak (Af rfl (Af rfl (Af rfl (Af rfl (Af rfl (Af rfl (Af lx83 rfl)))))))) rfl (Cn rfl) rfl fun H s86 => At s86 (.here) rfl (Ai (Cf s86 ⟨_, rfl, rfl⟩ (Ed (.own Dj (Ed (.nl (Hs (.nl (.sc (.sc (.nl (.nl (.nl .nil))))))))))) (Ee ⟨(Cd (Da (B.extract yq67.toNat ((B.size : Nat) : Int).toNat)) (by decide)), (Ee ⟨(Am ⟨_, _, rfl, rfl⟩), (Ht ⟨(Am ⟨_, _, rfl, rfl⟩), (Fn ⟨(Am ⟨_, _, rfl, rfl⟩), ⟨(Am ⟨_, _, rfl, rfl⟩), ⟨(Am ⟨_, _, rfl, rfl⟩), trivial⟩⟩⟩)⟩)⟩)⟩)) ?_)))
 have e : Dr first B = (⟨(first / 16), (decide (0 < (bits .and .i64 first 8))), (bits .and .i64 (first / 2) 3), (decide (0 < (bits .and .i64 first 1))), 0, vq67, (B.extract yq67.toNat ((B.size : Nat) : Int).toNat), ⟨#[]⟩, 0, false, 0, false, ⟨#[]⟩, ⟨#[]⟩, 0, false, false, ⟨#[]⟩, false, ⟨#[]⟩, 0, false, [], [], []⟩ : PacketV) := by
  simp only [Cm] at h6 h15 h63 h71
  unfold Dr Hy Fv Ld; ((simp only [h6, h15, h63, h71, h69, q67, if_true, if_false, or_true, or_false, false_or, true_or, zaa, reduceIte, and_true, and_false, true_and, false_and, Cw]; rfl))
 rw [e]
 rfl
 refine As (nT h69) (Bg (cs := E2) rfl (Ci (cs' := E2) s68 C0 (Ak rfl) rfl (Cn rfl) rfl fun H s87 => At s87 (.here) rfl (Ai (Cf s87 ⟨_, rfl, rfl⟩ (Ed (.nl (Ed (.nl (Hs (.nl (.sc (.sc (.nl (.nl (.nl .nil))))))))))) (Ee ⟨(Am ⟨_, _, rfl, rfl⟩), (Ee ⟨(Am ⟨_, _, rfl, rfl⟩), (Ht ⟨(Am ⟨_, _, rfl, rfl⟩), (Fn ⟨(Am ⟨_, _, rfl, rfl⟩), ⟨(Am ⟨_, _, rfl, rfl⟩), ⟨(Am ⟨_, _, rfl, rfl⟩), trivial⟩⟩⟩)⟩)⟩)⟩)) ?_)))
 have e : Dr first B = (⟨0, false, 0, false, 0, ⟨#[]⟩, ⟨#[]⟩, ⟨#[]⟩, 0, false, 0, false, ⟨#[]⟩, ⟨#[]⟩, 0, false, false, ⟨#[]⟩, false, ⟨#[]⟩, 0, false, [], [], []⟩ : PacketV) := by
  simp only [Cm] at h6 h15 h63
  unfold Dr Hy Fv Ld; ((simp only [h6, h15, h63, h69, q67, if_true, if_false, or_true, or_false, false_or, true_or, zaa, reduceIte, and_true, and_false, true_and, false_and, Cw]; rfl))
 rw [e]
 rfl
 have dh63 := of_decide_eq_false h63
 refine Ax h63 (Ab (o' := 0) rfl (Ap (c := si (first / 16)) s5 (.here) rfl (Dw (Di (Aa ((decide ((first / 16) < 12))) (fun h88 => ?_) (fun h88 => ?_))))))
 have dh88 := of_decide_eq_true h88
 refine As h88 ?_
 obtain ⟨wq89, yq89, oq89, q89⟩ : ∃ w y o, Bq B 0 = (w, y, o) := ⟨_, _, _, rfl⟩
 have bq89 := F5 q89
 refine Ew s5 rfl (.cons .ro (.cons .sc .nil)) (by have h := P6 (n + 5) (by omega) B 0 (by omega) (by omega); rw [q89] at h; exact h) rfl (Bm (Bm (Bm Et))) ?_
 rintro _ _ H ⟨_, rfl, ⟨_, rfl, ⟨_, rfl, ⟨rfl, rfl⟩⟩⟩⟩ s90
 simp only [zal] at s90
 refine B0 (v := si wq89) rfl (B0 (v := si yq89) rfl (B0 (v := sb oq89) rfl (C2 (Aa (oq89) (fun h91 => ?_) (fun h91 => ?_)))))
 refine Ax (nF h91) (Ab (o' := 4) rfl (A6 s90 (.here) rfl rfl fun H s92 => Ab (o' := 0) rfl (Ap (c := si (first / 16)) s92 (.here) rfl (Be (Di (Aa ((decide ((first / 16) = 9))) (fun h93 => ?_) (fun h93 => ?_)))))))
 have dh93 := of_decide_eq_true h93
 refine As h93 ?_
 have e : Dr first B = L5 (first / 16) wq89 (Ge B (B.size + 1) yq89 []) (C8 (first / 16) B (B.size + 1) yq89 [] []) := by
  simp only [Cm] at h6 h15 h63 h88 h93
  unfold Dr Hy Fv Ld; ((simp only [h6, h15, h63, h88, h93, h91, q89, if_true, if_false, or_true, or_false, false_or, true_or, zaa, reduceIte, and_true, and_false, true_and, false_and, Cw]; rfl))
 rw [e]
 have s94 := s92.nl (ty := 57) ⟨_, _, rfl, rfl⟩
 exact Uo n hn (first / 16) wq89 B i1 i3 hB yq89 (by omega) (B.size + 1) _ yq89 [] .nl _ (by omega) (by omega) (by omega) (by (simp only [zav]; omega)) rfl (s94.sel (.cons (.here) (.cons C0 (.cons (.here) .nil))))
 have dh93 := of_decide_eq_false h93
 refine Ax h93 ?_
 have e : Dr first B = L5 (first / 16) wq89 [] (C8 (first / 16) B (B.size + 1) yq89 [] []) := by
  simp only [Cm] at h6 h15 h63 h88 h93
  unfold Dr Hy Fv Ld; ((simp only [h6, h15, h63, h88, h93, h91, q89, if_true, if_false, or_true, or_false, false_or, true_or, zaa, reduceIte, and_true, and_false, true_and, false_and, Cw]; done))
 rw [e]
 have s95 := s92.nl (ty := 57) ⟨_, _, rfl, rfl⟩
 have s96 := s95.nl (ty := 56) ⟨_, _, rfl, rfl⟩
 have s97 := s96.nl (ty := 55) ⟨_, _, rfl, rfl⟩
 exact Ot n hn (first / 16) wq89 B i1 i3 hB [] (B.size + 1) _ yq89 [] [] .nl .nl .nl _ (by omega) (by omega) (by omega) (by (simp only [zav]; omega)) rfl rfl rfl (s97.sel (.cons (.here) (.cons C0 (.cons (.here) (.cons C0 (.cons (.here) .nil))))))
 refine As (nT h91) (Bg (cs := E2) rfl (Ci (cs' := E2) s90 C0 (Ak rfl) rfl (Cn rfl) rfl fun H s98 => At s98 (.here) rfl (Ai (Cf s98 ⟨_, rfl, rfl⟩ (Ed (.nl (Ed (.nl (Hs (.nl (.sc (.sc (.nl (.nl (.nl .nil))))))))))) (Ee ⟨(Am ⟨_, _, rfl, rfl⟩), (Ee ⟨(Am ⟨_, _, rfl, rfl⟩), (Ht ⟨(Am ⟨_, _, rfl, rfl⟩), (Fn ⟨(Am ⟨_, _, rfl, rfl⟩), ⟨(Am ⟨_, _, rfl, rfl⟩), ⟨(Am ⟨_, _, rfl, rfl⟩), trivial⟩⟩⟩)⟩)⟩)⟩)) ?_)))
 have e : Dr first B = (⟨0, false, 0, false, 0, ⟨#[]⟩, ⟨#[]⟩, ⟨#[]⟩, 0, false, 0, false, ⟨#[]⟩, ⟨#[]⟩, 0, false, false, ⟨#[]⟩, false, ⟨#[]⟩, 0, false, [], [], []⟩ : PacketV) := by
  simp only [Cm] at h6 h15 h63 h88
  unfold Dr Hy Fv Ld; ((simp only [h6, h15, h63, h88, h91, q89, if_true, if_false, or_true, or_false, false_or, true_or, zaa, reduceIte, and_true, and_false, true_and, false_and, Cw]; rfl))
 rw [e]
 rfl
 have dh88 := of_decide_eq_false h88
 refine Ax h88 (Ab (o' := 0) rfl (Ap (c := si (first / 16)) s5 (.here) rfl (Be (Di (Aa ((decide ((first / 16) = 9))) (fun h99 => ?_) (fun h99 => ?_))))))
 have dh99 := of_decide_eq_true h99
 refine As h99 ?_
 have e : Dr first B = L5 (first / 16) 0 (Ge B (B.size + 1) 0 []) (C8 (first / 16) B (B.size + 1) 0 [] []) := by
  clear s0 s2 s4 s5
  simp only [Cm] at h6 h15 h63 h88 h99
  unfold Dr Hy Fv Ld; ((simp only [h6, h15, h63, h88, h99, if_true, if_false, or_true, or_false, false_or, true_or, zaa, reduceIte, and_true, and_false, true_and, false_and, Cw]; simp [Ce, h6, h15, h63, h88, h99]; omega))
 rw [e]
 have s100 := s5.nl (ty := 57) ⟨_, _, rfl, rfl⟩
 exact Uo n hn (first / 16) 0 B i1 i3 hB 0 (by omega) (B.size + 1) _ 0 [] .nl _ (by omega) (by omega) (by omega) (by omega) rfl (s100.sel (.cons (.here) (.cons C0 (.cons (.here) .nil))))
 have dh99 := of_decide_eq_false h99
 refine Ax h99 ?_
 have e : Dr first B = L5 (first / 16) 0 [] (C8 (first / 16) B (B.size + 1) 0 [] []) := by
  simp only [Cm] at h6 h15 h63 h88 h99
  unfold Dr Hy Fv Ld; ((simp only [h6, h15, h63, h88, h99, if_true, if_false, or_true, or_false, false_or, true_or, zaa, reduceIte, and_true, and_false, true_and, false_and, Cw]; done))
 rw [e]
 have s101 := s5.nl (ty := 57) ⟨_, _, rfl, rfl⟩
 have s102 := s101.nl (ty := 56) ⟨_, _, rfl, rfl⟩
 have s103 := s102.nl (ty := 55) ⟨_, _, rfl, rfl⟩
 exact Ot n hn (first / 16) 0 B i1 i3 hB [] (B.size + 1) _ 0 [] [] .nl .nl .nl _ (by omega) (by omega) (by omega) (by (simp only [zav]; omega)) rfl rfl rfl (s103.sel (.cons (.here) (.cons C0 (.cons (.here) (.cons C0 (.cons (.here) .nil))))))
end
section
open Go
def E5 (p : PacketV) (B : ByteArray) (e : Int) : PacketV × Int × Int :=
 if !Ah p || !((F7 p).toList == (B.extract (0 : Int).toNat e.toNat).toList) then (Ce 0, 0, 2) else (p, e, 0)
def E6 (rd : Int → ByteArray → PacketV) (B : ByteArray) (r : Int × Int × Int) : PacketV × Int × Int :=
 if !decide (r.2.2 = 0) then (Ce 0, 0, r.2.2)
 else if decide (340 < r.1) then (Ce 0, 0, 2)
 else if decide (((B.size : Nat) : Int) - r.2.1 < r.1) then (Ce 0, 0, 1)
 else E5 (rd (A5 B 0) (B.extract r.2.1.toNat (r.2.1 + r.1).toNat)) B (r.2.1 + r.1)
def Fd (rd : Int → ByteArray → PacketV) (B : ByteArray) : PacketV × Int × Int :=
 if decide (((B.size : Nat) : Int) = 0) then (Ce 0, 0, 1)
 else if !Ea (A5 B 0) then (Ce 0, 0, 2)
 else E6 rd B (C9 B 1)
theorem Age (n : Nat) (hn : 1048576 < n) (B : ByteArray) (hB : B.size ≤ 1048576) : Dd E0 (n + 13) 60 33 [Ag B] = some (.tup [.agg (Ar (Fd Dt B).1), .sc (.int .i64 (Fd Dt B).2.1), .sc (.int .i64 (Fd Dt B).2.2)]) := by
 rw [Bd, Akc, f33]
 refine C6 (G := (· = some (.tup [.agg (Ar (Fd Dt B).1), .sc (.int .i64 (Fd Dt B).2.1), .sc (.int .i64 (Fd Dt B).2.2)]))) ?_
 try simp only [F8, Ba, D9, A4, D5, Av, Bh, Pr.gT, Pr.gF, Pr.hT, Pr.hF, Pr.kT, Pr.kF, Bv, B5, Bu, Ho, Ct, Dh, Iw]
 have s0 : Sep [] [] := Cx
 refine I6 s0 fun i1 H s2 => Cz (Be (Aa ((decide (((B.size : Nat) : Int) = 0))) (fun h3 => ?_) (fun h3 => ?_)))
 have dh3 := of_decide_eq_true h3
 refine As h3 (Bg (cs := E2) rfl (Ci (cs' := E2) s2 (.here) (Ak rfl) rfl (Cn rfl) rfl fun H s4 => At s4 (.here) rfl (Ai (Cl s4 rfl (.agg ⟨_, rfl, rfl⟩ (Ed (.nl (Ed (.nl (Hs (.nl (.sc (.sc (.nl (.nl (.nl .nil))))))))))) (.sc (.sc .nil))) ⟨(L6 ⟨_, rfl, rfl⟩ (Ee ⟨(Am ⟨_, _, rfl, rfl⟩), (Ee ⟨(Am ⟨_, _, rfl, rfl⟩), (Ht ⟨(Am ⟨_, _, rfl, rfl⟩), (Fn ⟨(Am ⟨_, _, rfl, rfl⟩), ⟨(Am ⟨_, _, rfl, rfl⟩), ⟨(Am ⟨_, _, rfl, rfl⟩), trivial⟩⟩⟩)⟩)⟩)⟩)), (Fn trivial)⟩) ?_)))
 have e : Fd Dt B = ((Ce 0), 0, 1) := by
  unfold Fd E6 E5; simp only [h3, if_true, if_false, zaa, reduceIte, Cw]
 rw [e]
 rfl
 have dh3 := of_decide_eq_false h3
 refine Ax h3 ?_
 have w5 := Ef B 0
 refine Gr (by omega) (by omega) fun _ => Fg (c := su (A5 B 0)) rfl (Kt (by omega) (by omega) (Aq (v := (.bool (Ea (A5 B 0)))) s2 rfl (.cons .sc .nil) (Ab0 (n + 10) (by omega) (A5 B 0) (by omega)) (C2 (Aa ((Ea (A5 B 0))) (fun h6 => ?_) (fun h6 => ?_)))))
 refine Ax (nF h6) ?_
 obtain ⟨nq7, yq7, cq7, q7⟩ : ∃ w y o, C9 B 1 = (w, y, o) := ⟨_, _, _, rfl⟩
 have bq7 := Qy (B := B) (a := 1)
 rw [q7] at bq7
 dsimp only at bq7
 refine Ew s2 rfl (.cons .ro (.cons .sc .nil)) (by have h := Aiw (n + 10) (by omega) B 1 (by omega) (by omega); rw [q7] at h; exact h) rfl (Bm (Bm (Bm Et))) ?_
 rintro _ _ H ⟨_, rfl, ⟨_, rfl, ⟨_, rfl, ⟨rfl, rfl⟩⟩⟩⟩ s8
 simp only [zal] at s8
 refine B0 (v := si nq7) rfl (B0 (v := si yq7) rfl (B0 (v := si cq7) rfl (Mi (Aa ((decide (cq7 = 0))) (fun h9 => ?_) (fun h9 => ?_)))))
 have dh9 := of_decide_eq_true h9
 replace bq7 := bq7 (of_decide_eq_true h9)
 refine Ax (nF h9) (Er (Aa ((decide (340 < nq7))) (fun h10 => ?_) (fun h10 => ?_)))
 have dh10 := of_decide_eq_true h10
 refine As h10 (Bg (cs := E2) rfl (Ci (cs' := E2) s8 (.here) (Ak rfl) rfl (Cn rfl) rfl fun H s11 => At s11 (.here) rfl (Ai (Cl s11 rfl (.agg ⟨_, rfl, rfl⟩ (Ed (.nl (Ed (.nl (Hs (.nl (.sc (.sc (.nl (.nl (.nl .nil))))))))))) (.sc (.sc .nil))) ⟨(L6 ⟨_, rfl, rfl⟩ (Ee ⟨(Am ⟨_, _, rfl, rfl⟩), (Ee ⟨(Am ⟨_, _, rfl, rfl⟩), (Ht ⟨(Am ⟨_, _, rfl, rfl⟩), (Fn ⟨(Am ⟨_, _, rfl, rfl⟩), ⟨(Am ⟨_, _, rfl, rfl⟩), ⟨(Am ⟨_, _, rfl, rfl⟩), trivial⟩⟩⟩)⟩)⟩)⟩)), (Fn trivial)⟩) ?_)))
 have e : Fd Dt B = ((Ce 0), 0, 2) := by
  unfold Fd E6 E5; simp only [h3, h6, h9, h10, q7, if_true, if_false, zaa, reduceIte, Cw]
 rw [e]
 rfl
 have dh10 := of_decide_eq_false h10
 refine Ax h10 (Cz (O2 (by omega) (by omega) (Er (Aa ((decide ((((B.size : Nat) : Int) - yq7) < nq7))) (fun h12 => ?_) (fun h12 => ?_)))))
 have dh12 := of_decide_eq_true h12
 refine As h12 (Bg (cs := E2) rfl (Ci (cs' := E2) s8 (.here) (Ak rfl) rfl (Cn rfl) rfl fun H s13 => At s13 (.here) rfl (Ai (Cl s13 rfl (.agg ⟨_, rfl, rfl⟩ (Ed (.nl (Ed (.nl (Hs (.nl (.sc (.sc (.nl (.nl (.nl .nil))))))))))) (.sc (.sc .nil))) ⟨(L6 ⟨_, rfl, rfl⟩ (Ee ⟨(Am ⟨_, _, rfl, rfl⟩), (Ee ⟨(Am ⟨_, _, rfl, rfl⟩), (Ht ⟨(Am ⟨_, _, rfl, rfl⟩), (Fn ⟨(Am ⟨_, _, rfl, rfl⟩), ⟨(Am ⟨_, _, rfl, rfl⟩), ⟨(Am ⟨_, _, rfl, rfl⟩), trivial⟩⟩⟩)⟩)⟩)⟩)), (Fn trivial)⟩) ?_)))
 have e : Fd Dt B = ((Ce 0), 0, 1) := by
  unfold Fd E6 E5; simp only [h3, h6, h9, h10, h12, q7, if_true, if_false, zaa, reduceIte, Cw]
 rw [e]
 rfl
 have dh12 := of_decide_eq_false h12
 refine Ax h12 ?_
 have w14 := Ef B 0
 refine Gr (by omega) (by omega) fun _ => Fg (c := su (A5 B 0)) rfl (Kt (by omega) (by omega) (B9 (by omega) (by omega) (Gs yq7 (yq7 + nq7) rfl rfl (by omega) (by omega) (by omega) ?_)))
 have z15 := zat (a := B) (b := yq7.toNat) (e := (yq7 + nq7).toNat)
 refine Di (Gd.bothE ?_ ?_)
 have hR : (B.extract yq7.toNat (yq7 + nq7).toNat).size ≤ 340 := by rw [zat]; omega
 have hbd := Ag8 (A5 B 0) (B.extract yq7.toNat (yq7 + nq7).toNat) hR
 have hyp := hbd.hyp (by decide)
 refine Rg s8 rfl (.cons .sc (.cons .ro .nil)) (AjK (n + 1) (by omega) (A5 B 0) (B.extract yq7.toNat (yq7 + nq7).toNat) (by omega) (by omega)) ⟨_, rfl, rfl⟩ (M4 _) ?_
 rintro _ _ H ⟨x16, x17, x18, x19, x20, x21, lx16, lx17, lx18, lx19, lx20, lx21, rfl, rfl⟩ s22
 simp only [zal, zaz] at s22
 refine I6 s22 fun i23 H s24 => Ci (cs' := [si ((Dt (A5 B 0) (B.extract yq7.toNat (yq7 + nq7).toNat)).fType), .sc (.bool (Dt (A5 B 0) (B.extract yq7.toNat (yq7 + nq7).toNat)).fDup), si ((Dt (A5 B 0) (B.extract yq7.toNat (yq7 + nq7).toNat)).fQos), .sc (.bool (Dt (A5 B 0) (B.extract yq7.toNat (yq7 + nq7).toNat)).fRetain), si ((Dt (A5 B 0) (B.extract yq7.toNat (yq7 + nq7).toNat)).fId), ss ((Dt (A5 B 0) (B.extract yq7.toNat (yq7 + nq7).toNat)).fTopic), x16, ss ((Dt (A5 B 0) (B.extract yq7.toNat (yq7 + nq7).toNat)).fClient), si ((Dt (A5 B 0) (B.extract yq7.toNat (yq7 + nq7).toNat)).fLevel), .sc (.bool (Dt (A5 B 0) (B.extract yq7.toNat (yq7 + nq7).toNat)).fClean), si ((Dt (A5 B 0) (B.extract yq7.toNat (yq7 + nq7).toNat)).fKeep), .sc (.bool (Dt (A5 B 0) (B.extract yq7.toNat (yq7 + nq7).toNat)).fHasWill), ss ((Dt (A5 B 0) (B.extract yq7.toNat (yq7 + nq7).toNat)).fWTopic), x17, si ((Dt (A5 B 0) (B.extract yq7.toNat (yq7 + nq7).toNat)).fWQos), .sc (.bool (Dt (A5 B 0) (B.extract yq7.toNat (yq7 + nq7).toNat)).fWRetain), .sc (.bool (Dt (A5 B 0) (B.extract yq7.toNat (yq7 + nq7).toNat)).fHasUser), ss ((Dt (A5 B 0) (B.extract yq7.toNat (yq7 + nq7).toNat)).fUser), .sc (.bool (Dt (A5 B 0) (B.extract yq7.toNat (yq7 + nq7).toNat)).fHasPass), x18, si ((Dt (A5 B 0) (B.extract yq7.toNat (yq7 + nq7).toNat)).fCode), .sc (.bool (Dt (A5 B 0) (B.extract yq7.toNat (yq7 + nq7).toNat)).fPresent), x19, x20, x21]) s24 (.here) (Ak (Af rfl (Af rfl (Af rfl (Af rfl (Af rfl (Af rfl (Af lx16 (Af rfl (Af rfl (Af rfl (Af rfl (Af rfl (Af rfl (Af lx17 (Af rfl (Af rfl (Af rfl (Af rfl (Af rfl (Af lx18 (Af rfl (Af rfl (Af lx19 (Af lx20 (Af lx21 rfl)))))))))))))))))))))))))) rfl (Cn rfl) rfl fun H s25 => At s25 (.here) rfl ?_
 refine Aq (v := (.bool (Ah (Dt (A5 B 0) (B.extract yq7.toNat (yq7 + nq7).toNat))))) s25 rfl (.agg (Gl (.cons (.own (by decide) Zi) (Gl (.cons (.own (by decide) W1) (L8 (.cons (.own (by decide) Mw) (Ir (.cons (.own (by decide) Mv) (.cons (.own (by decide) Dj) (.cons (.own (by decide) C0) .nil)))))))))) .nil) (So (n + 2) (by omega) (Dt (A5 B 0) (B.extract yq7.toNat (yq7 + nq7).toNat)) hyp) (C2 (Aa ((Ah (Dt (A5 B 0) (B.extract yq7.toNat (yq7 + nq7).toNat)))) (fun h26 => ?_) (fun h26 => ?_)))
 refine Ae (nF h26) (At s25 (.here) rfl (Ae (nF h26) (Ae (nF h26) (Ae (nF h26) (Ae (nF h26) (B9 (by omega) (by omega) (Ae (nF h26) (Gs 0 (yq7 + nq7) rfl rfl (by omega) (by omega) (by omega) ?_))))))))
 have z27 := zat (a := B) (b := (0 : Int).toNat) (e := (yq7 + nq7).toNat)
 refine Ae (nF h26) (Cg s25 rfl (.agg (Gl (.cons (.own (by decide) Zi) (Gl (.cons (.own (by decide) W1) (L8 (.cons (.own (by decide) Mw) (Ir (.cons (.own (by decide) Mv) (.cons (.own (by decide) Dj) (.cons (.own (by decide) C0) .nil)))))))))) .nil) (Aan (n + 1) (by omega) (Dt (A5 B 0) (B.extract yq7.toNat (yq7 + nq7).toNat)) hyp (za5 hbd.b1 (by decide)) (za5 hbd.b2 (by decide)) (za5 hbd.b3 (by decide))) (Da (F7 (Dt (A5 B 0) (B.extract yq7.toNat (yq7 + nq7).toNat)))) fun x28 H lx28 s29 => Ae (nF h26) (Aq (v := (.bool ((F7 (Dt (A5 B 0) (B.extract yq7.toNat (yq7 + nq7).toNat))).toList == (B.extract (0 : Int).toNat (yq7 + nq7).toNat).toList))) s29 rfl (.cons (.own (by decide) (.here)) (.cons .ro .nil)) (Kj (n + 11) _ (F7 (Dt (A5 B 0) (B.extract yq7.toNat (yq7 + nq7).toNat))) (B.extract (0 : Int).toNat (yq7 + nq7).toNat)) (Ae (nF h26) (C2 (A7 (nF h26) (Aa (((F7 (Dt (A5 B 0) (B.extract yq7.toNat (yq7 + nq7).toNat))).toList == (B.extract (0 : Int).toNat (yq7 + nq7).toNat).toList)) (fun h30 => ?_) (fun h30 => ?_)))))))
 refine Ax (nF h30) (At s29 C0 rfl (B9 (by omega) (by omega) (Ci (cs' := [si ((Dt (A5 B 0) (B.extract yq7.toNat (yq7 + nq7).toNat)).fType), .sc (.bool (Dt (A5 B 0) (B.extract yq7.toNat (yq7 + nq7).toNat)).fDup), si ((Dt (A5 B 0) (B.extract yq7.toNat (yq7 + nq7).toNat)).fQos), .sc (.bool (Dt (A5 B 0) (B.extract yq7.toNat (yq7 + nq7).toNat)).fRetain), si ((Dt (A5 B 0) (B.extract yq7.toNat (yq7 + nq7).toNat)).fId), ss ((Dt (A5 B 0) (B.extract yq7.toNat (yq7 + nq7).toNat)).fTopic), x16, ss ((Dt (A5 B 0) (B.extract yq7.toNat (yq7 + nq7).toNat)).fClient), si ((Dt (A5 B 0) (B.extract yq7.toNat (yq7 + nq7).toNat)).fLevel), .sc (.bool (Dt (A5 B 0) (B.extract yq7.toNat (yq7 + nq7).toNat)).fClean), si ((Dt (A5 B 0) (B.extract yq7.toNat (yq7 + nq7).toNat)).fKeep), .sc (.bool (Dt (A5 B 0) (B.extract yq7.toNat (yq7 + nq7).toNat)).fHasWill), ss ((Dt (A5 B 0) (B.extract yq7.toNat (yq7 + nq7).toNat)).fWTopic), x17, si ((Dt (A5 B 0) (B.extract yq7.toNat (yq7 + nq7).toNat)).fWQos), .sc (.bool (Dt (A5 B 0) (B.extract yq7.toNat (yq7 + nq7).toNat)).fWRetain), .sc (.bool (Dt (A5 B 0) (B.extract yq7.toNat (yq7 + nq7).toNat)).fHasUser), ss ((Dt (A5 B 0) (B.extract yq7.toNat (yq7 + nq7).toNat)).fUser), .sc (.bool (Dt (A5 B 0) (B.extract yq7.toNat (yq7 + nq7).toNat)).fHasPass), x18, si ((Dt (A5 B 0) (B.extract yq7.toNat (yq7 + nq7).toNat)).fCode), .sc (.bool (Dt (A5 B 0) (B.extract yq7.toNat (yq7 + nq7).toNat)).fPresent), x19, x20, x21]) s29 zP8 (Ak (Af rfl (Af rfl (Af rfl (Af rfl (Af rfl (Af rfl (Af lx16 (Af rfl (Af rfl (Af rfl (Af rfl (Af rfl (Af rfl (Af lx17 (Af rfl (Af rfl (Af rfl (Af rfl (Af rfl (Af lx18 (Af rfl (Af rfl (Af lx19 (Af lx20 (Af lx21 rfl)))))))))))))))))))))))))) rfl (Cn rfl) rfl fun H s31 => At s31 (.here) rfl ?_)))
 refine Ai (Cl s31 rfl (.agg ⟨_, rfl, rfl⟩ (Ed (.own zP8 (Ed (.own zP7 (Hs (.own Zi (.sc (.sc (.own W1 (.own Mw (.own Mv .nil))))))))))) (.sc (.sc .nil))) ⟨(L6 ⟨_, rfl, rfl⟩ (Ee ⟨(Cd (Da ((Dt (A5 B 0) (B.extract yq7.toNat (yq7 + nq7).toNat)).fBody)) (by decide)), (Ee ⟨(Cd (Da ((Dt (A5 B 0) (B.extract yq7.toNat (yq7 + nq7).toNat)).fWBody)) (by decide)), (Ht ⟨(Cd (Da ((Dt (A5 B 0) (B.extract yq7.toNat (yq7 + nq7).toNat)).fPass)) (by decide)), (Fn ⟨(Cd (K8 ((Dt (A5 B 0) (B.extract yq7.toNat (yq7 + nq7).toNat)).fWants)) (by decide)), ⟨(Cd (V4 ((Dt (A5 B 0) (B.extract yq7.toNat (yq7 + nq7).toNat)).fNames)) (by decide)), ⟨(Cd (Y4 ((Dt (A5 B 0) (B.extract yq7.toNat (yq7 + nq7).toNat)).fCodes)) (by decide)), trivial⟩⟩⟩)⟩)⟩)⟩)), (Fn trivial)⟩) ?_
 have e : Fd Dt B = ((Dt (A5 B 0) (B.extract yq7.toNat (yq7 + nq7).toNat)), (yq7 + nq7), 0) := by
  unfold Fd E6 E5; simp only [h3, h6, h9, h10, h12, h26, h30, q7, if_true, if_false, zaa, reduceIte, Cw]
 rw [e]
 rfl
 refine As (nT h30) (Bg (cs := E2) rfl (Ci (cs' := E2) s29 zP8 (Ak rfl) rfl (Cn rfl) rfl fun H s32 => At s32 (.here) rfl (Ai (Cl s32 rfl (.agg ⟨_, rfl, rfl⟩ (Ed (.nl (Ed (.nl (Hs (.nl (.sc (.sc (.nl (.nl (.nl .nil))))))))))) (.sc (.sc .nil))) ⟨(L6 ⟨_, rfl, rfl⟩ (Ee ⟨(Am ⟨_, _, rfl, rfl⟩), (Ee ⟨(Am ⟨_, _, rfl, rfl⟩), (Ht ⟨(Am ⟨_, _, rfl, rfl⟩), (Fn ⟨(Am ⟨_, _, rfl, rfl⟩), ⟨(Am ⟨_, _, rfl, rfl⟩), ⟨(Am ⟨_, _, rfl, rfl⟩), trivial⟩⟩⟩)⟩)⟩)⟩)), (Fn trivial)⟩) ?_)))
 have e : Fd Dt B = ((Ce 0), 0, 2) := by
  unfold Fd E6 E5; simp only [h3, h6, h9, h10, h12, h26, h30, q7, if_true, if_false, zaa, reduceIte, Cw]
 rw [e]
 rfl
 refine Ac (nT h26) (Ac (nT h26) (Ac (nT h26) (Ac (nT h26) (Ac (nT h26) (Ac (nT h26) (Ac (nT h26) (Ac (nT h26) (Ac (nT h26) (B4 (nT h26) (As rfl (Bg (cs := E2) rfl (Ci (cs' := E2) s25 zP7 (Ak rfl) rfl (Cn rfl) rfl fun H s33 => At s33 (.here) rfl (Ai (Cl s33 rfl (.agg ⟨_, rfl, rfl⟩ (Ed (.nl (Ed (.nl (Hs (.nl (.sc (.sc (.nl (.nl (.nl .nil))))))))))) (.sc (.sc .nil))) ⟨(L6 ⟨_, rfl, rfl⟩ (Ee ⟨(Am ⟨_, _, rfl, rfl⟩), (Ee ⟨(Am ⟨_, _, rfl, rfl⟩), (Ht ⟨(Am ⟨_, _, rfl, rfl⟩), (Fn ⟨(Am ⟨_, _, rfl, rfl⟩), ⟨(Am ⟨_, _, rfl, rfl⟩), ⟨(Am ⟨_, _, rfl, rfl⟩), trivial⟩⟩⟩)⟩)⟩)⟩)), (Fn trivial)⟩) ?_)))))))))))))
 have e : Fd Dt B = ((Ce 0), 0, 2) := by
  unfold Fd E6 E5; simp only [h3, h6, h9, h10, h12, h26, q7, if_true, if_false, zaa, reduceIte, Cw]
 rw [e]
 rfl
 refine I6 s8 fun i34 H s35 => ?_
 have hR : (B.extract yq7.toNat (yq7 + nq7).toNat).size ≤ 340 := by rw [zat]; omega
 have hbd := Ag8 (A5 B 0) (B.extract yq7.toNat (yq7 + nq7).toNat) hR
 have hyp := hbd.hyp (by decide)
 refine Rg s35 rfl (.cons .sc (.cons .ro .nil)) (AjK (n + 1) (by omega) (A5 B 0) (B.extract yq7.toNat (yq7 + nq7).toNat) (by omega) (by omega)) ⟨_, rfl, rfl⟩ (M4 _) ?_
 rintro _ _ H ⟨x36, x37, x38, x39, x40, x41, lx36, lx37, lx38, lx39, lx40, lx41, rfl, rfl⟩ s42
 simp only [zal, zaz] at s42
 refine Ci (cs' := [si ((Dt (A5 B 0) (B.extract yq7.toNat (yq7 + nq7).toNat)).fType), .sc (.bool (Dt (A5 B 0) (B.extract yq7.toNat (yq7 + nq7).toNat)).fDup), si ((Dt (A5 B 0) (B.extract yq7.toNat (yq7 + nq7).toNat)).fQos), .sc (.bool (Dt (A5 B 0) (B.extract yq7.toNat (yq7 + nq7).toNat)).fRetain), si ((Dt (A5 B 0) (B.extract yq7.toNat (yq7 + nq7).toNat)).fId), ss ((Dt (A5 B 0) (B.extract yq7.toNat (yq7 + nq7).toNat)).fTopic), x36, ss ((Dt (A5 B 0) (B.extract yq7.toNat (yq7 + nq7).toNat)).fClient), si ((Dt (A5 B 0) (B.extract yq7.toNat (yq7 + nq7).toNat)).fLevel), .sc (.bool (Dt (A5 B 0) (B.extract yq7.toNat (yq7 + nq7).toNat)).fClean), si ((Dt (A5 B 0) (B.extract yq7.toNat (yq7 + nq7).toNat)).fKeep), .sc (.bool (Dt (A5 B 0) (B.extract yq7.toNat (yq7 + nq7).toNat)).fHasWill), ss ((Dt (A5 B 0) (B.extract yq7.toNat (yq7 + nq7).toNat)).fWTopic), x37, si ((Dt (A5 B 0) (B.extract yq7.toNat (yq7 + nq7).toNat)).fWQos), .sc (.bool (Dt (A5 B 0) (B.extract yq7.toNat (yq7 + nq7).toNat)).fWRetain), .sc (.bool (Dt (A5 B 0) (B.extract yq7.toNat (yq7 + nq7).toNat)).fHasUser), ss ((Dt (A5 B 0) (B.extract yq7.toNat (yq7 + nq7).toNat)).fUser), .sc (.bool (Dt (A5 B 0) (B.extract yq7.toNat (yq7 + nq7).toNat)).fHasPass), x38, si ((Dt (A5 B 0) (B.extract yq7.toNat (yq7 + nq7).toNat)).fCode), .sc (.bool (Dt (A5 B 0) (B.extract yq7.toNat (yq7 + nq7).toNat)).fPresent), x39, x40, x41]) s42 Zi (Ak (Af rfl (Af rfl (Af rfl (Af rfl (Af rfl (Af rfl (Af lx36 (Af rfl (Af rfl (Af rfl (Af rfl (Af rfl (Af rfl (Af lx37 (Af rfl (Af rfl (Af rfl (Af rfl (Af rfl (Af lx38 (Af rfl (Af rfl (Af lx39 (Af lx40 (Af lx41 rfl)))))))))))))))))))))))))) rfl (Cn rfl) rfl fun H s43 => At s43 (.here) rfl ?_
 refine Aq (v := (.bool (Ah (Dt (A5 B 0) (B.extract yq7.toNat (yq7 + nq7).toNat))))) s43 rfl (.agg (Gl (.cons (.own (by decide) Zi) (Gl (.cons (.own (by decide) W1) (L8 (.cons (.own (by decide) Mw) (Ir (.cons (.own (by decide) Mv) (.cons (.own (by decide) Dj) (.cons (.own (by decide) C0) .nil)))))))))) .nil) (So (n + 2) (by omega) (Dt (A5 B 0) (B.extract yq7.toNat (yq7 + nq7).toNat)) hyp) (C2 (Aa ((Ah (Dt (A5 B 0) (B.extract yq7.toNat (yq7 + nq7).toNat)))) (fun h44 => ?_) (fun h44 => ?_)))
 refine Ae (nF h44) (At s43 (.here) rfl (Ae (nF h44) (Ae (nF h44) (Ae (nF h44) (Ae (nF h44) (B9 (by omega) (by omega) (Ae (nF h44) (Gs 0 (yq7 + nq7) rfl rfl (by omega) (by omega) (by omega) ?_))))))))
 have z45 := zat (a := B) (b := (0 : Int).toNat) (e := (yq7 + nq7).toNat)
 refine Ae (nF h44) (Cg s43 rfl (.agg (Gl (.cons (.own (by decide) Zi) (Gl (.cons (.own (by decide) W1) (L8 (.cons (.own (by decide) Mw) (Ir (.cons (.own (by decide) Mv) (.cons (.own (by decide) Dj) (.cons (.own (by decide) C0) .nil)))))))))) .nil) (Aan (n + 1) (by omega) (Dt (A5 B 0) (B.extract yq7.toNat (yq7 + nq7).toNat)) hyp (za5 hbd.b1 (by decide)) (za5 hbd.b2 (by decide)) (za5 hbd.b3 (by decide))) (Da (F7 (Dt (A5 B 0) (B.extract yq7.toNat (yq7 + nq7).toNat)))) fun x46 H lx46 s47 => Ae (nF h44) (Aq (v := (.bool ((F7 (Dt (A5 B 0) (B.extract yq7.toNat (yq7 + nq7).toNat))).toList == (B.extract (0 : Int).toNat (yq7 + nq7).toNat).toList))) s47 rfl (.cons (.own (by decide) (.here)) (.cons .ro .nil)) (Kj (n + 11) _ (F7 (Dt (A5 B 0) (B.extract yq7.toNat (yq7 + nq7).toNat))) (B.extract (0 : Int).toNat (yq7 + nq7).toNat)) (Ae (nF h44) (C2 (A7 (nF h44) (Aa (((F7 (Dt (A5 B 0) (B.extract yq7.toNat (yq7 + nq7).toNat))).toList == (B.extract (0 : Int).toNat (yq7 + nq7).toNat).toList)) (fun h48 => ?_) (fun h48 => ?_)))))))
 refine Ax (nF h48) (At s47 C0 rfl (B9 (by omega) (by omega) (Ci (cs' := [si ((Dt (A5 B 0) (B.extract yq7.toNat (yq7 + nq7).toNat)).fType), .sc (.bool (Dt (A5 B 0) (B.extract yq7.toNat (yq7 + nq7).toNat)).fDup), si ((Dt (A5 B 0) (B.extract yq7.toNat (yq7 + nq7).toNat)).fQos), .sc (.bool (Dt (A5 B 0) (B.extract yq7.toNat (yq7 + nq7).toNat)).fRetain), si ((Dt (A5 B 0) (B.extract yq7.toNat (yq7 + nq7).toNat)).fId), ss ((Dt (A5 B 0) (B.extract yq7.toNat (yq7 + nq7).toNat)).fTopic), x36, ss ((Dt (A5 B 0) (B.extract yq7.toNat (yq7 + nq7).toNat)).fClient), si ((Dt (A5 B 0) (B.extract yq7.toNat (yq7 + nq7).toNat)).fLevel), .sc (.bool (Dt (A5 B 0) (B.extract yq7.toNat (yq7 + nq7).toNat)).fClean), si ((Dt (A5 B 0) (B.extract yq7.toNat (yq7 + nq7).toNat)).fKeep), .sc (.bool (Dt (A5 B 0) (B.extract yq7.toNat (yq7 + nq7).toNat)).fHasWill), ss ((Dt (A5 B 0) (B.extract yq7.toNat (yq7 + nq7).toNat)).fWTopic), x37, si ((Dt (A5 B 0) (B.extract yq7.toNat (yq7 + nq7).toNat)).fWQos), .sc (.bool (Dt (A5 B 0) (B.extract yq7.toNat (yq7 + nq7).toNat)).fWRetain), .sc (.bool (Dt (A5 B 0) (B.extract yq7.toNat (yq7 + nq7).toNat)).fHasUser), ss ((Dt (A5 B 0) (B.extract yq7.toNat (yq7 + nq7).toNat)).fUser), .sc (.bool (Dt (A5 B 0) (B.extract yq7.toNat (yq7 + nq7).toNat)).fHasPass), x38, si ((Dt (A5 B 0) (B.extract yq7.toNat (yq7 + nq7).toNat)).fCode), .sc (.bool (Dt (A5 B 0) (B.extract yq7.toNat (yq7 + nq7).toNat)).fPresent), x39, x40, x41]) s47 zP8 (Ak (Af rfl (Af rfl (Af rfl (Af rfl (Af rfl (Af rfl (Af lx36 (Af rfl (Af rfl (Af rfl (Af rfl (Af rfl (Af rfl (Af lx37 (Af rfl (Af rfl (Af rfl (Af rfl (Af rfl (Af lx38 (Af rfl (Af rfl (Af lx39 (Af lx40 (Af lx41 rfl)))))))))))))))))))))))))) rfl (Cn rfl) rfl fun H s49 => At s49 (.here) rfl ?_)))
 refine Ai (Cl s49 rfl (.agg ⟨_, rfl, rfl⟩ (Ed (.own zP8 (Ed (.own zP7 (Hs (.own Zi (.sc (.sc (.own W1 (.own Mw (.own Mv .nil))))))))))) (.sc (.sc .nil))) ⟨(L6 ⟨_, rfl, rfl⟩ (Ee ⟨(Cd (Da ((Dt (A5 B 0) (B.extract yq7.toNat (yq7 + nq7).toNat)).fBody)) (by decide)), (Ee ⟨(Cd (Da ((Dt (A5 B 0) (B.extract yq7.toNat (yq7 + nq7).toNat)).fWBody)) (by decide)), (Ht ⟨(Cd (Da ((Dt (A5 B 0) (B.extract yq7.toNat (yq7 + nq7).toNat)).fPass)) (by decide)), (Fn ⟨(Cd (K8 ((Dt (A5 B 0) (B.extract yq7.toNat (yq7 + nq7).toNat)).fWants)) (by decide)), ⟨(Cd (V4 ((Dt (A5 B 0) (B.extract yq7.toNat (yq7 + nq7).toNat)).fNames)) (by decide)), ⟨(Cd (Y4 ((Dt (A5 B 0) (B.extract yq7.toNat (yq7 + nq7).toNat)).fCodes)) (by decide)), trivial⟩⟩⟩)⟩)⟩)⟩)), (Fn trivial)⟩) ?_
 have e : Fd Dt B = ((Dt (A5 B 0) (B.extract yq7.toNat (yq7 + nq7).toNat)), (yq7 + nq7), 0) := by
  unfold Fd E6 E5; simp only [h3, h6, h9, h10, h12, h44, h48, q7, if_true, if_false, zaa, reduceIte, Cw]
 rw [e]
 rfl
 refine As (nT h48) (Bg (cs := E2) rfl (Ci (cs' := E2) s47 zP8 (Ak rfl) rfl (Cn rfl) rfl fun H s50 => At s50 (.here) rfl (Ai (Cl s50 rfl (.agg ⟨_, rfl, rfl⟩ (Ed (.nl (Ed (.nl (Hs (.nl (.sc (.sc (.nl (.nl (.nl .nil))))))))))) (.sc (.sc .nil))) ⟨(L6 ⟨_, rfl, rfl⟩ (Ee ⟨(Am ⟨_, _, rfl, rfl⟩), (Ee ⟨(Am ⟨_, _, rfl, rfl⟩), (Ht ⟨(Am ⟨_, _, rfl, rfl⟩), (Fn ⟨(Am ⟨_, _, rfl, rfl⟩), ⟨(Am ⟨_, _, rfl, rfl⟩), ⟨(Am ⟨_, _, rfl, rfl⟩), trivial⟩⟩⟩)⟩)⟩)⟩)), (Fn trivial)⟩) ?_)))
 have e : Fd Dt B = ((Ce 0), 0, 2) := by
  unfold Fd E6 E5; simp only [h3, h6, h9, h10, h12, h44, h48, q7, if_true, if_false, zaa, reduceIte, Cw]
 rw [e]
 rfl
 refine Ac (nT h44) (Ac (nT h44) (Ac (nT h44) (Ac (nT h44) (Ac (nT h44) (Ac (nT h44) (Ac (nT h44) (Ac (nT h44) (Ac (nT h44) (B4 (nT h44) (As rfl (Bg (cs := E2) rfl (Ci (cs' := E2) s43 zP7 (Ak rfl) rfl (Cn rfl) rfl fun H s51 => At s51 (.here) rfl (Ai (Cl s51 rfl (.agg ⟨_, rfl, rfl⟩ (Ed (.nl (Ed (.nl (Hs (.nl (.sc (.sc (.nl (.nl (.nl .nil))))))))))) (.sc (.sc .nil))) ⟨(L6 ⟨_, rfl, rfl⟩ (Ee ⟨(Am ⟨_, _, rfl, rfl⟩), (Ee ⟨(Am ⟨_, _, rfl, rfl⟩), (Ht ⟨(Am ⟨_, _, rfl, rfl⟩), (Fn ⟨(Am ⟨_, _, rfl, rfl⟩), ⟨(Am ⟨_, _, rfl, rfl⟩), ⟨(Am ⟨_, _, rfl, rfl⟩), trivial⟩⟩⟩)⟩)⟩)⟩)), (Fn trivial)⟩) ?_)))))))))))))
 have e : Fd Dt B = ((Ce 0), 0, 2) := by
  unfold Fd E6 E5; simp only [h3, h6, h9, h10, h12, h44, q7, if_true, if_false, zaa, reduceIte, Cw]
 rw [e]
 rfl
 have dh9 := of_decide_eq_false h9
 refine As (nT h9) (Bg (cs := E2) rfl (Ci (cs' := E2) s8 (.here) (Ak rfl) rfl (Cn rfl) rfl fun H s52 => At s52 (.here) rfl (Ai (Cl s52 rfl (.agg ⟨_, rfl, rfl⟩ (Ed (.nl (Ed (.nl (Hs (.nl (.sc (.sc (.nl (.nl (.nl .nil))))))))))) (.sc (.sc .nil))) ⟨(L6 ⟨_, rfl, rfl⟩ (Ee ⟨(Am ⟨_, _, rfl, rfl⟩), (Ee ⟨(Am ⟨_, _, rfl, rfl⟩), (Ht ⟨(Am ⟨_, _, rfl, rfl⟩), (Fn ⟨(Am ⟨_, _, rfl, rfl⟩), ⟨(Am ⟨_, _, rfl, rfl⟩), ⟨(Am ⟨_, _, rfl, rfl⟩), trivial⟩⟩⟩)⟩)⟩)⟩)), (Fn trivial)⟩) ?_)))
 have e : Fd Dt B = ((Ce 0), 0, cq7) := by
  unfold Fd E6 E5; simp only [h3, h6, h9, q7, if_true, if_false, zaa, reduceIte, Cw]
 rw [e]
 rfl
 refine As (nT h6) (Bg (cs := E2) rfl (Ci (cs' := E2) s2 (.here) (Ak rfl) rfl (Cn rfl) rfl fun H s53 => At s53 (.here) rfl (Ai (Cl s53 rfl (.agg ⟨_, rfl, rfl⟩ (Ed (.nl (Ed (.nl (Hs (.nl (.sc (.sc (.nl (.nl (.nl .nil))))))))))) (.sc (.sc .nil))) ⟨(L6 ⟨_, rfl, rfl⟩ (Ee ⟨(Am ⟨_, _, rfl, rfl⟩), (Ee ⟨(Am ⟨_, _, rfl, rfl⟩), (Ht ⟨(Am ⟨_, _, rfl, rfl⟩), (Fn ⟨(Am ⟨_, _, rfl, rfl⟩), ⟨(Am ⟨_, _, rfl, rfl⟩), ⟨(Am ⟨_, _, rfl, rfl⟩), trivial⟩⟩⟩)⟩)⟩)⟩)), (Fn trivial)⟩) ?_)))
 have e : Fd Dt B = ((Ce 0), 0, 2) := by
  unfold Fd E6 E5; simp only [h3, h6, if_true, if_false, zaa, reduceIte, Cw]
 rw [e]
 rfl
theorem AgF (n : Nat) (hn : 1048576 < n) (B : ByteArray) (hB : B.size ≤ 1048576) : Dd E0 (n + 13) 60 31 [Ag B] = some (.tup [.agg (Ar (Fd Dr B).1), .sc (.int .i64 (Fd Dr B).2.1), .sc (.int .i64 (Fd Dr B).2.2)]) := by
 rw [Bd, Aka, f31]
 refine C6 (G := (· = some (.tup [.agg (Ar (Fd Dr B).1), .sc (.int .i64 (Fd Dr B).2.1), .sc (.int .i64 (Fd Dr B).2.2)]))) ?_
 try simp only [F8, Ba, D9, A4, D5, Av, Bh, Pr.gT, Pr.gF, Pr.hT, Pr.hF, Pr.kT, Pr.kF, Bv, B5, Bu, Ho, Ct, Dh, Iw]
 have s0 : Sep [] [] := Cx
 refine I6 s0 fun i1 H s2 => Cz (Be (Aa ((decide (((B.size : Nat) : Int) = 0))) (fun h3 => ?_) (fun h3 => ?_)))
 have dh3 := of_decide_eq_true h3
 refine As h3 (Bg (cs := E2) rfl (Ci (cs' := E2) s2 (.here) (Ak rfl) rfl (Cn rfl) rfl fun H s4 => At s4 (.here) rfl (Ai (Cl s4 rfl (.agg ⟨_, rfl, rfl⟩ (Ed (.nl (Ed (.nl (Hs (.nl (.sc (.sc (.nl (.nl (.nl .nil))))))))))) (.sc (.sc .nil))) ⟨(L6 ⟨_, rfl, rfl⟩ (Ee ⟨(Am ⟨_, _, rfl, rfl⟩), (Ee ⟨(Am ⟨_, _, rfl, rfl⟩), (Ht ⟨(Am ⟨_, _, rfl, rfl⟩), (Fn ⟨(Am ⟨_, _, rfl, rfl⟩), ⟨(Am ⟨_, _, rfl, rfl⟩), ⟨(Am ⟨_, _, rfl, rfl⟩), trivial⟩⟩⟩)⟩)⟩)⟩)), (Fn trivial)⟩) ?_)))
 have e : Fd Dr B = ((Ce 0), 0, 1) := by
  unfold Fd E6 E5; simp only [h3, if_true, if_false, zaa, reduceIte, Cw]
 rw [e]
 rfl
 have dh3 := of_decide_eq_false h3
 refine Ax h3 ?_
 have w5 := Ef B 0
 refine Gr (by omega) (by omega) fun _ => Fg (c := .sc (.int .u8 (A5 B 0))) rfl (Kt (by omega) (by omega) (Aq (v := (.bool (Ea (A5 B 0)))) s2 rfl (.cons .sc .nil) (by rw [← AfT (f := (A5 B 0)) (by omega) (by omega)]; exact AbG (n + 11) (by omega) (A5 B 0) (by omega)) (C2 (Aa ((Ea (A5 B 0))) (fun h6 => ?_) (fun h6 => ?_)))))
 refine Ax (nF h6) ?_
 obtain ⟨nq7, yq7, cq7, q7⟩ : ∃ w y o, C9 B 1 = (w, y, o) := ⟨_, _, _, rfl⟩
 have bq7 := Qy (B := B) (a := 1)
 rw [q7] at bq7
 dsimp only at bq7
 refine Ew s2 rfl (.cons .ro (.cons .sc .nil)) (by have h := AiX (n + 10) (by omega) B 1 (by omega) (by omega); rw [q7] at h; exact h) rfl (Bm (Bm (Bm Et))) ?_
 rintro _ _ H ⟨_, rfl, ⟨_, rfl, ⟨_, rfl, ⟨rfl, rfl⟩⟩⟩⟩ s8
 simp only [zal] at s8
 refine B0 (v := si nq7) rfl (B0 (v := si yq7) rfl (B0 (v := si cq7) rfl (Mi (Aa ((decide (cq7 = 0))) (fun h9 => ?_) (fun h9 => ?_)))))
 have dh9 := of_decide_eq_true h9
 replace bq7 := bq7 (of_decide_eq_true h9)
 refine Ax (nF h9) (Er (Aa ((decide (340 < nq7))) (fun h10 => ?_) (fun h10 => ?_)))
 have dh10 := of_decide_eq_true h10
 refine As h10 (Bg (cs := E2) rfl (Ci (cs' := E2) s8 (.here) (Ak rfl) rfl (Cn rfl) rfl fun H s11 => At s11 (.here) rfl (Ai (Cl s11 rfl (.agg ⟨_, rfl, rfl⟩ (Ed (.nl (Ed (.nl (Hs (.nl (.sc (.sc (.nl (.nl (.nl .nil))))))))))) (.sc (.sc .nil))) ⟨(L6 ⟨_, rfl, rfl⟩ (Ee ⟨(Am ⟨_, _, rfl, rfl⟩), (Ee ⟨(Am ⟨_, _, rfl, rfl⟩), (Ht ⟨(Am ⟨_, _, rfl, rfl⟩), (Fn ⟨(Am ⟨_, _, rfl, rfl⟩), ⟨(Am ⟨_, _, rfl, rfl⟩), ⟨(Am ⟨_, _, rfl, rfl⟩), trivial⟩⟩⟩)⟩)⟩)⟩)), (Fn trivial)⟩) ?_)))
 have e : Fd Dr B = ((Ce 0), 0, 2) := by
  unfold Fd E6 E5; simp only [h3, h6, h9, h10, q7, if_true, if_false, zaa, reduceIte, Cw]
 rw [e]
 rfl
 have dh10 := of_decide_eq_false h10
 refine Ax h10 (Cz (O2 (by omega) (by omega) (Er (Aa ((decide ((((B.size : Nat) : Int) - yq7) < nq7))) (fun h12 => ?_) (fun h12 => ?_)))))
 have dh12 := of_decide_eq_true h12
 refine As h12 (Bg (cs := E2) rfl (Ci (cs' := E2) s8 (.here) (Ak rfl) rfl (Cn rfl) rfl fun H s13 => At s13 (.here) rfl (Ai (Cl s13 rfl (.agg ⟨_, rfl, rfl⟩ (Ed (.nl (Ed (.nl (Hs (.nl (.sc (.sc (.nl (.nl (.nl .nil))))))))))) (.sc (.sc .nil))) ⟨(L6 ⟨_, rfl, rfl⟩ (Ee ⟨(Am ⟨_, _, rfl, rfl⟩), (Ee ⟨(Am ⟨_, _, rfl, rfl⟩), (Ht ⟨(Am ⟨_, _, rfl, rfl⟩), (Fn ⟨(Am ⟨_, _, rfl, rfl⟩), ⟨(Am ⟨_, _, rfl, rfl⟩), ⟨(Am ⟨_, _, rfl, rfl⟩), trivial⟩⟩⟩)⟩)⟩)⟩)), (Fn trivial)⟩) ?_)))
 have e : Fd Dr B = ((Ce 0), 0, 1) := by
  unfold Fd E6 E5; simp only [h3, h6, h9, h10, h12, q7, if_true, if_false, zaa, reduceIte, Cw]
 rw [e]
 rfl
 have dh12 := of_decide_eq_false h12
 refine Ax h12 ?_
 have w14 := Ef B 0
 refine Gr (by omega) (by omega) fun _ => Fg (c := su (A5 B 0)) rfl (Kt (by omega) (by omega) (B9 (by omega) (by omega) (Gs yq7 (yq7 + nq7) rfl rfl (by omega) (by omega) (by omega) ?_)))
 have z15 := zat (a := B) (b := yq7.toNat) (e := (yq7 + nq7).toNat)
 refine Di (Gd.bothE ?_ ?_)
 have hR : (B.extract yq7.toNat (yq7 + nq7).toNat).size ≤ 340 := by rw [zat]; omega
 have hbd := AjJ (A5 B 0) (B.extract yq7.toNat (yq7 + nq7).toNat) hR
 have hyp := hbd.hyp (by decide)
 refine Rg s8 rfl (.cons .sc (.cons .ro .nil)) (Aji (n + 5) (by omega) (A5 B 0) (B.extract yq7.toNat (yq7 + nq7).toNat) (by omega) (by omega)) ⟨_, rfl, rfl⟩ (M4 _) ?_
 rintro _ _ H ⟨x16, x17, x18, x19, x20, x21, lx16, lx17, lx18, lx19, lx20, lx21, rfl, rfl⟩ s22
 simp only [zal, zaz] at s22
 refine I6 s22 fun i23 H s24 => Ci (cs' := [si ((Dr (A5 B 0) (B.extract yq7.toNat (yq7 + nq7).toNat)).fType), .sc (.bool (Dr (A5 B 0) (B.extract yq7.toNat (yq7 + nq7).toNat)).fDup), si ((Dr (A5 B 0) (B.extract yq7.toNat (yq7 + nq7).toNat)).fQos), .sc (.bool (Dr (A5 B 0) (B.extract yq7.toNat (yq7 + nq7).toNat)).fRetain), si ((Dr (A5 B 0) (B.extract yq7.toNat (yq7 + nq7).toNat)).fId), ss ((Dr (A5 B 0) (B.extract yq7.toNat (yq7 + nq7).toNat)).fTopic), x16, ss ((Dr (A5 B 0) (B.extract yq7.toNat (yq7 + nq7).toNat)).fClient), si ((Dr (A5 B 0) (B.extract yq7.toNat (yq7 + nq7).toNat)).fLevel), .sc (.bool (Dr (A5 B 0) (B.extract yq7.toNat (yq7 + nq7).toNat)).fClean), si ((Dr (A5 B 0) (B.extract yq7.toNat (yq7 + nq7).toNat)).fKeep), .sc (.bool (Dr (A5 B 0) (B.extract yq7.toNat (yq7 + nq7).toNat)).fHasWill), ss ((Dr (A5 B 0) (B.extract yq7.toNat (yq7 + nq7).toNat)).fWTopic), x17, si ((Dr (A5 B 0) (B.extract yq7.toNat (yq7 + nq7).toNat)).fWQos), .sc (.bool (Dr (A5 B 0) (B.extract yq7.toNat (yq7 + nq7).toNat)).fWRetain), .sc (.bool (Dr (A5 B 0) (B.extract yq7.toNat (yq7 + nq7).toNat)).fHasUser), ss ((Dr (A5 B 0) (B.extract yq7.toNat (yq7 + nq7).toNat)).fUser), .sc (.bool (Dr (A5 B 0) (B.extract yq7.toNat (yq7 + nq7).toNat)).fHasPass), x18, si ((Dr (A5 B 0) (B.extract yq7.toNat (yq7 + nq7).toNat)).fCode), .sc (.bool (Dr (A5 B 0) (B.extract yq7.toNat (yq7 + nq7).toNat)).fPresent), x19, x20, x21]) s24 (.here) (Ak (Af rfl (Af rfl (Af rfl (Af rfl (Af rfl (Af rfl (Af lx16 (Af rfl (Af rfl (Af rfl (Af rfl (Af rfl (Af rfl (Af lx17 (Af rfl (Af rfl (Af rfl (Af rfl (Af rfl (Af lx18 (Af rfl (Af rfl (Af lx19 (Af lx20 (Af lx21 rfl)))))))))))))))))))))))))) rfl (Cn rfl) rfl fun H s25 => At s25 (.here) rfl ?_
 refine Aq (v := (.bool (Ah (Dr (A5 B 0) (B.extract yq7.toNat (yq7 + nq7).toNat))))) s25 rfl (.agg (Gl (.cons (.own (by decide) Zi) (Gl (.cons (.own (by decide) W1) (L8 (.cons (.own (by decide) Mw) (Ir (.cons (.own (by decide) Mv) (.cons (.own (by decide) Dj) (.cons (.own (by decide) C0) .nil)))))))))) .nil) (S7 (n + 2) (by omega) (Dr (A5 B 0) (B.extract yq7.toNat (yq7 + nq7).toNat)) hyp) (C2 (Aa ((Ah (Dr (A5 B 0) (B.extract yq7.toNat (yq7 + nq7).toNat)))) (fun h26 => ?_) (fun h26 => ?_)))
 refine Ae (nF h26) (At s25 (.here) rfl (Ae (nF h26) (Ae (nF h26) (Ae (nF h26) (Ae (nF h26) (B9 (by omega) (by omega) (Ae (nF h26) (Gs 0 (yq7 + nq7) rfl rfl (by omega) (by omega) (by omega) ?_))))))))
 have z27 := zat (a := B) (b := (0 : Int).toNat) (e := (yq7 + nq7).toNat)
 refine Ae (nF h26) (Cg s25 rfl (.agg (Gl (.cons (.own (by decide) Zi) (Gl (.cons (.own (by decide) W1) (L8 (.cons (.own (by decide) Mw) (Ir (.cons (.own (by decide) Mv) (.cons (.own (by decide) Dj) (.cons (.own (by decide) C0) .nil)))))))))) .nil) (AaC (n + 1) (by omega) (Dr (A5 B 0) (B.extract yq7.toNat (yq7 + nq7).toNat)) hyp (za5 hbd.b1 (by decide)) (za5 hbd.b2 (by decide)) (za5 hbd.b3 (by decide))) (Da (F7 (Dr (A5 B 0) (B.extract yq7.toNat (yq7 + nq7).toNat)))) fun x28 H lx28 s29 => Ae (nF h26) (Aq (v := (.bool ((F7 (Dr (A5 B 0) (B.extract yq7.toNat (yq7 + nq7).toNat))).toList == (B.extract (0 : Int).toNat (yq7 + nq7).toNat).toList))) s29 rfl (.cons (.own (by decide) (.here)) (.cons .ro .nil)) (Ro (n + 11) _ (F7 (Dr (A5 B 0) (B.extract yq7.toNat (yq7 + nq7).toNat))) (B.extract (0 : Int).toNat (yq7 + nq7).toNat)) (Ae (nF h26) (C2 (A7 (nF h26) (Aa (((F7 (Dr (A5 B 0) (B.extract yq7.toNat (yq7 + nq7).toNat))).toList == (B.extract (0 : Int).toNat (yq7 + nq7).toNat).toList)) (fun h30 => ?_) (fun h30 => ?_)))))))
 refine Ax (nF h30) (At s29 C0 rfl (B9 (by omega) (by omega) (Ci (cs' := [si ((Dr (A5 B 0) (B.extract yq7.toNat (yq7 + nq7).toNat)).fType), .sc (.bool (Dr (A5 B 0) (B.extract yq7.toNat (yq7 + nq7).toNat)).fDup), si ((Dr (A5 B 0) (B.extract yq7.toNat (yq7 + nq7).toNat)).fQos), .sc (.bool (Dr (A5 B 0) (B.extract yq7.toNat (yq7 + nq7).toNat)).fRetain), si ((Dr (A5 B 0) (B.extract yq7.toNat (yq7 + nq7).toNat)).fId), ss ((Dr (A5 B 0) (B.extract yq7.toNat (yq7 + nq7).toNat)).fTopic), x16, ss ((Dr (A5 B 0) (B.extract yq7.toNat (yq7 + nq7).toNat)).fClient), si ((Dr (A5 B 0) (B.extract yq7.toNat (yq7 + nq7).toNat)).fLevel), .sc (.bool (Dr (A5 B 0) (B.extract yq7.toNat (yq7 + nq7).toNat)).fClean), si ((Dr (A5 B 0) (B.extract yq7.toNat (yq7 + nq7).toNat)).fKeep), .sc (.bool (Dr (A5 B 0) (B.extract yq7.toNat (yq7 + nq7).toNat)).fHasWill), ss ((Dr (A5 B 0) (B.extract yq7.toNat (yq7 + nq7).toNat)).fWTopic), x17, si ((Dr (A5 B 0) (B.extract yq7.toNat (yq7 + nq7).toNat)).fWQos), .sc (.bool (Dr (A5 B 0) (B.extract yq7.toNat (yq7 + nq7).toNat)).fWRetain), .sc (.bool (Dr (A5 B 0) (B.extract yq7.toNat (yq7 + nq7).toNat)).fHasUser), ss ((Dr (A5 B 0) (B.extract yq7.toNat (yq7 + nq7).toNat)).fUser), .sc (.bool (Dr (A5 B 0) (B.extract yq7.toNat (yq7 + nq7).toNat)).fHasPass), x18, si ((Dr (A5 B 0) (B.extract yq7.toNat (yq7 + nq7).toNat)).fCode), .sc (.bool (Dr (A5 B 0) (B.extract yq7.toNat (yq7 + nq7).toNat)).fPresent), x19, x20, x21]) s29 zP8 (Ak (Af rfl (Af rfl (Af rfl (Af rfl (Af rfl (Af rfl (Af lx16 (Af rfl (Af rfl (Af rfl (Af rfl (Af rfl (Af rfl (Af lx17 (Af rfl (Af rfl (Af rfl (Af rfl (Af rfl (Af lx18 (Af rfl (Af rfl (Af lx19 (Af lx20 (Af lx21 rfl)))))))))))))))))))))))))) rfl (Cn rfl) rfl fun H s31 => At s31 (.here) rfl ?_)))
 refine Ai (Cl s31 rfl (.agg ⟨_, rfl, rfl⟩ (Ed (.own zP8 (Ed (.own zP7 (Hs (.own Zi (.sc (.sc (.own W1 (.own Mw (.own Mv .nil))))))))))) (.sc (.sc .nil))) ⟨(L6 ⟨_, rfl, rfl⟩ (Ee ⟨(Cd (Da ((Dr (A5 B 0) (B.extract yq7.toNat (yq7 + nq7).toNat)).fBody)) (by decide)), (Ee ⟨(Cd (Da ((Dr (A5 B 0) (B.extract yq7.toNat (yq7 + nq7).toNat)).fWBody)) (by decide)), (Ht ⟨(Cd (Da ((Dr (A5 B 0) (B.extract yq7.toNat (yq7 + nq7).toNat)).fPass)) (by decide)), (Fn ⟨(Cd (K8 ((Dr (A5 B 0) (B.extract yq7.toNat (yq7 + nq7).toNat)).fWants)) (by decide)), ⟨(Cd (V4 ((Dr (A5 B 0) (B.extract yq7.toNat (yq7 + nq7).toNat)).fNames)) (by decide)), ⟨(Cd (Y4 ((Dr (A5 B 0) (B.extract yq7.toNat (yq7 + nq7).toNat)).fCodes)) (by decide)), trivial⟩⟩⟩)⟩)⟩)⟩)), (Fn trivial)⟩) ?_
 have e : Fd Dr B = ((Dr (A5 B 0) (B.extract yq7.toNat (yq7 + nq7).toNat)), (yq7 + nq7), 0) := by
  unfold Fd E6 E5; simp only [h3, h6, h9, h10, h12, h26, h30, q7, if_true, if_false, zaa, reduceIte, Cw]
 rw [e]
 rfl
 refine As (nT h30) (Bg (cs := E2) rfl (Ci (cs' := E2) s29 zP8 (Ak rfl) rfl (Cn rfl) rfl fun H s32 => At s32 (.here) rfl (Ai (Cl s32 rfl (.agg ⟨_, rfl, rfl⟩ (Ed (.nl (Ed (.nl (Hs (.nl (.sc (.sc (.nl (.nl (.nl .nil))))))))))) (.sc (.sc .nil))) ⟨(L6 ⟨_, rfl, rfl⟩ (Ee ⟨(Am ⟨_, _, rfl, rfl⟩), (Ee ⟨(Am ⟨_, _, rfl, rfl⟩), (Ht ⟨(Am ⟨_, _, rfl, rfl⟩), (Fn ⟨(Am ⟨_, _, rfl, rfl⟩), ⟨(Am ⟨_, _, rfl, rfl⟩), ⟨(Am ⟨_, _, rfl, rfl⟩), trivial⟩⟩⟩)⟩)⟩)⟩)), (Fn trivial)⟩) ?_)))
 have e : Fd Dr B = ((Ce 0), 0, 2) := by
  unfold Fd E6 E5; simp only [h3, h6, h9, h10, h12, h26, h30, q7, if_true, if_false, zaa, reduceIte, Cw]
 rw [e]
 rfl
 refine Ac (nT h26) (Ac (nT h26) (Ac (nT h26) (Ac (nT h26) (Ac (nT h26) (Ac (nT h26) (Ac (nT h26) (Ac (nT h26) (Ac (nT h26) (B4 (nT h26) (As rfl (Bg (cs := E2) rfl (Ci (cs' := E2) s25 zP7 (Ak rfl) rfl (Cn rfl) rfl fun H s33 => At s33 (.here) rfl (Ai (Cl s33 rfl (.agg ⟨_, rfl, rfl⟩ (Ed (.nl (Ed (.nl (Hs (.nl (.sc (.sc (.nl (.nl (.nl .nil))))))))))) (.sc (.sc .nil))) ⟨(L6 ⟨_, rfl, rfl⟩ (Ee ⟨(Am ⟨_, _, rfl, rfl⟩), (Ee ⟨(Am ⟨_, _, rfl, rfl⟩), (Ht ⟨(Am ⟨_, _, rfl, rfl⟩), (Fn ⟨(Am ⟨_, _, rfl, rfl⟩), ⟨(Am ⟨_, _, rfl, rfl⟩), ⟨(Am ⟨_, _, rfl, rfl⟩), trivial⟩⟩⟩)⟩)⟩)⟩)), (Fn trivial)⟩) ?_)))))))))))))
 have e : Fd Dr B = ((Ce 0), 0, 2) := by
  unfold Fd E6 E5; simp only [h3, h6, h9, h10, h12, h26, q7, if_true, if_false, zaa, reduceIte, Cw]
 rw [e]
 rfl
 refine I6 s8 fun i34 H s35 => ?_
 have hR : (B.extract yq7.toNat (yq7 + nq7).toNat).size ≤ 340 := by rw [zat]; omega
 have hbd := AjJ (A5 B 0) (B.extract yq7.toNat (yq7 + nq7).toNat) hR
 have hyp := hbd.hyp (by decide)
 refine Rg s35 rfl (.cons .sc (.cons .ro .nil)) (Aji (n + 5) (by omega) (A5 B 0) (B.extract yq7.toNat (yq7 + nq7).toNat) (by omega) (by omega)) ⟨_, rfl, rfl⟩ (M4 _) ?_
 rintro _ _ H ⟨x36, x37, x38, x39, x40, x41, lx36, lx37, lx38, lx39, lx40, lx41, rfl, rfl⟩ s42
 simp only [zal, zaz] at s42
 refine Ci (cs' := [si ((Dr (A5 B 0) (B.extract yq7.toNat (yq7 + nq7).toNat)).fType), .sc (.bool (Dr (A5 B 0) (B.extract yq7.toNat (yq7 + nq7).toNat)).fDup), si ((Dr (A5 B 0) (B.extract yq7.toNat (yq7 + nq7).toNat)).fQos), .sc (.bool (Dr (A5 B 0) (B.extract yq7.toNat (yq7 + nq7).toNat)).fRetain), si ((Dr (A5 B 0) (B.extract yq7.toNat (yq7 + nq7).toNat)).fId), ss ((Dr (A5 B 0) (B.extract yq7.toNat (yq7 + nq7).toNat)).fTopic), x36, ss ((Dr (A5 B 0) (B.extract yq7.toNat (yq7 + nq7).toNat)).fClient), si ((Dr (A5 B 0) (B.extract yq7.toNat (yq7 + nq7).toNat)).fLevel), .sc (.bool (Dr (A5 B 0) (B.extract yq7.toNat (yq7 + nq7).toNat)).fClean), si ((Dr (A5 B 0) (B.extract yq7.toNat (yq7 + nq7).toNat)).fKeep), .sc (.bool (Dr (A5 B 0) (B.extract yq7.toNat (yq7 + nq7).toNat)).fHasWill), ss ((Dr (A5 B 0) (B.extract yq7.toNat (yq7 + nq7).toNat)).fWTopic), x37, si ((Dr (A5 B 0) (B.extract yq7.toNat (yq7 + nq7).toNat)).fWQos), .sc (.bool (Dr (A5 B 0) (B.extract yq7.toNat (yq7 + nq7).toNat)).fWRetain), .sc (.bool (Dr (A5 B 0) (B.extract yq7.toNat (yq7 + nq7).toNat)).fHasUser), ss ((Dr (A5 B 0) (B.extract yq7.toNat (yq7 + nq7).toNat)).fUser), .sc (.bool (Dr (A5 B 0) (B.extract yq7.toNat (yq7 + nq7).toNat)).fHasPass), x38, si ((Dr (A5 B 0) (B.extract yq7.toNat (yq7 + nq7).toNat)).fCode), .sc (.bool (Dr (A5 B 0) (B.extract yq7.toNat (yq7 + nq7).toNat)).fPresent), x39, x40, x41]) s42 Zi (Ak (Af rfl (Af rfl (Af rfl (Af rfl (Af rfl (Af rfl (Af lx36 (Af rfl (Af rfl (Af rfl (Af rfl (Af rfl (Af rfl (Af lx37 (Af rfl (Af rfl (Af rfl (Af rfl (Af rfl (Af lx38 (Af rfl (Af rfl (Af lx39 (Af lx40 (Af lx41 rfl)))))))))))))))))))))))))) rfl (Cn rfl) rfl fun H s43 => At s43 (.here) rfl ?_
 refine Aq (v := (.bool (Ah (Dr (A5 B 0) (B.extract yq7.toNat (yq7 + nq7).toNat))))) s43 rfl (.agg (Gl (.cons (.own (by decide) Zi) (Gl (.cons (.own (by decide) W1) (L8 (.cons (.own (by decide) Mw) (Ir (.cons (.own (by decide) Mv) (.cons (.own (by decide) Dj) (.cons (.own (by decide) C0) .nil)))))))))) .nil) (S7 (n + 2) (by omega) (Dr (A5 B 0) (B.extract yq7.toNat (yq7 + nq7).toNat)) hyp) (C2 (Aa ((Ah (Dr (A5 B 0) (B.extract yq7.toNat (yq7 + nq7).toNat)))) (fun h44 => ?_) (fun h44 => ?_)))
 refine Ae (nF h44) (At s43 (.here) rfl (Ae (nF h44) (Ae (nF h44) (Ae (nF h44) (Ae (nF h44) (B9 (by omega) (by omega) (Ae (nF h44) (Gs 0 (yq7 + nq7) rfl rfl (by omega) (by omega) (by omega) ?_))))))))
 have z45 := zat (a := B) (b := (0 : Int).toNat) (e := (yq7 + nq7).toNat)
 refine Ae (nF h44) (Cg s43 rfl (.agg (Gl (.cons (.own (by decide) Zi) (Gl (.cons (.own (by decide) W1) (L8 (.cons (.own (by decide) Mw) (Ir (.cons (.own (by decide) Mv) (.cons (.own (by decide) Dj) (.cons (.own (by decide) C0) .nil)))))))))) .nil) (AaC (n + 1) (by omega) (Dr (A5 B 0) (B.extract yq7.toNat (yq7 + nq7).toNat)) hyp (za5 hbd.b1 (by decide)) (za5 hbd.b2 (by decide)) (za5 hbd.b3 (by decide))) (Da (F7 (Dr (A5 B 0) (B.extract yq7.toNat (yq7 + nq7).toNat)))) fun x46 H lx46 s47 => Ae (nF h44) (Aq (v := (.bool ((F7 (Dr (A5 B 0) (B.extract yq7.toNat (yq7 + nq7).toNat))).toList == (B.extract (0 : Int).toNat (yq7 + nq7).toNat).toList))) s47 rfl (.cons (.own (by decide) (.here)) (.cons .ro .nil)) (Ro (n + 11) _ (F7 (Dr (A5 B 0) (B.extract yq7.toNat (yq7 + nq7).toNat))) (B.extract (0 : Int).toNat (yq7 + nq7).toNat)) (Ae (nF h44) (C2 (A7 (nF h44) (Aa (((F7 (Dr (A5 B 0) (B.extract yq7.toNat (yq7 + nq7).toNat))).toList == (B.extract (0 : Int).toNat (yq7 + nq7).toNat).toList)) (fun h48 => ?_) (fun h48 => ?_)))))))
 refine Ax (nF h48) (At s47 C0 rfl (B9 (by omega) (by omega) (Ci (cs' := [si ((Dr (A5 B 0) (B.extract yq7.toNat (yq7 + nq7).toNat)).fType), .sc (.bool (Dr (A5 B 0) (B.extract yq7.toNat (yq7 + nq7).toNat)).fDup), si ((Dr (A5 B 0) (B.extract yq7.toNat (yq7 + nq7).toNat)).fQos), .sc (.bool (Dr (A5 B 0) (B.extract yq7.toNat (yq7 + nq7).toNat)).fRetain), si ((Dr (A5 B 0) (B.extract yq7.toNat (yq7 + nq7).toNat)).fId), ss ((Dr (A5 B 0) (B.extract yq7.toNat (yq7 + nq7).toNat)).fTopic), x36, ss ((Dr (A5 B 0) (B.extract yq7.toNat (yq7 + nq7).toNat)).fClient), si ((Dr (A5 B 0) (B.extract yq7.toNat (yq7 + nq7).toNat)).fLevel), .sc (.bool (Dr (A5 B 0) (B.extract yq7.toNat (yq7 + nq7).toNat)).fClean), si ((Dr (A5 B 0) (B.extract yq7.toNat (yq7 + nq7).toNat)).fKeep), .sc (.bool (Dr (A5 B 0) (B.extract yq7.toNat (yq7 + nq7).toNat)).fHasWill), ss ((Dr (A5 B 0) (B.extract yq7.toNat (yq7 + nq7).toNat)).fWTopic), x37, si ((Dr (A5 B 0) (B.extract yq7.toNat (yq7 + nq7).toNat)).fWQos), .sc (.bool (Dr (A5 B 0) (B.extract yq7.toNat (yq7 + nq7).toNat)).fWRetain), .sc (.bool (Dr (A5 B 0) (B.extract yq7.toNat (yq7 + nq7).toNat)).fHasUser), ss ((Dr (A5 B 0) (B.extract yq7.toNat (yq7 + nq7).toNat)).fUser), .sc (.bool (Dr (A5 B 0) (B.extract yq7.toNat (yq7 + nq7).toNat)).fHasPass), x38, si ((Dr (A5 B 0) (B.extract yq7.toNat (yq7 + nq7).toNat)).fCode), .sc (.bool (Dr (A5 B 0) (B.extract yq7.toNat (yq7 + nq7).toNat)).fPresent), x39, x40, x41]) s47 zP8 (Ak (Af rfl (Af rfl (Af rfl (Af rfl (Af rfl (Af rfl (Af lx36 (Af rfl (Af rfl (Af rfl (Af rfl (Af rfl (Af rfl (Af lx37 (Af rfl (Af rfl (Af rfl (Af rfl (Af rfl (Af lx38 (Af rfl (Af rfl (Af lx39 (Af lx40 (Af lx41 rfl)))))))))))))))))))))))))) rfl (Cn rfl) rfl fun H s49 => At s49 (.here) rfl ?_)))
 refine Ai (Cl s49 rfl (.agg ⟨_, rfl, rfl⟩ (Ed (.own zP8 (Ed (.own zP7 (Hs (.own Zi (.sc (.sc (.own W1 (.own Mw (.own Mv .nil))))))))))) (.sc (.sc .nil))) ⟨(L6 ⟨_, rfl, rfl⟩ (Ee ⟨(Cd (Da ((Dr (A5 B 0) (B.extract yq7.toNat (yq7 + nq7).toNat)).fBody)) (by decide)), (Ee ⟨(Cd (Da ((Dr (A5 B 0) (B.extract yq7.toNat (yq7 + nq7).toNat)).fWBody)) (by decide)), (Ht ⟨(Cd (Da ((Dr (A5 B 0) (B.extract yq7.toNat (yq7 + nq7).toNat)).fPass)) (by decide)), (Fn ⟨(Cd (K8 ((Dr (A5 B 0) (B.extract yq7.toNat (yq7 + nq7).toNat)).fWants)) (by decide)), ⟨(Cd (V4 ((Dr (A5 B 0) (B.extract yq7.toNat (yq7 + nq7).toNat)).fNames)) (by decide)), ⟨(Cd (Y4 ((Dr (A5 B 0) (B.extract yq7.toNat (yq7 + nq7).toNat)).fCodes)) (by decide)), trivial⟩⟩⟩)⟩)⟩)⟩)), (Fn trivial)⟩) ?_
 have e : Fd Dr B = ((Dr (A5 B 0) (B.extract yq7.toNat (yq7 + nq7).toNat)), (yq7 + nq7), 0) := by
  unfold Fd E6 E5; simp only [h3, h6, h9, h10, h12, h44, h48, q7, if_true, if_false, zaa, reduceIte, Cw]
 rw [e]
 rfl
 refine As (nT h48) (Bg (cs := E2) rfl (Ci (cs' := E2) s47 zP8 (Ak rfl) rfl (Cn rfl) rfl fun H s50 => At s50 (.here) rfl (Ai (Cl s50 rfl (.agg ⟨_, rfl, rfl⟩ (Ed (.nl (Ed (.nl (Hs (.nl (.sc (.sc (.nl (.nl (.nl .nil))))))))))) (.sc (.sc .nil))) ⟨(L6 ⟨_, rfl, rfl⟩ (Ee ⟨(Am ⟨_, _, rfl, rfl⟩), (Ee ⟨(Am ⟨_, _, rfl, rfl⟩), (Ht ⟨(Am ⟨_, _, rfl, rfl⟩), (Fn ⟨(Am ⟨_, _, rfl, rfl⟩), ⟨(Am ⟨_, _, rfl, rfl⟩), ⟨(Am ⟨_, _, rfl, rfl⟩), trivial⟩⟩⟩)⟩)⟩)⟩)), (Fn trivial)⟩) ?_)))
 have e : Fd Dr B = ((Ce 0), 0, 2) := by
  unfold Fd E6 E5; simp only [h3, h6, h9, h10, h12, h44, h48, q7, if_true, if_false, zaa, reduceIte, Cw]
 rw [e]
 rfl
 refine Ac (nT h44) (Ac (nT h44) (Ac (nT h44) (Ac (nT h44) (Ac (nT h44) (Ac (nT h44) (Ac (nT h44) (Ac (nT h44) (Ac (nT h44) (B4 (nT h44) (As rfl (Bg (cs := E2) rfl (Ci (cs' := E2) s43 zP7 (Ak rfl) rfl (Cn rfl) rfl fun H s51 => At s51 (.here) rfl (Ai (Cl s51 rfl (.agg ⟨_, rfl, rfl⟩ (Ed (.nl (Ed (.nl (Hs (.nl (.sc (.sc (.nl (.nl (.nl .nil))))))))))) (.sc (.sc .nil))) ⟨(L6 ⟨_, rfl, rfl⟩ (Ee ⟨(Am ⟨_, _, rfl, rfl⟩), (Ee ⟨(Am ⟨_, _, rfl, rfl⟩), (Ht ⟨(Am ⟨_, _, rfl, rfl⟩), (Fn ⟨(Am ⟨_, _, rfl, rfl⟩), ⟨(Am ⟨_, _, rfl, rfl⟩), ⟨(Am ⟨_, _, rfl, rfl⟩), trivial⟩⟩⟩)⟩)⟩)⟩)), (Fn trivial)⟩) ?_)))))))))))))
 have e : Fd Dr B = ((Ce 0), 0, 2) := by
  unfold Fd E6 E5; simp only [h3, h6, h9, h10, h12, h44, q7, if_true, if_false, zaa, reduceIte, Cw]
 rw [e]
 rfl
 have dh9 := of_decide_eq_false h9
 refine As (nT h9) (Bg (cs := E2) rfl (Ci (cs' := E2) s8 (.here) (Ak rfl) rfl (Cn rfl) rfl fun H s52 => At s52 (.here) rfl (Ai (Cl s52 rfl (.agg ⟨_, rfl, rfl⟩ (Ed (.nl (Ed (.nl (Hs (.nl (.sc (.sc (.nl (.nl (.nl .nil))))))))))) (.sc (.sc .nil))) ⟨(L6 ⟨_, rfl, rfl⟩ (Ee ⟨(Am ⟨_, _, rfl, rfl⟩), (Ee ⟨(Am ⟨_, _, rfl, rfl⟩), (Ht ⟨(Am ⟨_, _, rfl, rfl⟩), (Fn ⟨(Am ⟨_, _, rfl, rfl⟩), ⟨(Am ⟨_, _, rfl, rfl⟩), ⟨(Am ⟨_, _, rfl, rfl⟩), trivial⟩⟩⟩)⟩)⟩)⟩)), (Fn trivial)⟩) ?_)))
 have e : Fd Dr B = ((Ce 0), 0, cq7) := by
  unfold Fd E6 E5; simp only [h3, h6, h9, q7, if_true, if_false, zaa, reduceIte, Cw]
 rw [e]
 rfl
 refine As (nT h6) (Bg (cs := E2) rfl (Ci (cs' := E2) s2 (.here) (Ak rfl) rfl (Cn rfl) rfl fun H s53 => At s53 (.here) rfl (Ai (Cl s53 rfl (.agg ⟨_, rfl, rfl⟩ (Ed (.nl (Ed (.nl (Hs (.nl (.sc (.sc (.nl (.nl (.nl .nil))))))))))) (.sc (.sc .nil))) ⟨(L6 ⟨_, rfl, rfl⟩ (Ee ⟨(Am ⟨_, _, rfl, rfl⟩), (Ee ⟨(Am ⟨_, _, rfl, rfl⟩), (Ht ⟨(Am ⟨_, _, rfl, rfl⟩), (Fn ⟨(Am ⟨_, _, rfl, rfl⟩), ⟨(Am ⟨_, _, rfl, rfl⟩), ⟨(Am ⟨_, _, rfl, rfl⟩), trivial⟩⟩⟩)⟩)⟩)⟩)), (Fn trivial)⟩) ?_)))
 have e : Fd Dr B = ((Ce 0), 0, 2) := by
  unfold Fd E6 E5; simp only [h3, h6, if_true, if_false, zaa, reduceIte, Cw]
 rw [e]
 rfl
end
end Go.Proofs.YtlcpigdmekgajaaGreatDoor.Abs
