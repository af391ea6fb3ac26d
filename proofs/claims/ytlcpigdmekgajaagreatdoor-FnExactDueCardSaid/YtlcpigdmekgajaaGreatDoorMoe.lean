/- What the proof needs, part 5: a sound evaluator over trees, the program's functions on it, and what they come to. -/
import Derived.Test.YtlcpigdmekgajaaGreatDoorMod
import Derived.Laws.BitsLemmas
set_option linter.unusedVariables false
set_option linter.unusedSimpArgs false
set_option maxRecDepth 100000
set_option maxHeartbeats 32000000
namespace Go.Proofs.YtlcpigdmekgajaaGreatDoor.Abs
open _root_.Bool renaming false_eq_true → zaa, and_eq_true → zae, not_true → zax, not_false → za0, true_and → za5, false_or → zaC, false_and → zaH, or_eq_true → zaP, and_true → zaS, true_or → zbg, and_false → zbn, or_false → zb4, or_true → zbL
open _root_.Option renaming bind_some → zac
open _root_.List renaming length_append → zaf, nil_append → zag, replicate → zah, append_assoc → zai, length_cons → zal, append_nil → zan, length_nil → zao, length_singleton → zaq, all_cons → zas, map_cons → zat, cons_append → zau, mem_cons_of_mem → zay, mem_cons_self → za1, map_append → za2, flatten_cons → za3, mapM_cons → za4, all_nil → za7, map_nil → zaB, mem_append → zaV, take_of_length_le → zaY, foldl_cons → zbe, foldl_append → zbi, mem_singleton → zbk, getD_eq_getElem?_getD → zbv, foldl_nil → zbz, drop_drop → zb6
open _root_.ByteArray renaming size_append → zaj, size_extract → zaw, size → zaJ, data_append → zby, data_push → zbD
open _root_.Nat renaming le_refl → zap, zero_le → zaz, le_trans → za9, mul_one → zbs, add_mul → zbH
open _root_.Array renaming ext' → zbf
open _root_.Int renaming tmod_eq_emod_of_nonneg → zaD, eq_ofNat_of_zero_le → zbm, toNat_natCast → zbo, add_comm → zbM
section
open Go
def Cm (w : WantV) : Bool := B0 w.fFilter && Bw w.fQos 0 2
def Ch (c : Int) : Bool := Bw c 0 2 || decide (c = 128)
def Gr (p : PacketV) : Bool := Bw (((p.fWants.length : Nat) : Int) + ((p.fNames.length : Nat) : Int) + ((p.fCodes.length : Nat) : Int)) 1 4
def Jw (p : PacketV) : Bool := p.fCodes.all Ch && Gr p
def I6 (p : PacketV) : Bool := p.fNames.all B0 && Jw p
def E4 (p : PacketV) : Bool := p.fWants.all Cm && I6 p
def Hy (p : PacketV) : Bool := (Bw p.fLevel 0 255 && (Bd p.fClient && (Bw p.fKeep 0 65535 && ((!p.fHasWill || (Co p.fWTopic && (decide (((p.fWBody.size : Nat) : Int) ≤ 40) && Bw p.fWQos 0 2))) && (Bd p.fUser && decide (((p.fPass.size : Nat) : Int) ≤ 60))))))
def Cs (p : PacketV) : Bool :=
 if p.fType = 1 then Hy p
 else if p.fType = 2 then Bw p.fCode 0 5 && (!p.fPresent || decide (p.fCode = 0))
 else if p.fType = 3 then Bw p.fQos 0 2 && (Co p.fTopic && (decide (((p.fBody.size : Nat) : Int) ≤ 40) && (decide (p.fQos = 0) || Bw p.fId 1 65535)))
 else if p.fType = 4 ∨ p.fType = 5 ∨ p.fType = 6 ∨ p.fType = 7 ∨ p.fType = 11 then Bw p.fId 1 65535
 else if p.fType = 8 ∨ p.fType = 9 ∨ p.fType = 10 then Bw p.fId 1 65535 && E4 p
 else true
def Ah (p : PacketV) : Bool := Bw p.fType 1 14 && (Cl p (A0 false p) && Cs p)
structure G8 (p : PacketV) : Prop where
 t1 : p.fTopic.size ≤ 1048576
 t2 : p.fClient.size ≤ 1048576
 t3 : p.fWTopic.size ≤ 1048576
 t4 : p.fUser.size ≤ 1048576
 l1 : p.fWants.length ≤ 1048576
 l2 : p.fNames.length ≤ 1048576
 l3 : p.fCodes.length ≤ 1048576
 w1 : ∀ y ∈ p.fWants, y.fFilter.size ≤ 1048576
 w2 : ∀ y ∈ p.fNames, y.size ≤ 1048576
theorem Am1 (p : PacketV) (b : Db p ≤ 1048576) : G8 p := by
 unfold Db at b
 have e1 := J3 H6 p.fWants
 have e2 := J3 zaJ p.fNames
 refine ⟨by omega, by omega, by omega, by omega, by omega, by omega, by omega, fun y hy => ?_, fun y hy => ?_⟩
 have := M8 (wt := H6) hy
 have h3 : H6 y = y.fFilter.size + 0 := rfl
 omega
 have := M8 (wt := zaJ) hy
 omega
theorem Ow {s : ByteArray} (h : s.size ≤ 1048576) : Sq s := by unfold Sq; omega
theorem H3 (n : Nat) (i : Int) : Bz E0 (n + 2) 4 109 [.sc (.int .i64 i)] = some (.sc (.bool (Bw i 1 65535))) := by
 rw [At, Aiv, f109]
 refine Ce (G := (· = some (sb (Bw i 1 65535)))) ?_
 try simp only [Fc, Fb]
 have s0 : Sep [] [] := B5
 refine Ao (v := (.bool (Bw i 1 65535))) s0 rfl (Pg .nil) (I7 n _ i 1 65535) (Ai rfl ?_)
 rfl
theorem Sj (n : Nat) (i : Int) : Bz E0 (n + 2) 4 107 [.sc (.int .i64 i)] = some (.sc (.bool (Bw i 0 2))) := by
 rw [At, Ac1, f107]
 refine Ce (G := (· = some (sb (Bw i 0 2)))) ?_
 try simp only [Fc, Fb]
 have s0 : Sep [] [] := B5
 refine Ao (v := (.bool (Bw i 0 2))) s0 rfl (Pg .nil) (I7 n _ i 0 2) (Ai rfl ?_)
 rfl
theorem AaA (n : Nat) (i : Int) : Bz E0 (n + 2) 4 118 [.sc (.int .i64 i)] = some (.sc (.bool (Bw i 0 65535))) := by
 rw [At, Ai4, f118]
 refine Ce (G := (· = some (sb (Bw i 0 65535)))) ?_
 try simp only [Fc, Fb]
 have s0 : Sep [] [] := B5
 refine Ao (v := (.bool (Bw i 0 65535))) s0 rfl (Pg .nil) (I7 n _ i 0 65535) (Ai rfl ?_)
 rfl
theorem Vd (n : Nat) (hn : 1048576 < n) (p : PacketV) (hp : G8 p) : Bz E0 (n + 6) 4 106 [.agg (Ap p)] = some (.sc (.bool (Hy p))) := by
 rw [At, Ait, f106]
 refine Ce (G := (· = some (sb (Hy p)))) ?_
 try simp only [Fc, Fb]
 have s0 : Sep [] [] := B5
 refine Id s0 (D0 (Cf _)) fun i1 H s2 => Qy (Al (c := sb p.fHasWill) s2 (.here) rfl (B4 ?_))
 apply Aw ((!p.fHasWill) || (((Co p.fWTopic) && (decide (((p.fWBody.size : Nat) : Int) ≤ 40))) && (Bw p.fWQos 0 2)))
 intro b3 q3
 refine Aa (p.fHasWill) (fun h3 => ?_) fun h3 => ?_
 refine Ad (nF h3) (V5 (Ad (nF h3) (Al (c := ss p.fWTopic) s2 (.here) rfl (Ad (nF h3) (Ao (v := (.bool (Co p.fWTopic))) s2 rfl (.cons .sc .nil) (Oq n (by omega) _ p.fWTopic hp.t3) (Ad (nF h3) ?_))))))
 apply Aw ((Co p.fWTopic) && (decide (((p.fWBody.size : Nat) : Int) ≤ 40)))
 intro b4 q4
 refine Aa ((Co p.fWTopic)) (fun h4 => ?_) fun h4 => ?_
 exact Ad h4 (V6 (Ad h4 (Al (c := Af p.fWBody) s2 (.here) rfl (Ad h4 (Cn (Ad h4 (O5 (Ad (nF h3) (Bs h4 (Ea q4 h4) Aj)))))))))
 exact Ab h4 (Ab h4 (Ab h4 (Ab h4 (Ad (nF h3) (Br h4 (D9 q4 h4) Aj)))))
 intro b4 q4
 refine Ad (nF h3) ?_
 apply Aw (b4 && (Bw p.fWQos 0 2))
 intro b5 q5
 refine Aa (b4) (fun h5 => ?_) fun h5 => ?_
 exact Ad h5 (V7 (Ad h5 (Al (c := si p.fWQos) s2 (.here) rfl (Ad h5 (Ao (v := (.bool (Bw p.fWQos 0 2))) s2 rfl (.cons .sc .nil) (Sj (n + 3) p.fWQos) (Ad (nF h3) (Bs h5 (Ea q5 h5) Aj)))))))
 exact Ab h5 (Ab h5 (Ab h5 (Ad (nF h3) (Br h5 (D9 q5 h5) Aj))))
 intro b5 q5
 exact Br (nF h3) (by subst q5 q4; exact Yk q3 (nF h3)) Aj
 exact Ab (nT h3) (Ab (nT h3) (Ab (nT h3) (Ab (nT h3) (Dj (Dj (Dj (Dj (Ab (nT h3) (Ab (nT h3) (Dj (Dj (Dj (Ab (nT h3) (Bs (nT h3) (Yl q3 (nT h3)) Aj))))))))))))))
 intro b3 q3
 refine gf8 (Al (c := si p.fLevel) s2 (.here) rfl (Ao (v := (.bool (Bw p.fLevel 0 255))) s2 rfl (Pg .nil) (I7 (n + 4) _ p.fLevel 0 255) ?_))
 apply Aw ((Bw p.fLevel 0 255) && (Bd p.fClient))
 intro b6 q6
 refine Aa ((Bw p.fLevel 0 255)) (fun h6 => ?_) fun h6 => ?_
 exact Ad h6 (gf7 (Ad h6 (Al (c := ss p.fClient) s2 (.here) rfl (Ad h6 (Th rfl rfl (L6 _ p.fClient (Ow hp.t2)) (Bs h6 (Ea q6 h6) Aj))))))
 exact Ab h6 (Ab h6 (Ab h6 (Br h6 (D9 q6 h6) Aj)))
 intro b6 q6
 apply Aw (b6 && (Bw p.fKeep 0 65535))
 intro b7 q7
 refine Aa (b6) (fun h7 => ?_) fun h7 => ?_
 exact Ad h7 (V4 (Ad h7 (Al (c := si p.fKeep) s2 (.here) rfl (Ad h7 (Ao (v := (.bool (Bw p.fKeep 0 65535))) s2 rfl (.cons .sc .nil) (AaA (n + 3) p.fKeep) (Bs h7 (Ea q7 h7) Aj))))))
 exact Ab h7 (Ab h7 (Ab h7 (Br h7 (D9 q7 h7) Aj)))
 intro b7 q7
 apply Aw (b7 && b3)
 intro b8 q8
 refine Aa (b7) (fun h8 => ?_) fun h8 => ?_
 exact Ad h8 (Bs h8 (Ea q8 h8) Aj)
 exact Ab h8 (Br h8 (D9 q8 h8) Aj)
 intro b8 q8
 apply Aw (b8 && (Bd p.fUser))
 intro b9 q9
 refine Aa (b8) (fun h9 => ?_) fun h9 => ?_
 exact Ad h9 (Pw (Ad h9 (Al (c := ss p.fUser) s2 (.here) rfl (Ad h9 (Th rfl rfl (L6 _ p.fUser (Ow hp.t4)) (Bs h9 (Ea q9 h9) Aj))))))
 exact Ab h9 (Ab h9 (Ab h9 (Br h9 (D9 q9 h9) Aj)))
 intro b9 q9
 apply Aw (b9 && (decide (((p.fPass.size : Nat) : Int) ≤ 60)))
 intro b10 q10
 refine Aa (b9) (fun h10 => ?_) fun h10 => ?_
 exact Ad h10 (Nf (Ad h10 (Al (c := Af p.fPass) s2 (.here) rfl (Ad h10 (Cn (Ad h10 (O5 (Bs h10 (Ea q10 h10) Aj))))))))
 exact Ab h10 (Ab h10 (Ab h10 (Ab h10 (Br h10 (D9 q10 h10) Aj))))
 intro b10 q10
 refine Ai rfl ?_
 have e : Hy p = b10 := by
  unfold Hy
  simp only [q3, q6, q7, q8, q9, q10, Bool.and_assoc]
 rw [e]
theorem P0 (n : Nat) (hn : 1048576 < n) (p : PacketV) (hp : G8 p)   : ∀ (t pre : List Int) (m : Nat) (i : Int) (i1 : Nat) (H : Ac), p.fCodes = pre ++ t → i = ((pre.length : Nat) : Int) → t.length < m → Sep H [.blk i1 (Ap p) true] → Gd (· = some (.sc (.bool (t.all Ch && Gr p)))) (Oe (PR (n + 6) AV) (n + 6) (fun x H => Bc As E0.tp 4 H x) m (.ptr i1 0) (Ei p.fCodes) (.sc (.int .i64 ((p.fCodes.length : Nat) : Int))) (.sc (.int .i64 i)) H)
 | [], pre, m + 1, i, i1, H, he, hi, hm, s0 => by
  obtain rfl : pre = p.fCodes := by simpa using he.symm
  have hl1 := hp.l1
  have hl2 := hp.l2
  have hl3 := hp.l3
  have hlen := hp.l3
  rw [Oe]
  try simp only [Fc, Fb]
  refine Dd (Av (by simp [hi]) (Ky (Al (c := Ci Bn p.fWants) s0 (.here) rfl (Cn (K9 (Al (c := Ee p.fNames) s0 (.here) rfl (Cn (Bx (by omega) (by omega) (La (Al (c := Ei p.fCodes) s0 (.here) rfl (Cn (Bx (by omega) (by omega) (Ao (v := (.bool (Bw ((((p.fWants.length : Nat) : Int) + ((p.fNames.length : Nat) : Int)) + ((p.fCodes.length : Nat) : Int)) 1 4))) s0 rfl (Pg .nil) (I7 (n + 5) _ ((((p.fWants.length : Nat) : Int) + ((p.fNames.length : Nat) : Int)) + ((p.fCodes.length : Nat) : Int)) 1 4) (Ai rfl ?_))))))))))))))
  have e : ([].all Ch && Gr p) = (Bw ((((p.fWants.length : Nat) : Int) + ((p.fNames.length : Nat) : Int)) + ((p.fCodes.length : Nat) : Int)) 1 4) := by
   simp only [zas, za7, Cm, Ch, Gr, Dv]
  rw [e]
 | y :: t, pre, m + 1, i, i1, H, he, hi, hm, s0 => by
  have hlt : pre.length < p.fCodes.length := by rw [he]; simp
  have hl1 := hp.l1
  have hl2 := hp.l2
  have hl3 := hp.l3
  have hlen := hp.l3
  rw [Oe]
  try simp only [Fc, Fb]
  refine Dd (Aq (by simp [hi]; omega) (Kk hi he (Fh (c := .sc (.int .i64 y)) rfl (Ao (v := (.bool (Bw y 0 2))) s0 rfl (.cons .sc .nil) (Sj (n + 4) y) (B4 (Aa ((Bw y 0 2)) (fun h201 => ?_) fun h201 => ?_))))))
  refine Ab (nF h201) (Ab (nF h201) (Dq (nF h201) (Av rfl (Bx (by omega) (by omega) ?_))))
  have e202 : ((y :: t).all Ch && Gr p) = (t.all Ch && Gr p) := by
   simp only [zas, Cm, Ch, h201, za5, zaS, zaC, zb4, zbg, zbL, zaH, zax, za0]
  rw [e202]
  exact P0 n hn p hp   t (pre ++ [y]) m _ i1 _ (by rw [he]; simp) (by rw [hi]; simp) (by simpa using hm) (by simpa only [za2, zat, zaB] using (s0.sel (.cons (.here) .nil)))
  refine Ad (nT h201) (Ad (nT h201) (Lh (Ef (nT h201) (Aa ((decide (y = 128))) (fun h203 => ?_) fun h203 => ?_))))
  refine Av (nF h203) (Bx (by omega) (by omega) ?_)
  have e204 : ((y :: t).all Ch && Gr p) = (t.all Ch && Gr p) := by
   simp only [zas, Cm, Ch, h201, h203, za5, zaS, zaC, zb4, zbg, zbL, zaH, zax, za0]
  rw [e204]
  exact P0 n hn p hp   t (pre ++ [y]) m _ i1 _ (by rw [he]; simp) (by rw [hi]; simp) (by simpa using hm) (by simpa only [za2, zat, zaB] using (s0.sel (.cons (.here) .nil)))
  refine Aq (nT h203) (Ai rfl ?_)
  have e : ((y :: t).all Ch && Gr p) = false := by
   simp only [zas, za7, Cm, Ch, Gr, h201, h203, Dv]
  rw [e]
theorem Ue (n : Nat) (hn : 1048576 < n) (p : PacketV) (hp : G8 p)   : ∀ (t pre : List ByteArray) (m : Nat) (i : Int) (i1 : Nat) (H : Ac), p.fNames = pre ++ t → i = ((pre.length : Nat) : Int) → t.length < m → Sep H [.blk i1 (Ap p) true] → Gd (· = some (.sc (.bool (t.all B0 && Jw p)))) (Lm (PR (n + 6) AV) (n + 6) (fun x H => Bc As E0.tp 4 H x) m (.ptr i1 0) (Ee p.fNames) (.sc (.int .i64 ((p.fNames.length : Nat) : Int))) (.sc (.int .i64 i)) H)
 | [], pre, m + 1, i, i1, H, he, hi, hm, s0 => by
  obtain rfl : pre = p.fNames := by simpa using he.symm
  have hl1 := hp.l1
  have hl2 := hp.l2
  have hl3 := hp.l3
  have hlen := hp.l2
  rw [Lm]
  try simp only [Fc, Fb]
  refine Dd (Av (by simp [hi]) (La (Al (c := Ei p.fCodes) s0 (.here) rfl (Cn ?_))))
  rw [za7, za5]
  have hv : Jw p = (p.fCodes.all Ch && Gr p) := rfl
  rw [hv]
  exact P0 n hn p hp   p.fCodes [] _ 0 i1 _ rfl rfl (by omega) s0
 | y :: t, pre, m + 1, i, i1, H, he, hi, hm, s0 => by
  have hlt : pre.length < p.fNames.length := by rw [he]; simp
  have hl1 := hp.l1
  have hl2 := hp.l2
  have hl3 := hp.l3
  have hlen := hp.l2
  rw [Lm]
  try simp only [Fc, Fb]
  refine Dd (Aq (by simp [hi]; omega) (N3 hi he (Fh (c := .sc (.string y)) rfl (Ao (v := (.bool (B0 y))) s0 rfl (.cons .sc .nil) (T9 n (by omega) y (hp.w2 y (by rw [he]; simp)) (Ow (hp.w2 y (by rw [he]; simp)))) (B4 (Aa ((B0 y)) (fun h201 => ?_) fun h201 => ?_))))))
  refine Av (nF h201) (Bx (by omega) (by omega) ?_)
  have e202 : ((y :: t).all B0 && Jw p) = (t.all B0 && Jw p) := by
   simp only [zas, Cm, Ch, h201, za5, zaS, zaC, zb4, zbg, zbL, zaH, zax, za0]
  rw [e202]
  exact Ue n hn p hp   t (pre ++ [y]) m _ i1 _ (by rw [he]; simp) (by rw [hi]; simp) (by simpa using hm) (by simpa only [za2, zat, zaB] using (s0.sel (.cons (.here) .nil)))
  refine Aq (nT h201) (Ai rfl ?_)
  have e : ((y :: t).all B0 && Jw p) = false := by
   simp only [zas, za7, Cm, Ch, Gr, h201, Dv]
  rw [e]
theorem Ud (n : Nat) (hn : 1048576 < n) (p : PacketV) (hp : G8 p)   : ∀ (t pre : List WantV) (m : Nat) (i : Int) (i1 : Nat) (H : Ac), p.fWants = pre ++ t → i = ((pre.length : Nat) : Int) → t.length < m → Sep H [.blk i1 (Ap p) true] → Gd (· = some (.sc (.bool (t.all Cm && I6 p)))) (Ll (PR (n + 6) AV) (n + 6) (fun x H => Bc As E0.tp 4 H x) m (.ptr i1 0) (Ci Bn p.fWants) (.sc (.int .i64 ((p.fWants.length : Nat) : Int))) (.sc (.int .i64 i)) H)
 | [], pre, m + 1, i, i1, H, he, hi, hm, s0 => by
  obtain rfl : pre = p.fWants := by simpa using he.symm
  have hl1 := hp.l1
  have hl2 := hp.l2
  have hl3 := hp.l3
  have hlen := hp.l1
  rw [Ll]
  try simp only [Fc, Fb]
  refine Dd (Av (by simp [hi]) (K9 (Al (c := Ee p.fNames) s0 (.here) rfl (Cn ?_))))
  rw [za7, za5]
  have hv : I6 p = (p.fNames.all B0 && Jw p) := rfl
  rw [hv]
  exact Ue n hn p hp   p.fNames [] _ 0 i1 _ rfl rfl (by omega) s0
 | y :: t, pre, m + 1, i, i1, H, he, hi, hm, s0 => by
  have hlt : pre.length < p.fWants.length := by rw [he]; simp
  have hl1 := hp.l1
  have hl2 := hp.l2
  have hl3 := hp.l3
  have hlen := hp.l1
  rw [Ll]
  try simp only [Fc, Fb]
  refine Dd (Aq (by simp [hi]; omega) (K8 hi Gf (by decide) he (AcN (Gf _) (Ie s0 fun i201 H s202 => Ca (cs' := Bn y) s202 (.here) (D0 (Nc _)) rfl (B9 rfl) rfl fun H s203 => N9 (Al (c := .sc (.string y.fFilter)) s203 (.here) rfl (Ao (v := (.bool (B0 y.fFilter))) s203 rfl (.cons .sc .nil) (T9 n (by omega) y.fFilter (hp.w1 y (by rw [he]; simp)) (Ow (hp.w1 y (by rw [he]; simp)))) (B4 (Aa ((B0 y.fFilter)) (fun h204 => ?_) fun h204 => ?_))))))))
  refine Ad (nF h204) (V3 (Ad (nF h204) (Al (c := si y.fQos) s203 (.here) rfl (Ad (nF h204) (Ao (v := (.bool (Bw y.fQos 0 2))) s203 rfl (.cons .sc .nil) (Sj (n + 4) y.fQos) (Ad (nF h204) (B4 (Dq (nF h204) (Aa ((Bw y.fQos 0 2)) (fun h205 => ?_) fun h205 => ?_)))))))))
  refine Av (nF h205) (Bx (by omega) (by omega) ?_)
  have e206 : ((y :: t).all Cm && I6 p) = (t.all Cm && I6 p) := by
   simp only [zas, Cm, Ch, h204, h205, za5, zaS, zaC, zb4, zbg, zbL, zaH, zax, za0]
  rw [e206]
  exact Ud n hn p hp   t (pre ++ [y]) m _ i1 _ (by rw [he]; simp) (by rw [hi]; simp) (by simpa using hm) (by simpa only [za2, zat, zaB] using (s203.sel (.cons Ct .nil)))
  refine Aq (nT h205) (Ai rfl ?_)
  have e : ((y :: t).all Cm && I6 p) = false := by
   simp only [zas, za7, Cm, Ch, Gr, h204, h205, Dv]
  rw [e]
  refine Ab (nT h204) (Ab (nT h204) (Ab (nT h204) (Ab (nT h204) (Ef (nT h204) (Aq rfl (Ai rfl ?_))))))
  have e : ((y :: t).all Cm && I6 p) = false := by
   simp only [zas, za7, Cm, Ch, Gr, h204, Dv]
  rw [e]
theorem Nw (n : Nat) (hn : 1048576 < n) (p : PacketV) (hp : G8 p) : Bz E0 (n + 7) 4 110 [.agg (Ap p)] = some (.sc (.bool (E4 p))) := by
 rw [At, Aiw, f110]
 refine Ce (G := (· = some (sb (E4 p)))) ?_
 have hl1 := hp.l1
 have hl2 := hp.l2
 have hl3 := hp.l3
 try simp only [Fc, Fb]
 have s0 : Sep [] [] := B5
 refine Id s0 (D0 (Cf _)) fun i1 H s2 => Ky (Al (c := Ci Bn p.fWants) s2 (.here) rfl (Cn ?_))
 have hv : E4 p = (p.fWants.all Cm && I6 p) := rfl
 rw [hv]
 exact Ud n hn p hp   p.fWants [] _ 0 i1 _ rfl rfl (by omega) s2
theorem Ql (n : Nat) (hn : 1048576 < n) (p : PacketV) (hp : G8 p) : Bz E0 (n + 10) 4 70 [.agg (Ap p)] = some (.sc (.bool (Ah p))) := by
 rw [At, AlD, f70]
 refine Ce (G := (· = some (sb (Ah p)))) ?_
 try simp only [Fc, Fb]
 have s0 : Sep [] [] := B5
 refine Id s0 (D0 (Cf _)) fun i1 H s2 => N9 (Al (c := si p.fType) s2 (.here) rfl (Ao (v := (.bool (Bw p.fType 1 14))) s2 rfl (Pg .nil) (I7 (n + 8) _ p.fType 1 14) (B4 (Aa ((Bw p.fType 1 14)) (fun h3 => ?_) fun h3 => ?_))))
 refine Ad (nF h3) (Ar s2 (.here) rfl (Gd.bothE ?_ ?_))
 refine Ad (nF h3) (Ar s2 (.here) rfl (Ad (nF h3) (Kg rfl rfl (V9 (n + 8) (by omega) p s2 fun Rs4 H hRs4 s4 => Ad (nF h3) (Ao (v := (.bool (Cl p (A0 false p)))) s4 rfl (.aggF (Cf _) (.agg (hRs4 _) .nil)) (O6 (n + 7) (by omega) _ p (A0 false p) hp.l1 hp.l2 hp.l3) (Ad (nF h3) (B4 (Dq (nF h3) (Aa ((Cl p (A0 false p))) (fun h5 => ?_) fun h5 => ?_)))))))))
 refine Av (nF h5) (N9 (Al (c := si p.fType) s4 (.here) rfl (A2 (Aa ((decide (p.fType = 1))) (fun h6 => ?_) fun h6 => ?_))))
 refine Aq h6 (Ar s4 (.here) rfl (Ao (v := (.bool (Hy p))) s4 rfl (.aggF (Cf _) .nil) (Vd (n + 3) (by omega) p hp) (Ai rfl ?_)))
 have e : Ah p = (Hy p) := by
  try simp only [Cw] at h6
  unfold Ah Cs
  simp only [h3, h5, Dv]; simp [h6]
 rw [e]
 refine Av h6 (A2 (Aa ((decide (p.fType = 2))) (fun h7 => ?_) fun h7 => ?_))
 refine Aq h7 (Ro (Al (c := si p.fCode) s4 (.here) rfl (Ao (v := (.bool (Bw p.fCode 0 5))) s4 rfl (Pg .nil) (I7 (n + 8) _ p.fCode 0 5) ?_)))
 apply Aw ((Bw p.fCode 0 5) && ((!p.fPresent) || (decide (p.fCode = 0))))
 intro b8 q8
 refine Aa ((Bw p.fCode 0 5)) (fun h8 => ?_) fun h8 => ?_
 refine Ad h8 (V8 (Ad h8 (Al (c := sb p.fPresent) s4 (.here) rfl (Ad h8 (B4 (Ad h8 ?_))))))
 apply Aw ((!p.fPresent) || (decide (p.fCode = 0)))
 intro b9 q9
 refine Aa (p.fPresent) (fun h9 => ?_) fun h9 => ?_
 exact Ad (nF h9) (Ro (Ad (nF h9) (Al (c := si p.fCode) s4 (.here) rfl (Ad (nF h9) (A2 (Ad h8 (Br (nF h9) (Yk q9 (nF h9)) Aj)))))))
 exact Ab (nT h9) (Ab (nT h9) (Ab (nT h9) (Ad h8 (Bs (nT h9) (Yl q9 (nT h9)) Aj))))
 intro b9 q9
 exact Bs h8 (by subst q9; exact Ea q8 h8) Aj
 exact Ab h8 (Ab h8 (Ab h8 (Ab h8 (Dj (Dj (Dj (Ab h8 (Br h8 (D9 q8 h8) Aj))))))))
 intro b8 q8
 refine Ai rfl ?_
 have e : Ah p = b8 := by
  try simp only [Cw] at h6 h7
  unfold Ah Cs
  simp only [h3, h5, q8, Dv]; simp [h6, h7]
 rw [e]
 refine Av h7 (A2 (Aa ((decide (p.fType = 3))) (fun h10 => ?_) fun h10 => ?_))
 refine Aq h10 (Pe (Al (c := si p.fQos) s4 (.here) rfl (Ao (v := (.bool (Bw p.fQos 0 2))) s4 rfl (.cons .sc .nil) (Sj (n + 7) p.fQos) ?_)))
 apply Aw ((Bw p.fQos 0 2) && (Co p.fTopic))
 intro b11 q11
 refine Aa ((Bw p.fQos 0 2)) (fun h11 => ?_) fun h11 => ?_
 exact Ad h11 (gf5 (Ad h11 (Al (c := ss p.fTopic) s4 (.here) rfl (Ad h11 (Ao (v := (.bool (Co p.fTopic))) s4 rfl (.cons .sc .nil) (Oq (n + 4) (by omega) _ p.fTopic hp.t1) (Bs h11 (Ea q11 h11) Aj))))))
 exact Ab h11 (Ab h11 (Ab h11 (Br h11 (D9 q11 h11) Aj)))
 intro b11 q11
 apply Aw (b11 && (decide (((p.fBody.size : Nat) : Int) ≤ 40)))
 intro b12 q12
 refine Aa (b11) (fun h12 => ?_) fun h12 => ?_
 exact Ad h12 (gf6 (Ad h12 (Al (c := Af p.fBody) s4 (.here) rfl (Ad h12 (Cn (Ad h12 (O5 (Bs h12 (Ea q12 h12) Aj))))))))
 exact Ab h12 (Ab h12 (Ab h12 (Ab h12 (Br h12 (D9 q12 h12) Aj))))
 intro b12 q12
 apply Aw (b12 && ((decide (p.fQos = 0)) || (Bw p.fId 1 65535)))
 intro b13 q13
 refine Aa (b12) (fun h13 => ?_) fun h13 => ?_
 refine Ad h13 (Pe (Ad h13 (Al (c := si p.fQos) s4 (.here) rfl (Ad h13 (A2 (Ad h13 ?_))))))
 apply Aw ((decide (p.fQos = 0)) || (Bw p.fId 1 65535))
 intro b14 q14
 refine Aa ((decide (p.fQos = 0))) (fun h14 => ?_) fun h14 => ?_
 exact Ab h14 (Ab h14 (Ab h14 (Ad h13 (Bs h14 (Yl q14 h14) Aj))))
 exact Ad h14 (Iu (Ad h14 (Al (c := si p.fId) s4 (.here) rfl (Ad h14 (Ao (v := (.bool (Bw p.fId 1 65535))) s4 rfl (.cons .sc .nil) (H3 (n + 7) p.fId) (Ad h13 (Br h14 (Yk q14 h14) Aj)))))))
 intro b14 q14
 exact Bs h13 (by subst q14; exact Ea q13 h13) Aj
 exact Ab h13 (Ab h13 (Ab h13 (Ab h13 (Dj (Dj (Dj (Ab h13 (Br h13 (D9 q13 h13) Aj))))))))
 intro b13 q13
 refine Ai rfl ?_
 have e : Ah p = b13 := by
  try simp only [Cw] at h6 h7 h10
  unfold Ah Cs
  (simp only [h3, h5, Dv]; grind)
 rw [e]
 refine Av h10 (A2 (De (Aa ((decide (p.fType = 4))) (fun h15 => ?_) fun h15 => ?_)))
 refine Aq h15 (Aq h15 (Iu (Al (c := si p.fId) s4 (.here) rfl (Ao (v := (.bool (Bw p.fId 1 65535))) s4 rfl (.cons .sc .nil) (H3 (n + 7) p.fId) (Ai rfl ?_)))))
 have e : Ah p = (Bw p.fId 1 65535) := by
  try simp only [Cw] at h6 h7 h10 h15
  unfold Ah Cs
  simp only [h3, h5, Dv]; simp [h6, h7, h10, h15]
 rw [e]
 refine Av h15 (A2 (Aa ((decide (p.fType = 5))) (fun h16 => ?_) fun h16 => ?_))
 refine Aq h16 (Aq h16 (Iu (Al (c := si p.fId) s4 (.here) rfl (Ao (v := (.bool (Bw p.fId 1 65535))) s4 rfl (.cons .sc .nil) (H3 (n + 7) p.fId) (Ai rfl ?_)))))
 have e : Ah p = (Bw p.fId 1 65535) := by
  try simp only [Cw] at h6 h7 h10 h15 h16
  unfold Ah Cs
  simp only [h3, h5, Dv]; simp [h6, h7, h10, h15, h16]
 rw [e]
 refine Av h16 (A2 (Aa ((decide (p.fType = 6))) (fun h17 => ?_) fun h17 => ?_))
 refine Aq h17 (Aq h17 (Iu (Al (c := si p.fId) s4 (.here) rfl (Ao (v := (.bool (Bw p.fId 1 65535))) s4 rfl (.cons .sc .nil) (H3 (n + 7) p.fId) (Ai rfl ?_)))))
 have e : Ah p = (Bw p.fId 1 65535) := by
  try simp only [Cw] at h6 h7 h10 h15 h16 h17
  unfold Ah Cs
  simp only [h3, h5, Dv]; simp [h6, h7, h10, h15, h16, h17]
 rw [e]
 refine Av h17 (A2 (Aa ((decide (p.fType = 7))) (fun h18 => ?_) fun h18 => ?_))
 refine Aq h18 (Aq h18 (Iu (Al (c := si p.fId) s4 (.here) rfl (Ao (v := (.bool (Bw p.fId 1 65535))) s4 rfl (.cons .sc .nil) (H3 (n + 7) p.fId) (Ai rfl ?_)))))
 have e : Ah p = (Bw p.fId 1 65535) := by
  try simp only [Cw] at h6 h7 h10 h15 h16 h17 h18
  unfold Ah Cs
  simp only [h3, h5, Dv]; simp [h6, h7, h10, h15, h16, h17, h18]
 rw [e]
 refine Av h18 (A2 (Aa ((decide (p.fType = 11))) (fun h19 => ?_) fun h19 => ?_))
 refine Aq h19 (Iu (Al (c := si p.fId) s4 (.here) rfl (Ao (v := (.bool (Bw p.fId 1 65535))) s4 rfl (.cons .sc .nil) (H3 (n + 7) p.fId) (Ai rfl ?_))))
 have e : Ah p = (Bw p.fId 1 65535) := by
  try simp only [Cw] at h6 h7 h10 h15 h16 h17 h18 h19
  unfold Ah Cs
  simp only [h3, h5, Dv]; simp [h6, h7, h10, h15, h16, h17, h18, h19]
 rw [e]
 refine Av h19 (A2 (De (Aa ((decide (p.fType = 8))) (fun h20 => ?_) fun h20 => ?_)))
 refine Aq h20 (Aq h20 (Iu (Al (c := si p.fId) s4 (.here) rfl (Ao (v := (.bool (Bw p.fId 1 65535))) s4 rfl (.cons .sc .nil) (H3 (n + 7) p.fId) ?_))))
 apply Aw ((Bw p.fId 1 65535) && (E4 p))
 intro b21 q21
 refine Aa ((Bw p.fId 1 65535)) (fun h21 => ?_) fun h21 => ?_
 exact Ad h21 (Ar s4 (.here) rfl (Ad h21 (Ao (v := (.bool (E4 p))) s4 rfl (.aggF (Cf _) .nil) (Nw (n + 2) (by omega) p hp) (Bs h21 (Ea q21 h21) Aj))))
 exact Ab h21 (Ab h21 (Br h21 (D9 q21 h21) Aj))
 intro b21 q21
 refine Ai rfl ?_
 have e : Ah p = b21 := by
  try simp only [Cw] at h6 h7 h10 h15 h16 h17 h18 h19 h20
  unfold Ah Cs
  simp only [h3, h5, q21, Dv]; simp [h6, h7, h10, h15, h16, h17, h18, h19, h20]
 rw [e]
 refine Av h20 (A2 (Aa ((decide (p.fType = 9))) (fun h22 => ?_) fun h22 => ?_))
 refine Aq h22 (Aq h22 (Iu (Al (c := si p.fId) s4 (.here) rfl (Ao (v := (.bool (Bw p.fId 1 65535))) s4 rfl (.cons .sc .nil) (H3 (n + 7) p.fId) ?_))))
 apply Aw ((Bw p.fId 1 65535) && (E4 p))
 intro b23 q23
 refine Aa ((Bw p.fId 1 65535)) (fun h23 => ?_) fun h23 => ?_
 exact Ad h23 (Ar s4 (.here) rfl (Ad h23 (Ao (v := (.bool (E4 p))) s4 rfl (.aggF (Cf _) .nil) (Nw (n + 2) (by omega) p hp) (Bs h23 (Ea q23 h23) Aj))))
 exact Ab h23 (Ab h23 (Br h23 (D9 q23 h23) Aj))
 intro b23 q23
 refine Ai rfl ?_
 have e : Ah p = b23 := by
  try simp only [Cw] at h6 h7 h10 h15 h16 h17 h18 h19 h20 h22
  unfold Ah Cs
  simp only [h3, h5, q23, Dv]; simp [h6, h7, h10, h15, h16, h17, h18, h19, h20, h22]
 rw [e]
 refine Av h22 (A2 (Aa ((decide (p.fType = 10))) (fun h24 => ?_) fun h24 => ?_))
 refine Aq h24 (Iu (Al (c := si p.fId) s4 (.here) rfl (Ao (v := (.bool (Bw p.fId 1 65535))) s4 rfl (.cons .sc .nil) (H3 (n + 7) p.fId) ?_)))
 apply Aw ((Bw p.fId 1 65535) && (E4 p))
 intro b25 q25
 refine Aa ((Bw p.fId 1 65535)) (fun h25 => ?_) fun h25 => ?_
 exact Ad h25 (Ar s4 (.here) rfl (Ad h25 (Ao (v := (.bool (E4 p))) s4 rfl (.aggF (Cf _) .nil) (Nw (n + 2) (by omega) p hp) (Bs h25 (Ea q25 h25) Aj))))
 exact Ab h25 (Ab h25 (Br h25 (D9 q25 h25) Aj))
 intro b25 q25
 refine Ai rfl ?_
 have e : Ah p = b25 := by
  try simp only [Cw] at h6 h7 h10 h15 h16 h17 h18 h19 h20 h22 h24
  unfold Ah Cs
  simp only [h3, h5, q25, Dv]; simp [h6, h7, h10, h15, h16, h17, h18, h19, h20, h22, h24]
 rw [e]
 refine Av h24 (Ai rfl ?_)
 have e : Ah p = true := by
  try simp only [Cw] at h6 h7 h10 h15 h16 h17 h18 h19 h20 h22 h24
  unfold Ah Cs
  simp only [h3, h5, Dv]; simp [h6, h7, h10, h15, h16, h17, h18, h19, h20, h22, h24]
 rw [e]
 refine Aq (nT h5) (Ai rfl ?_)
 have e : Ah p = false := by
  unfold Ah Cs
  simp only [h3, h5, Dv]
 rw [e]
 refine Ad (nF h3) (Kg rfl rfl (V9 (n + 8) (by omega) p s2 fun Rs26 H hRs26 s26 => Ad (nF h3) (Ar s26 (.here) rfl (Ad (nF h3) (Ao (v := (.bool (Cl p (A0 false p)))) s26 rfl (.aggF (Cf _) (.agg (hRs26 _) .nil)) (O6 (n + 7) (by omega) _ p (A0 false p) hp.l1 hp.l2 hp.l3) (Ad (nF h3) (B4 (Dq (nF h3) (Aa ((Cl p (A0 false p))) (fun h27 => ?_) fun h27 => ?_)))))))))
 refine Av (nF h27) (N9 (Al (c := si p.fType) s26 (.here) rfl (A2 (Aa ((decide (p.fType = 1))) (fun h28 => ?_) fun h28 => ?_))))
 refine Aq h28 (Ar s26 (.here) rfl (Ao (v := (.bool (Hy p))) s26 rfl (.aggF (Cf _) .nil) (Vd (n + 3) (by omega) p hp) (Ai rfl ?_)))
 have e : Ah p = (Hy p) := by
  try simp only [Cw] at h28
  unfold Ah Cs
  simp only [h3, h27, Dv]; simp [h28]
 rw [e]
 refine Av h28 (A2 (Aa ((decide (p.fType = 2))) (fun h29 => ?_) fun h29 => ?_))
 refine Aq h29 (Ro (Al (c := si p.fCode) s26 (.here) rfl (Ao (v := (.bool (Bw p.fCode 0 5))) s26 rfl (Pg .nil) (I7 (n + 8) _ p.fCode 0 5) ?_)))
 apply Aw ((Bw p.fCode 0 5) && ((!p.fPresent) || (decide (p.fCode = 0))))
 intro b30 q30
 refine Aa ((Bw p.fCode 0 5)) (fun h30 => ?_) fun h30 => ?_
 refine Ad h30 (V8 (Ad h30 (Al (c := sb p.fPresent) s26 (.here) rfl (Ad h30 (B4 (Ad h30 ?_))))))
 apply Aw ((!p.fPresent) || (decide (p.fCode = 0)))
 intro b31 q31
 refine Aa (p.fPresent) (fun h31 => ?_) fun h31 => ?_
 exact Ad (nF h31) (Ro (Ad (nF h31) (Al (c := si p.fCode) s26 (.here) rfl (Ad (nF h31) (A2 (Ad h30 (Br (nF h31) (Yk q31 (nF h31)) Aj)))))))
 exact Ab (nT h31) (Ab (nT h31) (Ab (nT h31) (Ad h30 (Bs (nT h31) (Yl q31 (nT h31)) Aj))))
 intro b31 q31
 exact Bs h30 (by subst q31; exact Ea q30 h30) Aj
 exact Ab h30 (Ab h30 (Ab h30 (Ab h30 (Dj (Dj (Dj (Ab h30 (Br h30 (D9 q30 h30) Aj))))))))
 intro b30 q30
 refine Ai rfl ?_
 have e : Ah p = b30 := by
  try simp only [Cw] at h28 h29
  unfold Ah Cs
  simp only [h3, h27, q30, Dv]; simp [h28, h29]
 rw [e]
 refine Av h29 (A2 (Aa ((decide (p.fType = 3))) (fun h32 => ?_) fun h32 => ?_))
 refine Aq h32 (Pe (Al (c := si p.fQos) s26 (.here) rfl (Ao (v := (.bool (Bw p.fQos 0 2))) s26 rfl (.cons .sc .nil) (Sj (n + 7) p.fQos) ?_)))
 apply Aw ((Bw p.fQos 0 2) && (Co p.fTopic))
 intro b33 q33
 refine Aa ((Bw p.fQos 0 2)) (fun h33 => ?_) fun h33 => ?_
 exact Ad h33 (gf5 (Ad h33 (Al (c := ss p.fTopic) s26 (.here) rfl (Ad h33 (Ao (v := (.bool (Co p.fTopic))) s26 rfl (.cons .sc .nil) (Oq (n + 4) (by omega) _ p.fTopic hp.t1) (Bs h33 (Ea q33 h33) Aj))))))
 exact Ab h33 (Ab h33 (Ab h33 (Br h33 (D9 q33 h33) Aj)))
 intro b33 q33
 apply Aw (b33 && (decide (((p.fBody.size : Nat) : Int) ≤ 40)))
 intro b34 q34
 refine Aa (b33) (fun h34 => ?_) fun h34 => ?_
 exact Ad h34 (gf6 (Ad h34 (Al (c := Af p.fBody) s26 (.here) rfl (Ad h34 (Cn (Ad h34 (O5 (Bs h34 (Ea q34 h34) Aj))))))))
 exact Ab h34 (Ab h34 (Ab h34 (Ab h34 (Br h34 (D9 q34 h34) Aj))))
 intro b34 q34
 apply Aw (b34 && ((decide (p.fQos = 0)) || (Bw p.fId 1 65535)))
 intro b35 q35
 refine Aa (b34) (fun h35 => ?_) fun h35 => ?_
 refine Ad h35 (Pe (Ad h35 (Al (c := si p.fQos) s26 (.here) rfl (Ad h35 (A2 (Ad h35 ?_))))))
 apply Aw ((decide (p.fQos = 0)) || (Bw p.fId 1 65535))
 intro b36 q36
 refine Aa ((decide (p.fQos = 0))) (fun h36 => ?_) fun h36 => ?_
 exact Ab h36 (Ab h36 (Ab h36 (Ad h35 (Bs h36 (Yl q36 h36) Aj))))
 exact Ad h36 (Iu (Ad h36 (Al (c := si p.fId) s26 (.here) rfl (Ad h36 (Ao (v := (.bool (Bw p.fId 1 65535))) s26 rfl (.cons .sc .nil) (H3 (n + 7) p.fId) (Ad h35 (Br h36 (Yk q36 h36) Aj)))))))
 intro b36 q36
 exact Bs h35 (by subst q36; exact Ea q35 h35) Aj
 exact Ab h35 (Ab h35 (Ab h35 (Ab h35 (Dj (Dj (Dj (Ab h35 (Br h35 (D9 q35 h35) Aj))))))))
 intro b35 q35
 refine Ai rfl ?_
 have e : Ah p = b35 := by
  try simp only [Cw] at h28 h29 h32
  unfold Ah Cs
  (simp only [h3, h27, Dv]; grind)
 rw [e]
 refine Av h32 (A2 (De (Aa ((decide (p.fType = 4))) (fun h37 => ?_) fun h37 => ?_)))
 refine Aq h37 (Aq h37 (Iu (Al (c := si p.fId) s26 (.here) rfl (Ao (v := (.bool (Bw p.fId 1 65535))) s26 rfl (.cons .sc .nil) (H3 (n + 7) p.fId) (Ai rfl ?_)))))
 have e : Ah p = (Bw p.fId 1 65535) := by
  try simp only [Cw] at h28 h29 h32 h37
  unfold Ah Cs
  simp only [h3, h27, Dv]; simp [h28, h29, h32, h37]
 rw [e]
 refine Av h37 (A2 (Aa ((decide (p.fType = 5))) (fun h38 => ?_) fun h38 => ?_))
 refine Aq h38 (Aq h38 (Iu (Al (c := si p.fId) s26 (.here) rfl (Ao (v := (.bool (Bw p.fId 1 65535))) s26 rfl (.cons .sc .nil) (H3 (n + 7) p.fId) (Ai rfl ?_)))))
 have e : Ah p = (Bw p.fId 1 65535) := by
  try simp only [Cw] at h28 h29 h32 h37 h38
  unfold Ah Cs
  simp only [h3, h27, Dv]; simp [h28, h29, h32, h37, h38]
 rw [e]
 refine Av h38 (A2 (Aa ((decide (p.fType = 6))) (fun h39 => ?_) fun h39 => ?_))
 refine Aq h39 (Aq h39 (Iu (Al (c := si p.fId) s26 (.here) rfl (Ao (v := (.bool (Bw p.fId 1 65535))) s26 rfl (.cons .sc .nil) (H3 (n + 7) p.fId) (Ai rfl ?_)))))
 have e : Ah p = (Bw p.fId 1 65535) := by
  try simp only [Cw] at h28 h29 h32 h37 h38 h39
  unfold Ah Cs
  simp only [h3, h27, Dv]; simp [h28, h29, h32, h37, h38, h39]
 rw [e]
 refine Av h39 (A2 (Aa ((decide (p.fType = 7))) (fun h40 => ?_) fun h40 => ?_))
 refine Aq h40 (Aq h40 (Iu (Al (c := si p.fId) s26 (.here) rfl (Ao (v := (.bool (Bw p.fId 1 65535))) s26 rfl (.cons .sc .nil) (H3 (n + 7) p.fId) (Ai rfl ?_)))))
 have e : Ah p = (Bw p.fId 1 65535) := by
  try simp only [Cw] at h28 h29 h32 h37 h38 h39 h40
  unfold Ah Cs
  simp only [h3, h27, Dv]; simp [h28, h29, h32, h37, h38, h39, h40]
 rw [e]
 refine Av h40 (A2 (Aa ((decide (p.fType = 11))) (fun h41 => ?_) fun h41 => ?_))
 refine Aq h41 (Iu (Al (c := si p.fId) s26 (.here) rfl (Ao (v := (.bool (Bw p.fId 1 65535))) s26 rfl (.cons .sc .nil) (H3 (n + 7) p.fId) (Ai rfl ?_))))
 have e : Ah p = (Bw p.fId 1 65535) := by
  try simp only [Cw] at h28 h29 h32 h37 h38 h39 h40 h41
  unfold Ah Cs
  simp only [h3, h27, Dv]; simp [h28, h29, h32, h37, h38, h39, h40, h41]
 rw [e]
 refine Av h41 (A2 (De (Aa ((decide (p.fType = 8))) (fun h42 => ?_) fun h42 => ?_)))
 refine Aq h42 (Aq h42 (Iu (Al (c := si p.fId) s26 (.here) rfl (Ao (v := (.bool (Bw p.fId 1 65535))) s26 rfl (.cons .sc .nil) (H3 (n + 7) p.fId) ?_))))
 apply Aw ((Bw p.fId 1 65535) && (E4 p))
 intro b43 q43
 refine Aa ((Bw p.fId 1 65535)) (fun h43 => ?_) fun h43 => ?_
 exact Ad h43 (Ar s26 (.here) rfl (Ad h43 (Ao (v := (.bool (E4 p))) s26 rfl (.aggF (Cf _) .nil) (Nw (n + 2) (by omega) p hp) (Bs h43 (Ea q43 h43) Aj))))
 exact Ab h43 (Ab h43 (Br h43 (D9 q43 h43) Aj))
 intro b43 q43
 refine Ai rfl ?_
 have e : Ah p = b43 := by
  try simp only [Cw] at h28 h29 h32 h37 h38 h39 h40 h41 h42
  unfold Ah Cs
  simp only [h3, h27, q43, Dv]; simp [h28, h29, h32, h37, h38, h39, h40, h41, h42]
 rw [e]
 refine Av h42 (A2 (Aa ((decide (p.fType = 9))) (fun h44 => ?_) fun h44 => ?_))
 refine Aq h44 (Aq h44 (Iu (Al (c := si p.fId) s26 (.here) rfl (Ao (v := (.bool (Bw p.fId 1 65535))) s26 rfl (.cons .sc .nil) (H3 (n + 7) p.fId) ?_))))
 apply Aw ((Bw p.fId 1 65535) && (E4 p))
 intro b45 q45
 refine Aa ((Bw p.fId 1 65535)) (fun h45 => ?_) fun h45 => ?_
 exact Ad h45 (Ar s26 (.here) rfl (Ad h45 (Ao (v := (.bool (E4 p))) s26 rfl (.aggF (Cf _) .nil) (Nw (n + 2) (by omega) p hp) (Bs h45 (Ea q45 h45) Aj))))
 exact Ab h45 (Ab h45 (Br h45 (D9 q45 h45) Aj))
 intro b45 q45
 refine Ai rfl ?_
 have e : Ah p = b45 := by
  try simp only [Cw] at h28 h29 h32 h37 h38 h39 h40 h41 h42 h44
  unfold Ah Cs
  simp only [h3, h27, q45, Dv]; simp [h28, h29, h32, h37, h38, h39, h40, h41, h42, h44]
 rw [e]
 refine Av h44 (A2 (Aa ((decide (p.fType = 10))) (fun h46 => ?_) fun h46 => ?_))
 refine Aq h46 (Iu (Al (c := si p.fId) s26 (.here) rfl (Ao (v := (.bool (Bw p.fId 1 65535))) s26 rfl (.cons .sc .nil) (H3 (n + 7) p.fId) ?_)))
 apply Aw ((Bw p.fId 1 65535) && (E4 p))
 intro b47 q47
 refine Aa ((Bw p.fId 1 65535)) (fun h47 => ?_) fun h47 => ?_
 exact Ad h47 (Ar s26 (.here) rfl (Ad h47 (Ao (v := (.bool (E4 p))) s26 rfl (.aggF (Cf _) .nil) (Nw (n + 2) (by omega) p hp) (Bs h47 (Ea q47 h47) Aj))))
 exact Ab h47 (Ab h47 (Br h47 (D9 q47 h47) Aj))
 intro b47 q47
 refine Ai rfl ?_
 have e : Ah p = b47 := by
  try simp only [Cw] at h28 h29 h32 h37 h38 h39 h40 h41 h42 h44 h46
  unfold Ah Cs
  simp only [h3, h27, q47, Dv]; simp [h28, h29, h32, h37, h38, h39, h40, h41, h42, h44, h46]
 rw [e]
 refine Av h46 (Ai rfl ?_)
 have e : Ah p = true := by
  try simp only [Cw] at h28 h29 h32 h37 h38 h39 h40 h41 h42 h44 h46
  unfold Ah Cs
  simp only [h3, h27, Dv]; simp [h28, h29, h32, h37, h38, h39, h40, h41, h42, h44, h46]
 rw [e]
 refine Aq (nT h27) (Ai rfl ?_)
 have e : Ah p = false := by
  unfold Ah Cs
  simp only [h3, h27, Dv]
 rw [e]
 refine Ab (nT h3) (Gd.bothE ?_ ?_)
 refine Ab (nT h3) (Ab (nT h3) (Ab (nT h3) (Ab (nT h3) (Ef (nT h3) (Aq rfl (Ai rfl ?_))))))
 have e : Ah p = false := by
  unfold Ah Cs
  simp only [h3, Dv]
 rw [e]
 refine Ab (nT h3) (Ab (nT h3) (Ab (nT h3) (Ab (nT h3) (Ef (nT h3) (Aq rfl (Ai rfl ?_))))))
 have e : Ah p = false := by
  unfold Ah Cs
  simp only [h3, Dv]
 rw [e]
def En (p : PacketV) : Bool :=
 if p.fType = 1 then (if p.fHasWill = true ∧ ((Co p.fWTopic && (decide (((p.fWBody.size : Nat) : Int) ≤ 40) && Bw p.fWQos 0 2)) = false) then false else (Bw p.fLevel 0 255 && (Bd p.fClient && (Bw p.fKeep 0 65535 && (Bd p.fUser && decide (((p.fPass.size : Nat) : Int) ≤ 60))))))
 else if p.fType = 2 then Bw p.fCode 0 5
 else if p.fType = 3 then (Bw p.fQos 0 2 && ((decide (p.fQos = 0) || Bw p.fId 1 65535) && (Co p.fTopic && decide (((p.fBody.size : Nat) : Int) ≤ 40))))
 else if p.fType = 12 ∨ p.fType = 13 ∨ p.fType = 14 then true
 else if p.fType = 8 then (p.fWants.all Cm && (Bw p.fId 1 65535 && Bw ((p.fWants.length : Nat) : Int) 1 4))
 else if p.fType = 9 then (p.fCodes.all Ch && (Bw p.fId 1 65535 && Bw ((p.fCodes.length : Nat) : Int) 1 4))
 else if p.fType = 10 then (p.fNames.all B0 && (Bw p.fId 1 65535 && Bw ((p.fNames.length : Nat) : Int) 1 4))
 else Bw p.fId 1 65535
def A5 (p : PacketV) : Bool := Bw p.fType 1 14 && (Cl p (A0 true p) && En p)
theorem S5 (n : Nat) (hn : 1048576 < n) (p : PacketV) (hp : G8 p) (h3 : (Bw p.fType 1 14) = true) (h5 : (Cl p (A0 true p)) = true) (h6 : (decide (p.fType = 1)) = false) (h15 : (decide (p.fType = 2)) = false) (h16 : (decide (p.fType = 3)) = false) (h21 : (decide (p.fType = 12)) = false) (h22 : (decide (p.fType = 13)) = false) (h23 : (decide (p.fType = 14)) = false) (h24 : (decide (p.fType = 8)) = true)  : ∀ (t pre : List WantV) (m : Nat) (i : Int) (i1 : Nat) (H : Ac), p.fWants = pre ++ t → i = ((pre.length : Nat) : Int) → t.length < m → Sep H [.blk i1 (Ap p) true] → Gd (· = some (.sc (.bool (t.all Cm && (Bw p.fId 1 65535 && Bw ((p.fWants.length : Nat) : Int) 1 4))))) (Mj (PR (n + 9) AV) (n + 9) (fun x H => Bc As E0.tp 4 H x) m (.ptr i1 0) (.sc (.bool (Bw p.fId 1 65535))) (.sc (.int .i64 i)) H)
 | [], pre, m + 1, i, i1, H, he, hi, hm, s0 => by
  obtain rfl : pre = p.fWants := by simpa using he.symm
  have hl1 := hp.l1
  have hl2 := hp.l2
  have hl3 := hp.l3
  have hlen := hp.l1
  rw [Mj]
  try simp only [Fc, Fb]
  refine Ky (Al (c := Ci Bn p.fWants) s0 (.here) rfl (Cn (Dd (Av (by simp [hi]) ?_))))
  apply Aw ((Bw p.fId 1 65535) && (Bw ((p.fWants.length : Nat) : Int) 1 4))
  intro b201 q201
  refine Aa ((Bw p.fId 1 65535)) (fun h201 => ?_) fun h201 => ?_
  exact Ad h201 (Ky (Ad h201 (Al (c := Ci Bn p.fWants) s0 (.here) rfl (Ad h201 (Cn (Ad h201 (Ao (v := (.bool (Bw ((p.fWants.length : Nat) : Int) 1 4))) s0 rfl (Pg .nil) (Hi (n + 8) _ ((p.fWants.length : Nat) : Int) 1 4) (Bs h201 (Ea q201 h201) Aj))))))))
  exact Ab h201 (Ab h201 (Ab h201 (Ab h201 (Br h201 (D9 q201 h201) Aj))))
  intro b201 q201
  refine Ai rfl ?_
  have e : ([].all Cm && (Bw p.fId 1 65535 && Bw ((p.fWants.length : Nat) : Int) 1 4)) = b201 := by
   simp only [zas, za7, Cm, Ch]; grind
  rw [e]
 | y :: t, pre, m + 1, i, i1, H, he, hi, hm, s0 => by
  have hlt : pre.length < p.fWants.length := by rw [he]; simp
  have hl1 := hp.l1
  have hl2 := hp.l2
  have hl3 := hp.l3
  have hlen := hp.l1
  rw [Mj]
  try simp only [Fc, Fb]
  refine Ky (Al (c := Ci Bn p.fWants) s0 (.here) rfl (Cn (Dd (Aq (by simp [hi]; omega) (Ky (Al (c := Ci Bn p.fWants) s0 (.here) rfl (K8 hi Gf (by decide) he (Qj (Fh (c := .sc (.string y.fFilter)) rfl (Ao (v := (.bool (B0 y.fFilter))) s0 rfl (.cons .sc .nil) (M6 (n + 3) (by omega) y.fFilter (hp.w1 y (by rw [he]; simp)) (Ow (hp.w1 y (by rw [he]; simp)))) (B4 ?_)))))))))))
  apply Aw ((!(B0 y.fFilter)) || (!(Bw y.fQos 0 2)))
  intro b201 q201
  refine Aa ((B0 y.fFilter)) (fun h201 => ?_) fun h201 => ?_
  exact Ad (nF h201) (Ky (Ad (nF h201) (Al (c := Ci Bn p.fWants) s0 (.here) rfl (Ad (nF h201) (Ad (nF h201) (K8 hi Gf (by decide) he (Ad (nF h201) (Qj (Ad (nF h201) (Fh (c := si y.fQos) rfl (Ad (nF h201) (Ao (v := (.bool (Bw y.fQos 0 2))) s0 rfl (Pg .nil) (Hi (n + 8) _ y.fQos 0 2) (Ad (nF h201) (B4 (Br (nF h201) (Yk q201 (nF h201)) Aj)))))))))))))))
  exact Ab (nT h201) (Ab (nT h201) (Ab (nT h201) (Ab (nT h201) (Ab (nT h201) (Ab (nT h201) (Ab (nT h201) (Ab (nT h201) (Bs (nT h201) (Yl q201 (nT h201)) Aj))))))))
  intro b201 q201
  refine Aa (b201) (fun h202 => ?_) fun h202 => ?_
  refine Aq h202 (Ai rfl ?_)
  have e : ((y :: t).all Cm && (Bw p.fId 1 65535 && Bw ((p.fWants.length : Nat) : Int) 1 4)) = false := by
   simp only [zas, za7, Cm, Ch]; grind
  rw [e]
  refine Av h202 (Bx (by omega) (by omega) ?_)
  have e203 : ((y :: t).all Cm && (Bw p.fId 1 65535 && Bw ((p.fWants.length : Nat) : Int) 1 4)) = (t.all Cm && (Bw p.fId 1 65535 && Bw ((p.fWants.length : Nat) : Int) 1 4)) := by
   (simp only [zas, Cm, Ch]; grind)
  rw [e203]
  exact S5 n hn p hp h3 h5 h6 h15 h16 h21 h22 h23 h24  t (pre ++ [y]) m _ i1 _ (by rw [he]; simp) (by rw [hi]; simp) (by simpa using hm) (by simpa only [za2, zat, zaB] using (s0.sel (.cons (.here) .nil)))
theorem S6 (n : Nat) (hn : 1048576 < n) (p : PacketV) (hp : G8 p) (h3 : (Bw p.fType 1 14) = true) (h5 : (Cl p (A0 true p)) = true) (h6 : (decide (p.fType = 1)) = false) (h15 : (decide (p.fType = 2)) = false) (h16 : (decide (p.fType = 3)) = false) (h21 : (decide (p.fType = 12)) = false) (h22 : (decide (p.fType = 13)) = false) (h23 : (decide (p.fType = 14)) = false) (h24 : (decide (p.fType = 8)) = false) (h25 : (decide (p.fType = 9)) = true)  : ∀ (t pre : List Int) (m : Nat) (i : Int) (i1 : Nat) (H : Ac), p.fCodes = pre ++ t → i = ((pre.length : Nat) : Int) → t.length < m → Sep H [.blk i1 (Ap p) true] → Gd (· = some (.sc (.bool (t.all Ch && (Bw p.fId 1 65535 && Bw ((p.fCodes.length : Nat) : Int) 1 4))))) (Mk (PR (n + 9) AV) (n + 9) (fun x H => Bc As E0.tp 4 H x) m (.ptr i1 0) (.sc (.bool (Bw p.fId 1 65535))) (.sc (.int .i64 i)) H)
 | [], pre, m + 1, i, i1, H, he, hi, hm, s0 => by
  obtain rfl : pre = p.fCodes := by simpa using he.symm
  have hl1 := hp.l1
  have hl2 := hp.l2
  have hl3 := hp.l3
  have hlen := hp.l3
  rw [Mk]
  try simp only [Fc, Fb]
  refine La (Al (c := Ei p.fCodes) s0 (.here) rfl (Cn (Dd (Av (by simp [hi]) ?_))))
  apply Aw ((Bw p.fId 1 65535) && (Bw ((p.fCodes.length : Nat) : Int) 1 4))
  intro b201 q201
  refine Aa ((Bw p.fId 1 65535)) (fun h201 => ?_) fun h201 => ?_
  exact Ad h201 (La (Ad h201 (Al (c := Ei p.fCodes) s0 (.here) rfl (Ad h201 (Cn (Ad h201 (Ao (v := (.bool (Bw ((p.fCodes.length : Nat) : Int) 1 4))) s0 rfl (Pg .nil) (Hi (n + 8) _ ((p.fCodes.length : Nat) : Int) 1 4) (Bs h201 (Ea q201 h201) Aj))))))))
  exact Ab h201 (Ab h201 (Ab h201 (Ab h201 (Br h201 (D9 q201 h201) Aj))))
  intro b201 q201
  refine Ai rfl ?_
  have e : ([].all Ch && (Bw p.fId 1 65535 && Bw ((p.fCodes.length : Nat) : Int) 1 4)) = b201 := by
   simp only [zas, za7, Cm, Ch]; grind
  rw [e]
 | y :: t, pre, m + 1, i, i1, H, he, hi, hm, s0 => by
  have hlt : pre.length < p.fCodes.length := by rw [he]; simp
  have hl1 := hp.l1
  have hl2 := hp.l2
  have hl3 := hp.l3
  have hlen := hp.l3
  rw [Mk]
  try simp only [Fc, Fb]
  refine La (Al (c := Ei p.fCodes) s0 (.here) rfl (Cn (Dd (Aq (by simp [hi]; omega) (La (Al (c := Ei p.fCodes) s0 (.here) rfl (Kk hi he (Fh (c := .sc (.int .i64 y)) rfl (Ao (v := (.bool (Bw y 0 2))) s0 rfl (Pg .nil) (Hi (n + 8) _ y 0 2) (B4 ?_))))))))))
  apply Aw ((!(Bw y 0 2)) && (!(decide (y = 128))))
  intro b201 q201
  refine Aa ((Bw y 0 2)) (fun h201 => ?_) fun h201 => ?_
  exact Ab (nF h201) (Ab (nF h201) (Ab (nF h201) (Ab (nF h201) (Ab (nF h201) (Ab (nF h201) (Br (nF h201) (D9 q201 (nF h201)) Aj))))))
  exact Ad (nT h201) (La (Ad (nT h201) (Al (c := Ei p.fCodes) s0 (.here) rfl (Ad (nT h201) (Ad (nT h201) (Kk hi he (Ad (nT h201) (Fh (c := si y) rfl (Ad (nT h201) (Lh (Bs (nT h201) (Ea q201 (nT h201)) Aj)))))))))))
  intro b201 q201
  refine Aa (b201) (fun h202 => ?_) fun h202 => ?_
  refine Aq h202 (Ai rfl ?_)
  have e : ((y :: t).all Ch && (Bw p.fId 1 65535 && Bw ((p.fCodes.length : Nat) : Int) 1 4)) = false := by
   simp only [zas, za7, Cm, Ch]; grind
  rw [e]
  refine Av h202 (Bx (by omega) (by omega) ?_)
  have e203 : ((y :: t).all Ch && (Bw p.fId 1 65535 && Bw ((p.fCodes.length : Nat) : Int) 1 4)) = (t.all Ch && (Bw p.fId 1 65535 && Bw ((p.fCodes.length : Nat) : Int) 1 4)) := by
   (simp only [zas, Cm, Ch]; grind)
  rw [e203]
  exact S6 n hn p hp h3 h5 h6 h15 h16 h21 h22 h23 h24 h25  t (pre ++ [y]) m _ i1 _ (by rw [he]; simp) (by rw [hi]; simp) (by simpa using hm) (by simpa only [za2, zat, zaB] using (s0.sel (.cons (.here) .nil)))
theorem S7 (n : Nat) (hn : 1048576 < n) (p : PacketV) (hp : G8 p) (h3 : (Bw p.fType 1 14) = true) (h5 : (Cl p (A0 true p)) = true) (h6 : (decide (p.fType = 1)) = false) (h15 : (decide (p.fType = 2)) = false) (h16 : (decide (p.fType = 3)) = false) (h21 : (decide (p.fType = 12)) = false) (h22 : (decide (p.fType = 13)) = false) (h23 : (decide (p.fType = 14)) = false) (h24 : (decide (p.fType = 8)) = false) (h25 : (decide (p.fType = 9)) = false) (h26 : (decide (p.fType = 10)) = true)  : ∀ (t pre : List ByteArray) (m : Nat) (i : Int) (i1 : Nat) (H : Ac), p.fNames = pre ++ t → i = ((pre.length : Nat) : Int) → t.length < m → Sep H [.blk i1 (Ap p) true] → Gd (· = some (.sc (.bool (t.all B0 && (Bw p.fId 1 65535 && Bw ((p.fNames.length : Nat) : Int) 1 4))))) (Ml (PR (n + 9) AV) (n + 9) (fun x H => Bc As E0.tp 4 H x) m (.ptr i1 0) (.sc (.bool (Bw p.fId 1 65535))) (.sc (.int .i64 i)) H)
 | [], pre, m + 1, i, i1, H, he, hi, hm, s0 => by
  obtain rfl : pre = p.fNames := by simpa using he.symm
  have hl1 := hp.l1
  have hl2 := hp.l2
  have hl3 := hp.l3
  have hlen := hp.l2
  rw [Ml]
  try simp only [Fc, Fb]
  refine K9 (Al (c := Ee p.fNames) s0 (.here) rfl (Cn (Dd (Av (by simp [hi]) ?_))))
  apply Aw ((Bw p.fId 1 65535) && (Bw ((p.fNames.length : Nat) : Int) 1 4))
  intro b201 q201
  refine Aa ((Bw p.fId 1 65535)) (fun h201 => ?_) fun h201 => ?_
  exact Ad h201 (K9 (Ad h201 (Al (c := Ee p.fNames) s0 (.here) rfl (Ad h201 (Cn (Ad h201 (Ao (v := (.bool (Bw ((p.fNames.length : Nat) : Int) 1 4))) s0 rfl (Pg .nil) (Hi (n + 8) _ ((p.fNames.length : Nat) : Int) 1 4) (Bs h201 (Ea q201 h201) Aj))))))))
  exact Ab h201 (Ab h201 (Ab h201 (Ab h201 (Br h201 (D9 q201 h201) Aj))))
  intro b201 q201
  refine Ai rfl ?_
  have e : ([].all B0 && (Bw p.fId 1 65535 && Bw ((p.fNames.length : Nat) : Int) 1 4)) = b201 := by
   simp only [zas, za7, Cm, Ch]; grind
  rw [e]
 | y :: t, pre, m + 1, i, i1, H, he, hi, hm, s0 => by
  have hlt : pre.length < p.fNames.length := by rw [he]; simp
  have hl1 := hp.l1
  have hl2 := hp.l2
  have hl3 := hp.l3
  have hlen := hp.l2
  rw [Ml]
  try simp only [Fc, Fb]
  refine K9 (Al (c := Ee p.fNames) s0 (.here) rfl (Cn (Dd (Aq (by simp [hi]; omega) (K9 (Al (c := Ee p.fNames) s0 (.here) rfl (N3 hi he (Fh (c := .sc (.string y)) rfl (Ao (v := (.bool (B0 y))) s0 rfl (.cons .sc .nil) (M6 (n + 3) (by omega) y (hp.w2 y (by rw [he]; simp)) (Ow (hp.w2 y (by rw [he]; simp)))) (B4 (Aa ((B0 y)) (fun h201 => ?_) fun h201 => ?_)))))))))))
  refine Av (nF h201) (Bx (by omega) (by omega) ?_)
  have e202 : ((y :: t).all B0 && (Bw p.fId 1 65535 && Bw ((p.fNames.length : Nat) : Int) 1 4)) = (t.all B0 && (Bw p.fId 1 65535 && Bw ((p.fNames.length : Nat) : Int) 1 4)) := by
   simp only [zas, Cm, Ch, h3, h5, h6, h15, h16, h21, h22, h23, h24, h25, h26, h201, za5, zaS, zaC, zb4, zbg, zbL, zaH, zax, za0]
  rw [e202]
  exact S7 n hn p hp h3 h5 h6 h15 h16 h21 h22 h23 h24 h25 h26  t (pre ++ [y]) m _ i1 _ (by rw [he]; simp) (by rw [hi]; simp) (by simpa using hm) (by simpa only [za2, zat, zaB] using (s0.sel (.cons (.here) .nil)))
  refine Aq (nT h201) (Ai rfl ?_)
  have e : ((y :: t).all B0 && (Bw p.fId 1 65535 && Bw ((p.fNames.length : Nat) : Int) 1 4)) = false := by
   simp only [zas, za7, Cm, Ch, h3, h5, h6, h15, h16, h21, h22, h23, h24, h25, h26, h201, Dv]
  rw [e]
theorem Q7 (n : Nat) (hn : 1048576 < n) (p : PacketV) (hp : G8 p) (h3 : (Bw p.fType 1 14) = true) (h28 : (Cl p (A0 true p)) = true) (h29 : (decide (p.fType = 1)) = false) (h38 : (decide (p.fType = 2)) = false) (h39 : (decide (p.fType = 3)) = false) (h44 : (decide (p.fType = 12)) = false) (h45 : (decide (p.fType = 13)) = false) (h46 : (decide (p.fType = 14)) = false) (h47 : (decide (p.fType = 8)) = true)  : ∀ (t pre : List WantV) (m : Nat) (i : Int) (i1 : Nat) (H : Ac), p.fWants = pre ++ t → i = ((pre.length : Nat) : Int) → t.length < m → Sep H [.blk i1 (Ap p) true] → Gd (· = some (.sc (.bool (t.all Cm && (Bw p.fId 1 65535 && Bw ((p.fWants.length : Nat) : Int) 1 4))))) (Mj (PR (n + 9) AV) (n + 9) (fun x H => Bc As E0.tp 4 H x) m (.ptr i1 0) (.sc (.bool (Bw p.fId 1 65535))) (.sc (.int .i64 i)) H)
 | [], pre, m + 1, i, i1, H, he, hi, hm, s0 => by
  obtain rfl : pre = p.fWants := by simpa using he.symm
  have hl1 := hp.l1
  have hl2 := hp.l2
  have hl3 := hp.l3
  have hlen := hp.l1
  rw [Mj]
  try simp only [Fc, Fb]
  refine Ky (Al (c := Ci Bn p.fWants) s0 (.here) rfl (Cn (Dd (Av (by simp [hi]) ?_))))
  apply Aw ((Bw p.fId 1 65535) && (Bw ((p.fWants.length : Nat) : Int) 1 4))
  intro b201 q201
  refine Aa ((Bw p.fId 1 65535)) (fun h201 => ?_) fun h201 => ?_
  exact Ad h201 (Ky (Ad h201 (Al (c := Ci Bn p.fWants) s0 (.here) rfl (Ad h201 (Cn (Ad h201 (Ao (v := (.bool (Bw ((p.fWants.length : Nat) : Int) 1 4))) s0 rfl (Pg .nil) (Hi (n + 8) _ ((p.fWants.length : Nat) : Int) 1 4) (Bs h201 (Ea q201 h201) Aj))))))))
  exact Ab h201 (Ab h201 (Ab h201 (Ab h201 (Br h201 (D9 q201 h201) Aj))))
  intro b201 q201
  refine Ai rfl ?_
  have e : ([].all Cm && (Bw p.fId 1 65535 && Bw ((p.fWants.length : Nat) : Int) 1 4)) = b201 := by
   simp only [zas, za7, Cm, Ch]; grind
  rw [e]
 | y :: t, pre, m + 1, i, i1, H, he, hi, hm, s0 => by
  have hlt : pre.length < p.fWants.length := by rw [he]; simp
  have hl1 := hp.l1
  have hl2 := hp.l2
  have hl3 := hp.l3
  have hlen := hp.l1
  rw [Mj]
  try simp only [Fc, Fb]
  refine Ky (Al (c := Ci Bn p.fWants) s0 (.here) rfl (Cn (Dd (Aq (by simp [hi]; omega) (Ky (Al (c := Ci Bn p.fWants) s0 (.here) rfl (K8 hi Gf (by decide) he (Qj (Fh (c := .sc (.string y.fFilter)) rfl (Ao (v := (.bool (B0 y.fFilter))) s0 rfl (.cons .sc .nil) (M6 (n + 3) (by omega) y.fFilter (hp.w1 y (by rw [he]; simp)) (Ow (hp.w1 y (by rw [he]; simp)))) (B4 ?_)))))))))))
  apply Aw ((!(B0 y.fFilter)) || (!(Bw y.fQos 0 2)))
  intro b201 q201
  refine Aa ((B0 y.fFilter)) (fun h201 => ?_) fun h201 => ?_
  exact Ad (nF h201) (Ky (Ad (nF h201) (Al (c := Ci Bn p.fWants) s0 (.here) rfl (Ad (nF h201) (Ad (nF h201) (K8 hi Gf (by decide) he (Ad (nF h201) (Qj (Ad (nF h201) (Fh (c := si y.fQos) rfl (Ad (nF h201) (Ao (v := (.bool (Bw y.fQos 0 2))) s0 rfl (Pg .nil) (Hi (n + 8) _ y.fQos 0 2) (Ad (nF h201) (B4 (Br (nF h201) (Yk q201 (nF h201)) Aj)))))))))))))))
  exact Ab (nT h201) (Ab (nT h201) (Ab (nT h201) (Ab (nT h201) (Ab (nT h201) (Ab (nT h201) (Ab (nT h201) (Ab (nT h201) (Bs (nT h201) (Yl q201 (nT h201)) Aj))))))))
  intro b201 q201
  refine Aa (b201) (fun h202 => ?_) fun h202 => ?_
  refine Aq h202 (Ai rfl ?_)
  have e : ((y :: t).all Cm && (Bw p.fId 1 65535 && Bw ((p.fWants.length : Nat) : Int) 1 4)) = false := by
   simp only [zas, za7, Cm, Ch]; grind
  rw [e]
  refine Av h202 (Bx (by omega) (by omega) ?_)
  have e203 : ((y :: t).all Cm && (Bw p.fId 1 65535 && Bw ((p.fWants.length : Nat) : Int) 1 4)) = (t.all Cm && (Bw p.fId 1 65535 && Bw ((p.fWants.length : Nat) : Int) 1 4)) := by
   (simp only [zas, Cm, Ch]; grind)
  rw [e203]
  exact Q7 n hn p hp h3 h28 h29 h38 h39 h44 h45 h46 h47  t (pre ++ [y]) m _ i1 _ (by rw [he]; simp) (by rw [hi]; simp) (by simpa using hm) (by simpa only [za2, zat, zaB] using (s0.sel (.cons (.here) .nil)))
theorem Q8 (n : Nat) (hn : 1048576 < n) (p : PacketV) (hp : G8 p) (h3 : (Bw p.fType 1 14) = true) (h28 : (Cl p (A0 true p)) = true) (h29 : (decide (p.fType = 1)) = false) (h38 : (decide (p.fType = 2)) = false) (h39 : (decide (p.fType = 3)) = false) (h44 : (decide (p.fType = 12)) = false) (h45 : (decide (p.fType = 13)) = false) (h46 : (decide (p.fType = 14)) = false) (h47 : (decide (p.fType = 8)) = false) (h48 : (decide (p.fType = 9)) = true)  : ∀ (t pre : List Int) (m : Nat) (i : Int) (i1 : Nat) (H : Ac), p.fCodes = pre ++ t → i = ((pre.length : Nat) : Int) → t.length < m → Sep H [.blk i1 (Ap p) true] → Gd (· = some (.sc (.bool (t.all Ch && (Bw p.fId 1 65535 && Bw ((p.fCodes.length : Nat) : Int) 1 4))))) (Mk (PR (n + 9) AV) (n + 9) (fun x H => Bc As E0.tp 4 H x) m (.ptr i1 0) (.sc (.bool (Bw p.fId 1 65535))) (.sc (.int .i64 i)) H)
 | [], pre, m + 1, i, i1, H, he, hi, hm, s0 => by
  obtain rfl : pre = p.fCodes := by simpa using he.symm
  have hl1 := hp.l1
  have hl2 := hp.l2
  have hl3 := hp.l3
  have hlen := hp.l3
  rw [Mk]
  try simp only [Fc, Fb]
  refine La (Al (c := Ei p.fCodes) s0 (.here) rfl (Cn (Dd (Av (by simp [hi]) ?_))))
  apply Aw ((Bw p.fId 1 65535) && (Bw ((p.fCodes.length : Nat) : Int) 1 4))
  intro b201 q201
  refine Aa ((Bw p.fId 1 65535)) (fun h201 => ?_) fun h201 => ?_
  exact Ad h201 (La (Ad h201 (Al (c := Ei p.fCodes) s0 (.here) rfl (Ad h201 (Cn (Ad h201 (Ao (v := (.bool (Bw ((p.fCodes.length : Nat) : Int) 1 4))) s0 rfl (Pg .nil) (Hi (n + 8) _ ((p.fCodes.length : Nat) : Int) 1 4) (Bs h201 (Ea q201 h201) Aj))))))))
  exact Ab h201 (Ab h201 (Ab h201 (Ab h201 (Br h201 (D9 q201 h201) Aj))))
  intro b201 q201
  refine Ai rfl ?_
  have e : ([].all Ch && (Bw p.fId 1 65535 && Bw ((p.fCodes.length : Nat) : Int) 1 4)) = b201 := by
   simp only [zas, za7, Cm, Ch]; grind
  rw [e]
 | y :: t, pre, m + 1, i, i1, H, he, hi, hm, s0 => by
  have hlt : pre.length < p.fCodes.length := by rw [he]; simp
  have hl1 := hp.l1
  have hl2 := hp.l2
  have hl3 := hp.l3
  have hlen := hp.l3
  rw [Mk]
  try simp only [Fc, Fb]
  refine La (Al (c := Ei p.fCodes) s0 (.here) rfl (Cn (Dd (Aq (by simp [hi]; omega) (La (Al (c := Ei p.fCodes) s0 (.here) rfl (Kk hi he (Fh (c := .sc (.int .i64 y)) rfl (Ao (v := (.bool (Bw y 0 2))) s0 rfl (Pg .nil) (Hi (n + 8) _ y 0 2) (B4 ?_))))))))))
  apply Aw ((!(Bw y 0 2)) && (!(decide (y = 128))))
  intro b201 q201
  refine Aa ((Bw y 0 2)) (fun h201 => ?_) fun h201 => ?_
  exact Ab (nF h201) (Ab (nF h201) (Ab (nF h201) (Ab (nF h201) (Ab (nF h201) (Ab (nF h201) (Br (nF h201) (D9 q201 (nF h201)) Aj))))))
  exact Ad (nT h201) (La (Ad (nT h201) (Al (c := Ei p.fCodes) s0 (.here) rfl (Ad (nT h201) (Ad (nT h201) (Kk hi he (Ad (nT h201) (Fh (c := si y) rfl (Ad (nT h201) (Lh (Bs (nT h201) (Ea q201 (nT h201)) Aj)))))))))))
  intro b201 q201
  refine Aa (b201) (fun h202 => ?_) fun h202 => ?_
  refine Aq h202 (Ai rfl ?_)
  have e : ((y :: t).all Ch && (Bw p.fId 1 65535 && Bw ((p.fCodes.length : Nat) : Int) 1 4)) = false := by
   simp only [zas, za7, Cm, Ch]; grind
  rw [e]
  refine Av h202 (Bx (by omega) (by omega) ?_)
  have e203 : ((y :: t).all Ch && (Bw p.fId 1 65535 && Bw ((p.fCodes.length : Nat) : Int) 1 4)) = (t.all Ch && (Bw p.fId 1 65535 && Bw ((p.fCodes.length : Nat) : Int) 1 4)) := by
   (simp only [zas, Cm, Ch]; grind)
  rw [e203]
  exact Q8 n hn p hp h3 h28 h29 h38 h39 h44 h45 h46 h47 h48  t (pre ++ [y]) m _ i1 _ (by rw [he]; simp) (by rw [hi]; simp) (by simpa using hm) (by simpa only [za2, zat, zaB] using (s0.sel (.cons (.here) .nil)))
theorem Q9 (n : Nat) (hn : 1048576 < n) (p : PacketV) (hp : G8 p) (h3 : (Bw p.fType 1 14) = true) (h28 : (Cl p (A0 true p)) = true) (h29 : (decide (p.fType = 1)) = false) (h38 : (decide (p.fType = 2)) = false) (h39 : (decide (p.fType = 3)) = false) (h44 : (decide (p.fType = 12)) = false) (h45 : (decide (p.fType = 13)) = false) (h46 : (decide (p.fType = 14)) = false) (h47 : (decide (p.fType = 8)) = false) (h48 : (decide (p.fType = 9)) = false) (h49 : (decide (p.fType = 10)) = true)  : ∀ (t pre : List ByteArray) (m : Nat) (i : Int) (i1 : Nat) (H : Ac), p.fNames = pre ++ t → i = ((pre.length : Nat) : Int) → t.length < m → Sep H [.blk i1 (Ap p) true] → Gd (· = some (.sc (.bool (t.all B0 && (Bw p.fId 1 65535 && Bw ((p.fNames.length : Nat) : Int) 1 4))))) (Ml (PR (n + 9) AV) (n + 9) (fun x H => Bc As E0.tp 4 H x) m (.ptr i1 0) (.sc (.bool (Bw p.fId 1 65535))) (.sc (.int .i64 i)) H)
 | [], pre, m + 1, i, i1, H, he, hi, hm, s0 => by
  obtain rfl : pre = p.fNames := by simpa using he.symm
  have hl1 := hp.l1
  have hl2 := hp.l2
  have hl3 := hp.l3
  have hlen := hp.l2
  rw [Ml]
  try simp only [Fc, Fb]
  refine K9 (Al (c := Ee p.fNames) s0 (.here) rfl (Cn (Dd (Av (by simp [hi]) ?_))))
  apply Aw ((Bw p.fId 1 65535) && (Bw ((p.fNames.length : Nat) : Int) 1 4))
  intro b201 q201
  refine Aa ((Bw p.fId 1 65535)) (fun h201 => ?_) fun h201 => ?_
  exact Ad h201 (K9 (Ad h201 (Al (c := Ee p.fNames) s0 (.here) rfl (Ad h201 (Cn (Ad h201 (Ao (v := (.bool (Bw ((p.fNames.length : Nat) : Int) 1 4))) s0 rfl (Pg .nil) (Hi (n + 8) _ ((p.fNames.length : Nat) : Int) 1 4) (Bs h201 (Ea q201 h201) Aj))))))))
  exact Ab h201 (Ab h201 (Ab h201 (Ab h201 (Br h201 (D9 q201 h201) Aj))))
  intro b201 q201
  refine Ai rfl ?_
  have e : ([].all B0 && (Bw p.fId 1 65535 && Bw ((p.fNames.length : Nat) : Int) 1 4)) = b201 := by
   simp only [zas, za7, Cm, Ch]; grind
  rw [e]
 | y :: t, pre, m + 1, i, i1, H, he, hi, hm, s0 => by
  have hlt : pre.length < p.fNames.length := by rw [he]; simp
  have hl1 := hp.l1
  have hl2 := hp.l2
  have hl3 := hp.l3
  have hlen := hp.l2
  rw [Ml]
  try simp only [Fc, Fb]
  refine K9 (Al (c := Ee p.fNames) s0 (.here) rfl (Cn (Dd (Aq (by simp [hi]; omega) (K9 (Al (c := Ee p.fNames) s0 (.here) rfl (N3 hi he (Fh (c := .sc (.string y)) rfl (Ao (v := (.bool (B0 y))) s0 rfl (.cons .sc .nil) (M6 (n + 3) (by omega) y (hp.w2 y (by rw [he]; simp)) (Ow (hp.w2 y (by rw [he]; simp)))) (B4 (Aa ((B0 y)) (fun h201 => ?_) fun h201 => ?_)))))))))))
  refine Av (nF h201) (Bx (by omega) (by omega) ?_)
  have e202 : ((y :: t).all B0 && (Bw p.fId 1 65535 && Bw ((p.fNames.length : Nat) : Int) 1 4)) = (t.all B0 && (Bw p.fId 1 65535 && Bw ((p.fNames.length : Nat) : Int) 1 4)) := by
   simp only [zas, Cm, Ch, h3, h28, h29, h38, h39, h44, h45, h46, h47, h48, h49, h201, za5, zaS, zaC, zb4, zbg, zbL, zaH, zax, za0]
  rw [e202]
  exact Q9 n hn p hp h3 h28 h29 h38 h39 h44 h45 h46 h47 h48 h49  t (pre ++ [y]) m _ i1 _ (by rw [he]; simp) (by rw [hi]; simp) (by simpa using hm) (by simpa only [za2, zat, zaB] using (s0.sel (.cons (.here) .nil)))
  refine Aq (nT h201) (Ai rfl ?_)
  have e : ((y :: t).all B0 && (Bw p.fId 1 65535 && Bw ((p.fNames.length : Nat) : Int) 1 4)) = false := by
   simp only [zas, za7, Cm, Ch, h3, h28, h29, h38, h39, h44, h45, h46, h47, h48, h49, h201, Dv]
  rw [e]
theorem AeK (n : Nat) (hn : 1048576 < n) (p : PacketV) (hp : G8 p) : Bz E0 (n + 10) 4 64 [.agg (Ap p)] = some (.sc (.bool (A5 p))) := by
 rw [At, Al7, f64]
 refine Ce (G := (· = some (sb (A5 p)))) ?_
 have hl1 := hp.l1
 have hl2 := hp.l2
 have hl3 := hp.l3
 try simp only [Fc, Fb]
 have s0 : Sep [] [] := B5
 refine Id s0 (D0 (Cf _)) fun i1 H s2 => N9 (Al (c := si p.fType) s2 (.here) rfl (Ao (v := (.bool (Bw p.fType 1 14))) s2 rfl (Pg .nil) (Hi (n + 8) _ p.fType 1 14) (B4 (Aa ((Bw p.fType 1 14)) (fun h3 => ?_) fun h3 => ?_))))
 refine Ad (nF h3) (Ar s2 (.here) rfl (Gd.bothE ?_ ?_))
 refine Ad (nF h3) (Ar s2 (.here) rfl (Ad (nF h3) (Kg rfl rfl (W5 (n + 8) (by omega) p s2 fun Rs4 H hRs4 s4 => Ad (nF h3) (Ao (v := (.bool (Cl p (A0 true p)))) s4 rfl (.aggF (Cf _) (.agg (hRs4 _) .nil)) (Pa (n + 7) (by omega) _ p (A0 true p) hp.l1 hp.l2 hp.l3) (Ad (nF h3) (B4 (Dq (nF h3) (Aa ((Cl p (A0 true p))) (fun h5 => ?_) fun h5 => ?_)))))))))
 refine Av (nF h5) (Iu (Al (c := si p.fId) s4 (.here) rfl (Ao (v := (.bool (Bw p.fId 1 65535))) s4 rfl (Pg .nil) (Hi (n + 8) _ p.fId 1 65535) (N9 (Al (c := si p.fType) s4 (.here) rfl (A2 (Aa ((decide (p.fType = 1))) (fun h6 => ?_) fun h6 => ?_)))))))
 refine Aq h6 (Qy (Al (c := sb p.fHasWill) s4 (.here) rfl ?_))
 apply Aw (p.fHasWill && (((!(Co p.fWTopic)) || (decide (40 < ((p.fWBody.size : Nat) : Int)))) || (!(Bw p.fWQos 0 2))))
 intro b7 q7
 refine Aa (p.fHasWill) (fun h7 => ?_) fun h7 => ?_
 refine Ad h7 (V5 (Ad h7 (Al (c := ss p.fWTopic) s4 (.here) rfl (Ad h7 (Ao (v := (.bool (Co p.fWTopic))) s4 rfl (.cons .sc .nil) (Mr (n + 4) (by omega) _ p.fWTopic hp.t3) (Ad h7 (B4 (Ad h7 ?_))))))))
 apply Aw ((!(Co p.fWTopic)) || (decide (40 < ((p.fWBody.size : Nat) : Int))))
 intro b8 q8
 refine Aa ((Co p.fWTopic)) (fun h8 => ?_) fun h8 => ?_
 exact Ad (nF h8) (V6 (Ad (nF h8) (Al (c := Af p.fWBody) s4 (.here) rfl (Ad (nF h8) (Cn (Ad (nF h8) (Ec (Ad h7 (Br (nF h8) (Yk q8 (nF h8)) Aj)))))))))
 exact Ab (nT h8) (Ab (nT h8) (Ab (nT h8) (Ab (nT h8) (Ad h7 (Bs (nT h8) (Yl q8 (nT h8)) Aj)))))
 intro b8 q8
 refine Ad h7 ?_
 apply Aw (b8 || (!(Bw p.fWQos 0 2)))
 intro b9 q9
 refine Aa (b8) (fun h9 => ?_) fun h9 => ?_
 exact Ab h9 (Ab h9 (Ab h9 (Ab h9 (Ad h7 (Bs h9 (Yl q9 h9) Aj)))))
 exact Ad h9 (V7 (Ad h9 (Al (c := si p.fWQos) s4 (.here) rfl (Ad h9 (Ao (v := (.bool (Bw p.fWQos 0 2))) s4 rfl (Pg .nil) (Hi (n + 8) _ p.fWQos 0 2) (Ad h9 (B4 (Ad h7 (Br h9 (Yk q9 h9) Aj)))))))))
 intro b9 q9
 exact Bs h7 (by subst q9 q8; exact Ea q7 h7) Aj
 exact Ab h7 (Ab h7 (Ab h7 (Ab h7 (Ab h7 (Dj (Dj (Dj (Dj (Ab h7 (Ab h7 (Dj (Dj (Dj (Dj (Ab h7 (Br h7 (D9 q7 h7) Aj))))))))))))))))
 intro b7 q7
 refine Aa (b7) (fun h10 => ?_) fun h10 => ?_
 refine Aq h10 (Ai rfl ?_)
 have e : A5 p = false := by
  try simp only [Cw] at h6
  unfold A5 En
  (simp only [h3, h5, h10, Dv]; grind)
 rw [e]
 refine Av h10 (gf8 (Al (c := si p.fLevel) s4 (.here) rfl (Ao (v := (.bool (Bw p.fLevel 0 255))) s4 rfl (Pg .nil) (Hi (n + 8) _ p.fLevel 0 255) ?_)))
 apply Aw ((Bw p.fLevel 0 255) && (Bd p.fClient))
 intro b11 q11
 refine Aa ((Bw p.fLevel 0 255)) (fun h11 => ?_) fun h11 => ?_
 exact Ad h11 (gf7 (Ad h11 (Al (c := ss p.fClient) s4 (.here) rfl (Ad h11 (Ao (v := (.bool (Bd p.fClient))) s4 rfl (.cons .sc .nil) (Ip (n + 5) (by omega) _ p.fClient) (Bs h11 (Ea q11 h11) Aj))))))
 exact Ab h11 (Ab h11 (Ab h11 (Br h11 (D9 q11 h11) Aj)))
 intro b11 q11
 apply Aw (b11 && (Bw p.fKeep 0 65535))
 intro b12 q12
 refine Aa (b11) (fun h12 => ?_) fun h12 => ?_
 exact Ad h12 (V4 (Ad h12 (Al (c := si p.fKeep) s4 (.here) rfl (Ad h12 (Ao (v := (.bool (Bw p.fKeep 0 65535))) s4 rfl (Pg .nil) (Hi (n + 8) _ p.fKeep 0 65535) (Bs h12 (Ea q12 h12) Aj))))))
 exact Ab h12 (Ab h12 (Ab h12 (Br h12 (D9 q12 h12) Aj)))
 intro b12 q12
 apply Aw (b12 && (Bd p.fUser))
 intro b13 q13
 refine Aa (b12) (fun h13 => ?_) fun h13 => ?_
 exact Ad h13 (Pw (Ad h13 (Al (c := ss p.fUser) s4 (.here) rfl (Ad h13 (Ao (v := (.bool (Bd p.fUser))) s4 rfl (.cons .sc .nil) (Ip (n + 5) (by omega) _ p.fUser) (Bs h13 (Ea q13 h13) Aj))))))
 exact Ab h13 (Ab h13 (Ab h13 (Br h13 (D9 q13 h13) Aj)))
 intro b13 q13
 apply Aw (b13 && (decide (((p.fPass.size : Nat) : Int) ≤ 60)))
 intro b14 q14
 refine Aa (b13) (fun h14 => ?_) fun h14 => ?_
 exact Ad h14 (Nf (Ad h14 (Al (c := Af p.fPass) s4 (.here) rfl (Ad h14 (Cn (Ad h14 (O5 (Bs h14 (Ea q14 h14) Aj))))))))
 exact Ab h14 (Ab h14 (Ab h14 (Ab h14 (Br h14 (D9 q14 h14) Aj))))
 intro b14 q14
 refine Ai rfl ?_
 have e : A5 p = b14 := by
  try simp only [Cw] at h6
  unfold A5 En
  (simp only [h3, h5, h10, Dv]; grind)
 rw [e]
 refine Av h6 (A2 (Aa ((decide (p.fType = 2))) (fun h15 => ?_) fun h15 => ?_))
 refine Aq h15 (Ro (Al (c := si p.fCode) s4 (.here) rfl (Ao (v := (.bool (Bw p.fCode 0 5))) s4 rfl (Pg .nil) (Hi (n + 8) _ p.fCode 0 5) (Ai rfl ?_))))
 have e : A5 p = (Bw p.fCode 0 5) := by
  try simp only [Cw] at h6 h15
  unfold A5 En
  simp only [h3, h5, Dv]; simp [h6, h15]
 rw [e]
 refine Av h15 (A2 (Aa ((decide (p.fType = 3))) (fun h16 => ?_) fun h16 => ?_))
 refine Aq h16 (Pe (Al (c := si p.fQos) s4 (.here) rfl (Ao (v := (.bool (Bw p.fQos 0 2))) s4 rfl (Pg .nil) (Hi (n + 8) _ p.fQos 0 2) ?_)))
 apply Aw ((Bw p.fQos 0 2) && ((decide (p.fQos = 0)) || (Bw p.fId 1 65535)))
 intro b17 q17
 refine Aa ((Bw p.fQos 0 2)) (fun h17 => ?_) fun h17 => ?_
 refine Ad h17 (Pe (Ad h17 (Al (c := si p.fQos) s4 (.here) rfl (Ad h17 (A2 (Ad h17 ?_))))))
 apply Aw ((decide (p.fQos = 0)) || (Bw p.fId 1 65535))
 intro b18 q18
 refine Aa ((decide (p.fQos = 0))) (fun h18 => ?_) fun h18 => ?_
 exact Ab h18 (Ad h17 (Bs h18 (Yl q18 h18) Aj))
 exact Ad h18 (Ad h17 (Br h18 (Yk q18 h18) Aj))
 intro b18 q18
 exact Bs h17 (by subst q18; exact Ea q17 h17) Aj
 exact Ab h17 (Ab h17 (Ab h17 (Ab h17 (Dj (Ab h17 (Br h17 (D9 q17 h17) Aj))))))
 intro b17 q17
 apply Aw (b17 && (Co p.fTopic))
 intro b19 q19
 refine Aa (b17) (fun h19 => ?_) fun h19 => ?_
 exact Ad h19 (gf5 (Ad h19 (Al (c := ss p.fTopic) s4 (.here) rfl (Ad h19 (Ao (v := (.bool (Co p.fTopic))) s4 rfl (.cons .sc .nil) (Mr (n + 4) (by omega) _ p.fTopic hp.t1) (Bs h19 (Ea q19 h19) Aj))))))
 exact Ab h19 (Ab h19 (Ab h19 (Br h19 (D9 q19 h19) Aj)))
 intro b19 q19
 apply Aw (b19 && (decide (((p.fBody.size : Nat) : Int) ≤ 40)))
 intro b20 q20
 refine Aa (b19) (fun h20 => ?_) fun h20 => ?_
 exact Ad h20 (gf6 (Ad h20 (Al (c := Af p.fBody) s4 (.here) rfl (Ad h20 (Cn (Ad h20 (O5 (Bs h20 (Ea q20 h20) Aj))))))))
 exact Ab h20 (Ab h20 (Ab h20 (Ab h20 (Br h20 (D9 q20 h20) Aj))))
 intro b20 q20
 refine Ai rfl ?_
 have e : A5 p = b20 := by
  try simp only [Cw] at h6 h15 h16
  unfold A5 En
  (simp only [h3, h5, Dv]; grind)
 rw [e]
 refine Av h16 (A2 (De (Aa ((decide (p.fType = 12))) (fun h21 => ?_) fun h21 => ?_)))
 refine Aq h21 (Aq h21 (Ai rfl ?_))
 have e : A5 p = true := by
  try simp only [Cw] at h6 h15 h16 h21
  unfold A5 En
  simp only [h3, h5, Dv]; simp [h6, h15, h16, h21]
 rw [e]
 refine Av h21 (A2 (Aa ((decide (p.fType = 13))) (fun h22 => ?_) fun h22 => ?_))
 refine Aq h22 (Aq h22 (Ai rfl ?_))
 have e : A5 p = true := by
  try simp only [Cw] at h6 h15 h16 h21 h22
  unfold A5 En
  simp only [h3, h5, Dv]; simp [h6, h15, h16, h21, h22]
 rw [e]
 refine Av h22 (A2 (Aa ((decide (p.fType = 14))) (fun h23 => ?_) fun h23 => ?_))
 refine Aq h23 (Ai rfl ?_)
 have e : A5 p = true := by
  try simp only [Cw] at h6 h15 h16 h21 h22 h23
  unfold A5 En
  simp only [h3, h5, Dv]; simp [h6, h15, h16, h21, h22, h23]
 rw [e]
 refine Av h23 (A2 (Aa ((decide (p.fType = 8))) (fun h24 => ?_) fun h24 => ?_))
 refine Aq h24 ?_
 have hv : A5 p = (p.fWants.all Cm && (Bw p.fId 1 65535 && Bw ((p.fWants.length : Nat) : Int) 1 4)) := by
  try simp only [Cw] at h6 h15 h16 h21 h22 h23 h24
  unfold A5 En
  simp only [h3, h5, Dv]; simp [h6, h15, h16, h21, h22, h23, h24]
 rw [hv]
 exact S5 n hn p hp h3 h5 h6 h15 h16 h21 h22 h23 h24  p.fWants [] _ 0 i1 _ rfl rfl (by omega) s4
 refine Av h24 (A2 (Aa ((decide (p.fType = 9))) (fun h25 => ?_) fun h25 => ?_))
 refine Aq h25 ?_
 have hv : A5 p = (p.fCodes.all Ch && (Bw p.fId 1 65535 && Bw ((p.fCodes.length : Nat) : Int) 1 4)) := by
  try simp only [Cw] at h6 h15 h16 h21 h22 h23 h24 h25
  unfold A5 En
  simp only [h3, h5, Dv]; simp [h6, h15, h16, h21, h22, h23, h24, h25]
 rw [hv]
 exact S6 n hn p hp h3 h5 h6 h15 h16 h21 h22 h23 h24 h25  p.fCodes [] _ 0 i1 _ rfl rfl (by omega) s4
 refine Av h25 (A2 (Aa ((decide (p.fType = 10))) (fun h26 => ?_) fun h26 => ?_))
 refine Aq h26 ?_
 have hv : A5 p = (p.fNames.all B0 && (Bw p.fId 1 65535 && Bw ((p.fNames.length : Nat) : Int) 1 4)) := by
  try simp only [Cw] at h6 h15 h16 h21 h22 h23 h24 h25 h26
  unfold A5 En
  simp only [h3, h5, Dv]; simp [h6, h15, h16, h21, h22, h23, h24, h25, h26]
 rw [hv]
 exact S7 n hn p hp h3 h5 h6 h15 h16 h21 h22 h23 h24 h25 h26  p.fNames [] _ 0 i1 _ rfl rfl (by omega) s4
 refine Av h26 (Ai rfl ?_)
 have e : A5 p = (Bw p.fId 1 65535) := by
  try simp only [Cw] at h6 h15 h16 h21 h22 h23 h24 h25 h26
  unfold A5 En
  simp only [h3, h5, Dv]; simp [h6, h15, h16, h21, h22, h23, h24, h25, h26]
 rw [e]
 refine Aq (nT h5) (Ai rfl ?_)
 have e : A5 p = false := by
  unfold A5 En
  simp only [h3, h5, Dv]
 rw [e]
 refine Ad (nF h3) (Kg rfl rfl (W5 (n + 8) (by omega) p s2 fun Rs27 H hRs27 s27 => Ad (nF h3) (Ar s27 (.here) rfl (Ad (nF h3) (Ao (v := (.bool (Cl p (A0 true p)))) s27 rfl (.aggF (Cf _) (.agg (hRs27 _) .nil)) (Pa (n + 7) (by omega) _ p (A0 true p) hp.l1 hp.l2 hp.l3) (Ad (nF h3) (B4 (Dq (nF h3) (Aa ((Cl p (A0 true p))) (fun h28 => ?_) fun h28 => ?_)))))))))
 refine Av (nF h28) (Iu (Al (c := si p.fId) s27 (.here) rfl (Ao (v := (.bool (Bw p.fId 1 65535))) s27 rfl (Pg .nil) (Hi (n + 8) _ p.fId 1 65535) (N9 (Al (c := si p.fType) s27 (.here) rfl (A2 (Aa ((decide (p.fType = 1))) (fun h29 => ?_) fun h29 => ?_)))))))
 refine Aq h29 (Qy (Al (c := sb p.fHasWill) s27 (.here) rfl ?_))
 apply Aw (p.fHasWill && (((!(Co p.fWTopic)) || (decide (40 < ((p.fWBody.size : Nat) : Int)))) || (!(Bw p.fWQos 0 2))))
 intro b30 q30
 refine Aa (p.fHasWill) (fun h30 => ?_) fun h30 => ?_
 refine Ad h30 (V5 (Ad h30 (Al (c := ss p.fWTopic) s27 (.here) rfl (Ad h30 (Ao (v := (.bool (Co p.fWTopic))) s27 rfl (.cons .sc .nil) (Mr (n + 4) (by omega) _ p.fWTopic hp.t3) (Ad h30 (B4 (Ad h30 ?_))))))))
 apply Aw ((!(Co p.fWTopic)) || (decide (40 < ((p.fWBody.size : Nat) : Int))))
 intro b31 q31
 refine Aa ((Co p.fWTopic)) (fun h31 => ?_) fun h31 => ?_
 exact Ad (nF h31) (V6 (Ad (nF h31) (Al (c := Af p.fWBody) s27 (.here) rfl (Ad (nF h31) (Cn (Ad (nF h31) (Ec (Ad h30 (Br (nF h31) (Yk q31 (nF h31)) Aj)))))))))
 exact Ab (nT h31) (Ab (nT h31) (Ab (nT h31) (Ab (nT h31) (Ad h30 (Bs (nT h31) (Yl q31 (nT h31)) Aj)))))
 intro b31 q31
 refine Ad h30 ?_
 apply Aw (b31 || (!(Bw p.fWQos 0 2)))
 intro b32 q32
 refine Aa (b31) (fun h32 => ?_) fun h32 => ?_
 exact Ab h32 (Ab h32 (Ab h32 (Ab h32 (Ad h30 (Bs h32 (Yl q32 h32) Aj)))))
 exact Ad h32 (V7 (Ad h32 (Al (c := si p.fWQos) s27 (.here) rfl (Ad h32 (Ao (v := (.bool (Bw p.fWQos 0 2))) s27 rfl (Pg .nil) (Hi (n + 8) _ p.fWQos 0 2) (Ad h32 (B4 (Ad h30 (Br h32 (Yk q32 h32) Aj)))))))))
 intro b32 q32
 exact Bs h30 (by subst q32 q31; exact Ea q30 h30) Aj
 exact Ab h30 (Ab h30 (Ab h30 (Ab h30 (Ab h30 (Dj (Dj (Dj (Dj (Ab h30 (Ab h30 (Dj (Dj (Dj (Dj (Ab h30 (Br h30 (D9 q30 h30) Aj))))))))))))))))
 intro b30 q30
 refine Aa (b30) (fun h33 => ?_) fun h33 => ?_
 refine Aq h33 (Ai rfl ?_)
 have e : A5 p = false := by
  try simp only [Cw] at h29
  unfold A5 En
  (simp only [h3, h28, h33, Dv]; grind)
 rw [e]
 refine Av h33 (gf8 (Al (c := si p.fLevel) s27 (.here) rfl (Ao (v := (.bool (Bw p.fLevel 0 255))) s27 rfl (Pg .nil) (Hi (n + 8) _ p.fLevel 0 255) ?_)))
 apply Aw ((Bw p.fLevel 0 255) && (Bd p.fClient))
 intro b34 q34
 refine Aa ((Bw p.fLevel 0 255)) (fun h34 => ?_) fun h34 => ?_
 exact Ad h34 (gf7 (Ad h34 (Al (c := ss p.fClient) s27 (.here) rfl (Ad h34 (Ao (v := (.bool (Bd p.fClient))) s27 rfl (.cons .sc .nil) (Ip (n + 5) (by omega) _ p.fClient) (Bs h34 (Ea q34 h34) Aj))))))
 exact Ab h34 (Ab h34 (Ab h34 (Br h34 (D9 q34 h34) Aj)))
 intro b34 q34
 apply Aw (b34 && (Bw p.fKeep 0 65535))
 intro b35 q35
 refine Aa (b34) (fun h35 => ?_) fun h35 => ?_
 exact Ad h35 (V4 (Ad h35 (Al (c := si p.fKeep) s27 (.here) rfl (Ad h35 (Ao (v := (.bool (Bw p.fKeep 0 65535))) s27 rfl (Pg .nil) (Hi (n + 8) _ p.fKeep 0 65535) (Bs h35 (Ea q35 h35) Aj))))))
 exact Ab h35 (Ab h35 (Ab h35 (Br h35 (D9 q35 h35) Aj)))
 intro b35 q35
 apply Aw (b35 && (Bd p.fUser))
 intro b36 q36
 refine Aa (b35) (fun h36 => ?_) fun h36 => ?_
 exact Ad h36 (Pw (Ad h36 (Al (c := ss p.fUser) s27 (.here) rfl (Ad h36 (Ao (v := (.bool (Bd p.fUser))) s27 rfl (.cons .sc .nil) (Ip (n + 5) (by omega) _ p.fUser) (Bs h36 (Ea q36 h36) Aj))))))
 exact Ab h36 (Ab h36 (Ab h36 (Br h36 (D9 q36 h36) Aj)))
 intro b36 q36
 apply Aw (b36 && (decide (((p.fPass.size : Nat) : Int) ≤ 60)))
 intro b37 q37
 refine Aa (b36) (fun h37 => ?_) fun h37 => ?_
 exact Ad h37 (Nf (Ad h37 (Al (c := Af p.fPass) s27 (.here) rfl (Ad h37 (Cn (Ad h37 (O5 (Bs h37 (Ea q37 h37) Aj))))))))
 exact Ab h37 (Ab h37 (Ab h37 (Ab h37 (Br h37 (D9 q37 h37) Aj))))
 intro b37 q37
 refine Ai rfl ?_
 have e : A5 p = b37 := by
  try simp only [Cw] at h29
  unfold A5 En
  (simp only [h3, h28, h33, Dv]; grind)
 rw [e]
 refine Av h29 (A2 (Aa ((decide (p.fType = 2))) (fun h38 => ?_) fun h38 => ?_))
 refine Aq h38 (Ro (Al (c := si p.fCode) s27 (.here) rfl (Ao (v := (.bool (Bw p.fCode 0 5))) s27 rfl (Pg .nil) (Hi (n + 8) _ p.fCode 0 5) (Ai rfl ?_))))
 have e : A5 p = (Bw p.fCode 0 5) := by
  try simp only [Cw] at h29 h38
  unfold A5 En
  simp only [h3, h28, Dv]; simp [h29, h38]
 rw [e]
 refine Av h38 (A2 (Aa ((decide (p.fType = 3))) (fun h39 => ?_) fun h39 => ?_))
 refine Aq h39 (Pe (Al (c := si p.fQos) s27 (.here) rfl (Ao (v := (.bool (Bw p.fQos 0 2))) s27 rfl (Pg .nil) (Hi (n + 8) _ p.fQos 0 2) ?_)))
 apply Aw ((Bw p.fQos 0 2) && ((decide (p.fQos = 0)) || (Bw p.fId 1 65535)))
 intro b40 q40
 refine Aa ((Bw p.fQos 0 2)) (fun h40 => ?_) fun h40 => ?_
 refine Ad h40 (Pe (Ad h40 (Al (c := si p.fQos) s27 (.here) rfl (Ad h40 (A2 (Ad h40 ?_))))))
 apply Aw ((decide (p.fQos = 0)) || (Bw p.fId 1 65535))
 intro b41 q41
 refine Aa ((decide (p.fQos = 0))) (fun h41 => ?_) fun h41 => ?_
 exact Ab h41 (Ad h40 (Bs h41 (Yl q41 h41) Aj))
 exact Ad h41 (Ad h40 (Br h41 (Yk q41 h41) Aj))
 intro b41 q41
 exact Bs h40 (by subst q41; exact Ea q40 h40) Aj
 exact Ab h40 (Ab h40 (Ab h40 (Ab h40 (Dj (Ab h40 (Br h40 (D9 q40 h40) Aj))))))
 intro b40 q40
 apply Aw (b40 && (Co p.fTopic))
 intro b42 q42
 refine Aa (b40) (fun h42 => ?_) fun h42 => ?_
 exact Ad h42 (gf5 (Ad h42 (Al (c := ss p.fTopic) s27 (.here) rfl (Ad h42 (Ao (v := (.bool (Co p.fTopic))) s27 rfl (.cons .sc .nil) (Mr (n + 4) (by omega) _ p.fTopic hp.t1) (Bs h42 (Ea q42 h42) Aj))))))
 exact Ab h42 (Ab h42 (Ab h42 (Br h42 (D9 q42 h42) Aj)))
 intro b42 q42
 apply Aw (b42 && (decide (((p.fBody.size : Nat) : Int) ≤ 40)))
 intro b43 q43
 refine Aa (b42) (fun h43 => ?_) fun h43 => ?_
 exact Ad h43 (gf6 (Ad h43 (Al (c := Af p.fBody) s27 (.here) rfl (Ad h43 (Cn (Ad h43 (O5 (Bs h43 (Ea q43 h43) Aj))))))))
 exact Ab h43 (Ab h43 (Ab h43 (Ab h43 (Br h43 (D9 q43 h43) Aj))))
 intro b43 q43
 refine Ai rfl ?_
 have e : A5 p = b43 := by
  try simp only [Cw] at h29 h38 h39
  unfold A5 En
  (simp only [h3, h28, Dv]; grind)
 rw [e]
 refine Av h39 (A2 (De (Aa ((decide (p.fType = 12))) (fun h44 => ?_) fun h44 => ?_)))
 refine Aq h44 (Aq h44 (Ai rfl ?_))
 have e : A5 p = true := by
  try simp only [Cw] at h29 h38 h39 h44
  unfold A5 En
  simp only [h3, h28, Dv]; simp [h29, h38, h39, h44]
 rw [e]
 refine Av h44 (A2 (Aa ((decide (p.fType = 13))) (fun h45 => ?_) fun h45 => ?_))
 refine Aq h45 (Aq h45 (Ai rfl ?_))
 have e : A5 p = true := by
  try simp only [Cw] at h29 h38 h39 h44 h45
  unfold A5 En
  simp only [h3, h28, Dv]; simp [h29, h38, h39, h44, h45]
 rw [e]
 refine Av h45 (A2 (Aa ((decide (p.fType = 14))) (fun h46 => ?_) fun h46 => ?_))
 refine Aq h46 (Ai rfl ?_)
 have e : A5 p = true := by
  try simp only [Cw] at h29 h38 h39 h44 h45 h46
  unfold A5 En
  simp only [h3, h28, Dv]; simp [h29, h38, h39, h44, h45, h46]
 rw [e]
 refine Av h46 (A2 (Aa ((decide (p.fType = 8))) (fun h47 => ?_) fun h47 => ?_))
 refine Aq h47 ?_
 have hv : A5 p = (p.fWants.all Cm && (Bw p.fId 1 65535 && Bw ((p.fWants.length : Nat) : Int) 1 4)) := by
  try simp only [Cw] at h29 h38 h39 h44 h45 h46 h47
  unfold A5 En
  simp only [h3, h28, Dv]; simp [h29, h38, h39, h44, h45, h46, h47]
 rw [hv]
 exact Q7 n hn p hp h3 h28 h29 h38 h39 h44 h45 h46 h47  p.fWants [] _ 0 i1 _ rfl rfl (by omega) s27
 refine Av h47 (A2 (Aa ((decide (p.fType = 9))) (fun h48 => ?_) fun h48 => ?_))
 refine Aq h48 ?_
 have hv : A5 p = (p.fCodes.all Ch && (Bw p.fId 1 65535 && Bw ((p.fCodes.length : Nat) : Int) 1 4)) := by
  try simp only [Cw] at h29 h38 h39 h44 h45 h46 h47 h48
  unfold A5 En
  simp only [h3, h28, Dv]; simp [h29, h38, h39, h44, h45, h46, h47, h48]
 rw [hv]
 exact Q8 n hn p hp h3 h28 h29 h38 h39 h44 h45 h46 h47 h48  p.fCodes [] _ 0 i1 _ rfl rfl (by omega) s27
 refine Av h48 (A2 (Aa ((decide (p.fType = 10))) (fun h49 => ?_) fun h49 => ?_))
 refine Aq h49 ?_
 have hv : A5 p = (p.fNames.all B0 && (Bw p.fId 1 65535 && Bw ((p.fNames.length : Nat) : Int) 1 4)) := by
  try simp only [Cw] at h29 h38 h39 h44 h45 h46 h47 h48 h49
  unfold A5 En
  simp only [h3, h28, Dv]; simp [h29, h38, h39, h44, h45, h46, h47, h48, h49]
 rw [hv]
 exact Q9 n hn p hp h3 h28 h29 h38 h39 h44 h45 h46 h47 h48 h49  p.fNames [] _ 0 i1 _ rfl rfl (by omega) s27
 refine Av h49 (Ai rfl ?_)
 have e : A5 p = (Bw p.fId 1 65535) := by
  try simp only [Cw] at h29 h38 h39 h44 h45 h46 h47 h48 h49
  unfold A5 En
  simp only [h3, h28, Dv]; simp [h29, h38, h39, h44, h45, h46, h47, h48, h49]
 rw [e]
 refine Aq (nT h28) (Ai rfl ?_)
 have e : A5 p = false := by
  unfold A5 En
  simp only [h3, h28, Dv]
 rw [e]
 refine Ab (nT h3) (Gd.bothE ?_ ?_)
 refine Ab (nT h3) (Ab (nT h3) (Ab (nT h3) (Ab (nT h3) (Ef (nT h3) (Aq rfl (Ai rfl ?_))))))
 have e : A5 p = false := by
  unfold A5 En
  simp only [h3, Dv]
 rw [e]
 refine Ab (nT h3) (Ab (nT h3) (Ab (nT h3) (Ab (nT h3) (Ef (nT h3) (Aq rfl (Ai rfl ?_))))))
 have e : A5 p = false := by
  unfold A5 En
  simp only [h3, Dv]
 rw [e]
theorem Ke {α : Type} {e : α → α → Bool} {a : List α} (h : Ho e a [] = true) : a = [] := by
 cases a with
 | nil => rfl
 | cons x l => simp [Ho] at h
theorem Am2 (p : PacketV) : A5 p = Ah p := by
 unfold A5 Ah
 cases hi : Bw p.fType 1 14
 rfl
 simp only [za5]
 have hi2 : 1 ≤ p.fType ∧ p.fType ≤ 14 := by simpa [Bw] using hi
 by_cases h2 : p.fType = 2
 have e1 : A0 true p = { B7 p.fType with fCode := p.fCode, fPresent := p.fPresent && decide (p.fCode = 0) } := by unfold A0; simp [h2]
 have e2 : A0 false p = { B7 p.fType with fCode := p.fCode, fPresent := p.fPresent } := by unfold A0; simp [h2]
 have k1 : En p = Bw p.fCode 0 5 := by unfold En; simp [h2]
 have k2 : Cs p = (Bw p.fCode 0 5 && (!p.fPresent || decide (p.fCode = 0))) := by unfold Cs; simp [h2]
 rw [e1, e2, k1, k2]
 cases hp : p.fPresent
 simp
 by_cases hc : p.fCode = 0
 simp [hc]
 have : Cl p { B7 p.fType with fCode := p.fCode, fPresent := true && decide (p.fCode = 0) } = false := by
  unfold Cl Hl
  simp [hp, hc]
 rw [this]
 simp [hc]
 have hn : A0 true p = A0 false p := by unfold A0; simp [h2]
 rw [hn]
 cases hs : Cl p (A0 false p)
 rfl
 simp only [za5]
 have hl : Mt p (A0 false p) = true := by
  unfold Cl at hs
  rw [zae] at hs
  exact hs.1
 unfold Mt at hl
 simp only [zae] at hl
 obtain ⟨⟨l1, l2⟩, l3⟩ := hl
 by_cases h1 : p.fType = 1
 unfold En Cs Hy
 simp only [h1, if_true]
 generalize decide (((p.fWBody.size : Nat) : Int) ≤ 40) = b1
 generalize decide (((p.fPass.size : Nat) : Int) ≤ 60) = b2
 cases p.fHasWill <;> cases Co p.fWTopic <;> cases Bw p.fLevel 0 255 <;> cases Bd p.fClient <;> cases Bw p.fKeep 0 65535 <;> cases Bd p.fUser <;> cases Bw p.fWQos 0 2 <;> cases b1 <;> cases b2 <;> rfl
 by_cases h3 : p.fType = 3
 unfold En Cs
 simp only [h3, if_true, show ¬ (3 : Int) = 1 by decide, show ¬ (3 : Int) = 2 by decide, if_false]
 generalize decide (p.fQos = 0) = b1
 generalize decide (((p.fBody.size : Nat) : Int) ≤ 40) = b2
 cases Bw p.fQos 0 2 <;> cases Co p.fTopic <;> cases Bw p.fId 1 65535 <;> cases b1 <;> cases b2 <;> rfl
 by_cases h8 : p.fType = 8
 have f2 : (A0 false p).fNames = [] := by unfold A0; simp [h8, B7]
 have f3 : (A0 false p).fCodes = [] := by unfold A0; simp [h8, B7]
 rw [f2] at l2
 rw [f3] at l3
 unfold En Cs E4 I6 Jw Gr
 rw [Ke l2, Ke l3]
 simp only [h8, if_true, if_false]
 cases p.fWants.all Cm <;> cases Bw p.fId 1 65535 <;> simp
 by_cases h9 : p.fType = 9
 have f1 : (A0 false p).fWants = [] := by unfold A0; simp [h9, B7]
 have f2 : (A0 false p).fNames = [] := by unfold A0; simp [h9, B7]
 rw [f1] at l1
 rw [f2] at l2
 unfold En Cs E4 I6 Jw Gr
 rw [Ke l1, Ke l2]
 simp only [h9, if_true, if_false]
 cases p.fCodes.all Ch <;> cases Bw p.fId 1 65535 <;> simp
 by_cases h10 : p.fType = 10
 have f1 : (A0 false p).fWants = [] := by unfold A0; simp [h10, B7]
 have f3 : (A0 false p).fCodes = [] := by unfold A0; simp [h10, B7]
 rw [f1] at l1
 rw [f3] at l3
 unfold En Cs E4 I6 Jw Gr
 rw [Ke l1, Ke l3]
 simp only [h10, if_true, if_false]
 cases p.fNames.all B0 <;> cases Bw p.fId 1 65535 <;> simp
 unfold En Cs
 by_cases h12 : p.fType = 12 ∨ p.fType = 13 ∨ p.fType = 14
 rw [if_neg h1, if_neg h2, if_neg h3, if_pos h12, if_neg h1, if_neg h2, if_neg h3, if_neg (by omega), if_neg (by omega)]
 rw [if_neg h1, if_neg h2, if_neg h3, if_neg h12, if_neg h8, if_neg h9, if_neg h10, if_neg h1, if_neg h2, if_neg h3, if_pos (by omega)]
theorem Qv (n : Nat) (hn : 1048576 < n) (p : PacketV) (hp : G8 p) : Bz E0 (n + 10) 4 64 [.agg (Ap p)] = some (.sc (.bool (Ah p))) := by
 rw [← Am2]
 exact AeK n hn p hp
end
section
open Go
section
variable {β : Type} {n : Nat} {H : Ac} {L L' L1 L2 : List Ck} {G : Option β → Prop} {K : AV → Option β} {KH : KO β}
theorem Mz (n : Int) : bits .and .i64 n 255 = n % 256 := by
 have h255 : (BitVec.ofInt 64 255).toNat = 2 ^ 8 - 1 := by decide
 have key : (BitVec.ofInt 64 n &&& BitVec.ofInt 64 255).toNat = (n % ((2 ^ 64 : Nat) : Int)).toNat % 2 ^ 8 := by
  rw [BitVec.toNat_and, BitVec.toNat_ofInt, h255, Nat.and_two_pow_sub_one_eq_mod]
 show IntKind.i64.wrap ((BitVec.ofInt 64 n &&& BitVec.ofInt 64 255).toNat : Nat) = n % 256
 rw [key, IntKind.wrap_i64]
 omega
theorem N8 (n : Int) (h0 : 0 ≤ n) (h1 : n < 2 ^ 63) : IntKind.i64.wrap n = n := by rw [IntKind.wrap_i64]; omega
theorem U0 (i : Nat) (x y : Int) (hx0 : 0 ≤ x) (hx : x % 2 ^ i = 0) (hx1 : x < 9223372036854775808) (hy0 : 0 ≤ y) (hy : y < 2 ^ i) (hy1 : y < 9223372036854775808) : bits .or .i64 x y = x + y := bits_join .i64 63 (by decide) N8 i x y hx0 hx (by omega) hy0 hy (by omega)
theorem Amz (i : Nat) (x y : Int) (hx0 : 0 ≤ x) (hx : x % 2 ^ i = 0) (hx1 : x < 9223372036854775808) (hy0 : 0 ≤ y) (hy : y < 2 ^ i) (hy1 : y < 9223372036854775808) : bits .or .i64 y x = y + x := by
 have h := U0 i x y hx0 hx hx1 hy0 hy hy1
 obtain ⟨a, rfl⟩ := zbm hx0
 obtain ⟨b, rfl⟩ := zbm hy0
 rw [(bits_nat .i64 63 (by decide) N8 a b (by omega) (by omega)).2] at h
 rw [(bits_nat .i64 63 (by decide) N8 b a (by omega) (by omega)).2, Nat.or_comm, h, zbM]
theorem AeF {x y : Int} (hx0 : 0 ≤ x) (hx1 : x < 9223372036854775808) (hy0 : 0 ≤ y) (hy1 : y < 9223372036854775808) : 0 ≤ bits .or .i64 x y ∧ bits .or .i64 x y < 9223372036854775808 := by
 obtain ⟨a, rfl⟩ := zbm hx0
 obtain ⟨b, rfl⟩ := zbm hy0
 rw [(bits_nat .i64 63 (by decide) N8 a b (by omega) (by omega)).2]
 have := Nat.or_lt_two_pow (x := a) (y := b) (n := 63) (by omega) (by omega)
 omega
theorem Pi {x : Int} (h0 : 0 ≤ x) (h1 : x < 256) : bits .and .i64 x 127 = x % 128 := bits_mask .i64 63 (by decide) N8 7 (by decide) x h0 (by omega)
theorem T8 {kb : IntKind} {a b : Int} (c : Int) (hc : (2 : Int) ^ b.toNat = c) (h0 : 0 ≤ b ∧ b ≤ 64) (h : Gd G (K (.sc (.int .i64 (a / c))))) : Gd G (C7 .shr (.sc (.int .i64 a)) (.sc (.int kb b)) fun t => K t) := by
 refine D3 ?_ h
 subst hc
 show (shI .shr .i64 a b).bind _ = _
 unfold shI
 rw [if_pos (show 0 ≤ b ∧ b ≤ ((IntKind.i64.bits : Nat) : Int) from h0)]
 rfl
theorem AgP {kb : IntKind} {a b : Int} (c : Int) (hc : (2 : Int) ^ b.toNat = c) (h0 : 0 ≤ b ∧ b ≤ 64) (h1 : -9223372036854775808 ≤ a * c) (h2 : a * c ≤ 9223372036854775807) (h : Gd G (K (.sc (.int .i64 (a * c))))) : Gd G (C7 .shl (.sc (.int .i64 a)) (.sc (.int kb b)) fun t => K t) := by
 refine D3 ?_ h
 subst hc
 show (shI .shl .i64 a b).bind _ = _
 unfold shI
 rw [if_pos (show 0 ≤ b ∧ b ≤ ((IntKind.i64.bits : Nat) : Int) from h0)]
 show K (.sc (.int .i64 (IntKind.i64.wrap (a * 2 ^ b.toNat)))) = _
 rw [J2 _ h1 h2]
theorem Gz {a b c : Int} (hc : bits .and .i64 a b = c) (h : Gd G (K (.sc (.int .i64 c)))) : Gd G (C7 .and (.sc (.int .i64 a)) (.sc (.int .i64 b)) fun t => K t) := by
 subst hc
 exact h
theorem Amk {a b c : Int} (hc : bits .or .i64 a b = c) (h : Gd G (K (.sc (.int .i64 c)))) : Gd G (C7 .or (.sc (.int .i64 a)) (.sc (.int .i64 b)) fun t => K t) := by
 subst hc
 exact h
theorem Ns {a b : Int} (h0 : 0 ≤ a) (h1 : a ≤ 9223372036854775807) (hb : 0 < b) (h : Gd G (K (.sc (.int .i64 (a / b))))) : Gd G (C7 .quo (.sc (.int .i64 a)) (.sc (.int .i64 b)) fun t => K t) := by
 refine D3 ?_ h
 have e : AeX .quo .i64 a b = some (.int .i64 (a / b)) := by
  show (if b = 0 then none else some (Value.int .i64 (IntKind.i64.wrap (a.tdiv b)))) = _
  rw [if_neg (by omega), Int.tdiv_eq_ediv_of_nonneg h0]
  have h2 := Int.ediv_nonneg h0 (Int.le_of_lt hb)
  have h3 := Int.ediv_le_self b h0
  rw [J2 _ (by omega) (by omega)]
 show (AeX .quo .i64 a b).bind _ = _
 rw [e]
 rfl
theorem Lg {a : Int} (h0 : 0 ≤ a) (h1 : a < 256) (h : Gd G (K (.sc (.int .i64 a)))) : Gd G (AaO .i64 (.sc (.int .u8 a)) fun t => K t) := F8 (J2 _ (by omega) (by omega)) h
theorem Zm {m : Nat} {cells r : List AV} {i : Int} (h0 : 0 ≤ i ∧ i < (m : Nat)) (h1 : i.toNat * 1 < cells.length) (hr : cells.drop (i.toNat * 1) = r) (h : Gd G (K (.rp r))) : Gd G (Es 1 (.ro m cells) (.sc (.int .i64 i)) fun t => K t) := by
 refine D3 ?_ h
 subst hr
 show (if 0 ≤ i ∧ i < (m : Nat) then (if i.toNat * 1 < cells.length then K (.rp (cells.drop (i.toNat * 1))) else none) else none) = _
 rw [if_pos h0, if_pos h1]
theorem On {α : Sort _} {γ : Type} {G : Option γ → Prop} {x : α} {f : α → Option γ} (P : α → Prop) (hx : P x) (h : ∀ j, P j → Gd G (f j)) : Gd G (E1 x f) := h x hx
theorem Pt {ty : Nat} {f : FuncId} {args : List AV} (hh : E0.hm f = true) (he : E0.ext f = none) (h : Gd G (E7 E0 n β f args H fun x H => KH x H)) : Gd G ((PR n β).call ty (.fn f [] []) args H fun x H => KH x H) := Kg hh he (by rw [zan]; exact h)
theorem Ado (s : ByteArray) {a b : Nat} (hab : a ≤ b) (hb : b ≤ s.size) : Af (s.extract a b) = .ro (b - a) (((Bl s).drop a).take (b - a)) := by
 have e1 : (s.extract a b).size = b - a := by rw [zaw]; omega
 show AV.ro (s.extract a b).size (Bl (s.extract a b)) = _
 rw [e1]
 congr 1
 unfold Bl
 rw [ByteArray.data_extract, Array.toList_extract, List.extract_eq_take_drop, List.map_take, List.map_drop]
theorem G1 {s : ByteArray} {lo hi : Option AV} (a b : Int) (hlo : O2 lo 0 = some a) (hhi : O2 hi (s.size : Nat) = some b) (h0 : 0 ≤ a) (hab : a ≤ b) (hb : b ≤ (s.size : Nat)) (h : Gd G (K (Af (s.extract a.toNat b.toNat)))) : Gd G (Rq 1 (Af s) lo hi fun t => K t) := by
 refine D3 ?_ h
 rw [Ado s (by omega) (by omega)]
 have e : (b - a).toNat = b.toNat - a.toNat := by omega
 have hl : J6 (Af s) = some s.size := rfl
 unfold Rq
 rw [hl, zac, hlo, zac, hhi, zac, if_pos ⟨h0, hab, hb⟩]
 show K (.ro (b - a).toNat (((Bl s).drop (a.toNat * 1)).take ((b - a).toNat * 1))) = _
 rw [zbs, zbs, e]
theorem T3 : ∀ (l : List UInt8), (l.map fun b => AV.sc (.int .u8 b.toNat)).mapM Mg = some l
 | [] => rfl
 | b :: l => by
  have e : Mg (su b.toNat) = some b := by
   show some (UInt8.ofNat ((b.toNat : Nat) : Int).toNat) = _
   rw [zbo, UInt8.ofNat_toNat]
  rw [zat, za4, e, T3 l]
  rfl
theorem Xs (s : ByteArray) : Ej H 1 (Af s) = some (Bl s) := by
 show (if (Bl s).length = s.size * 1 then some (Bl s) else none) = _
 rw [if_pos (by rw [Fg]; omega)]
theorem AaM {x : AV} {ty : Nat} {s : ByteArray} (hs : Sep H L) (hty : ∃ i j, As ty = some i ∧ As i.elem = some j ∧ j.size = 1 ∧ j.cty = [5]) (hp : Pk L (.own x ty (Af s)) L1) : Ej H 1 x = some (Bl s) ∧ J6 x = some s.size := by
 obtain ⟨I, hI, hn⟩ := hs
 obtain ⟨raw, J, R, X, q1, q2, q3, q4, q5, q6, q7⟩ := AaV (cb := Bl s) hty hp (K2 s) I hI
 have := (Wr q5 (K2 s)).1
 subst this
 exact ⟨q2, q1⟩
theorem Aik (s : ByteArray) : (⟨s.data.toList.toArray⟩ : ByteArray) = s := by
 cases s
 rfl
theorem Nd {x : AV} {ty : Nat} {s : ByteArray} (hs : Sep H L) (hty : ∃ i j, As ty = some i ∧ As i.elem = some j ∧ j.size = 1 ∧ j.cty = [5]) (hp : Pk L (.own x ty (Af s)) L1) (h : Gd G (K (.sc (.string s)))) : Gd G (Sw x H fun t => K t) := by
 refine D3 ?_ h
 have e : (Bl s).mapM Mg = some s.data.toList := T3 _
 unfold Sw
 rw [(AaM hs hty hp).1, zac, e, zac, Aik]
theorem Amj {s : ByteArray} (hs : Sep H L) (hb : s.size ≤ 140737488355328) (h : ∀ i H', Sep H' (.blk i (Bl s) false :: L) → Gd G (KH (.sl i 0 s.size 1) H')) : Gd G (Wv (.sc (.string s)) H fun x H => KH x H) := by
 refine D3 (b := H4 s.size 1 (Bl s) false H fun x H => KH x H) ?_ (Cg hs h)
 show (if s.size ≤ 140737488355328 then _ else _) = _
 rw [if_pos hb]
theorem AhP {d : Nat} : ∀ {l : List AV}, l.all Pf = true → VwL L (d + 1) l l
 | [], _ => .nil
 | x :: l, h => by
  rw [zas, zae] at h
  cases x with
  | sc v => exact .cons .sc (AhP h.2)
  | _ => simp [Pf] at h
theorem vwB {d : Nat} {s : ByteArray} : VwL L (d + 1) (Bl s) (Bl s) := AhP (K2 s)
theorem AnC {s : ByteArray} : (Bl s).length = s.size * 1 := by rw [Fg, zbs]
theorem Adn (s t : ByteArray) : Af (s ++ t) = .ro (s.size + t.size) (Bl s ++ Bl t) := by
 show AV.ro (s ++ t).size (Bl (s ++ t)) = _
 rw [zaj]
 congr 1
 unfold Bl
 rw [zby, Array.toList_append, za2]
theorem Sd {ty : Nat} {x y : AV} {s t : ByteArray} (hs : Sep H L) (hty : ∃ i j, As ty = some i ∧ As i.elem = some j ∧ j.size = 1 ∧ j.cty = [5]) (hx : Pk L (.own x ty (Af s)) L1) (hy : Src H L1 1 [5] y t.size (Bl t) L2) (hb : s.size + t.size ≤ 140737488355328)
  (h : ∀ x' H', Bj x' = true → Sep H' (.own x' ty (Af (s ++ t)) :: L2) → Gd G (KH x' H')) : Gd G (Mo 1 1 x y H fun x H => KH x H) := by
 rw [Adn] at h
 exact Aa5 hs hty hx hy (Sp (by rw [AcR (w := 1) rfl, Fg, zbs]) (K2 t)) (by omega) h
theorem U2 {s : ByteArray} : Src H L 1 [5] (Af s) s.size (Bl s) L := Ah8 rfl AnC (K2 s)
theorem Ajt {ty : Nat} {x : AV} {s t : ByteArray} (hs : Sep H L) (hty : ∃ i j, As ty = some i ∧ As i.elem = some j ∧ j.size = 1 ∧ j.cty = [5]) (hx : Pk L (.own x ty (Af s)) L1) (hb : s.size + t.size ≤ 140737488355328)
  (h : ∀ x' H', Bj x' = true → Sep H' (.own x' ty (Af (s ++ t)) :: L1) → Gd G (KH x' H')) : Gd G (Wt 1 x (ss t) H fun x H => KH x H) := by
 refine D3 (b := Mo 1 1 x (Af t) H fun x H => KH x H) ?_ (Sd hs hty hx U2 hb h)
 have e1 : J6 (Af t) = some t.size := rfl
 have e2 : asS (ss t) = some t := rfl
 unfold Wt Mo
 rw [e1, e2, Xs]
 simp only [zac, Y9, if_true]
theorem Uv {ty : Nat} {x : AV} {s : ByteArray} {i : Nat} {z w : Int} {a : Bool} (hs : Sep H L) (hx : Pk L (.own x ty (Af s)) L1) (hp : Pk L1 (.blk i [.sc (.int .u8 z), .sc (.int .u8 w)] a) L2) (hty : ∃ i j, As ty = some i ∧ As i.elem = some j ∧ j.size = 1 ∧ j.cty = [5]) (hb : (0 ≤ z ∧ z < 256) ∧ (0 ≤ w ∧ w < 256) ∧ s.size + 2 ≤ 140737488355328)
  (h : ∀ x' H', Bj x' = true → Sep H' (.own x' ty (Af (A9 (A9 s z) w)) :: L2) → Gd G (KH x' H')) : Gd G (Mo 1 1 x (.sl i 0 2 1) H fun x H => KH x H) := by
 have e1 : (zah 2 [5]).flatten = [5, 5] := rfl
 have e3 : Bl (A9 s z) = Bl s ++ [su z] := by
  have := Ib s z hb.1.1 hb.1.2
  exact (AV.ro.inj this).2
 rw [Ib _ w hb.2.1.1 hb.2.1.2, Az, e3, zai] at h
 exact Aa5 (m := 2) (cb := [.sc (.int .u8 z), .sc (.int .u8 w)]) hs hty hx (Z4 hp rfl rfl (by rw [e1]; exact .sc (.sc .nil)) (by rw [e1]; exact ⟨trivial, trivial, trivial⟩)) (by rw [e1]; exact ⟨trivial, trivial, trivial⟩) (by omega) fun x' H' lx hs' => h x' H' lx hs'
theorem Sep.closeB2 {i : Nat} {z w : Int} (hs : Sep H L) (hp : Pk L (.blk i [.sc (.int .u8 z), .sc (.int .u8 w)] true) L1) (hz : (0 ≤ z ∧ z < 256) ∧ 0 ≤ w ∧ w < 256) : Sep H (.own (.sl i 0 2 1) 22 (Af (A9 (A9 ⟨#[]⟩ z) w)) :: L1) := by
 have e3 : Bl (A9 ⟨#[]⟩ z) = Bl ⟨#[]⟩ ++ [su z] := (AV.ro.inj (Ib ⟨#[]⟩ z hz.1.1 hz.1.2)).2
 rw [Ib _ w hz.2.1 hz.2.2, Az, e3]
 exact Sep.closeR (pre := []) (post := []) (cells := [su z, su w]) (sz := 1) (m := 2) ⟨_, _, rfl, rfl, rfl, rfl⟩ (hs.pick hp) rfl rfl
end
end
section
open Go
abbrev bs0 : ByteArray := ⟨#[]⟩
def An (b : ByteArray) (n : Int) : ByteArray := A9 (A9 b (n / 256 % 256 % 256)) (n % 256 % 256)
def Cz (b x : ByteArray) : ByteArray := if decide (60 < ((x.size : Nat) : Int)) then b else An b ((x.size : Nat) : Int) ++ x
def Am (b s : ByteArray) : ByteArray := if Bd s then An b ((s.size : Nat) : Int) ++ s else b
def Li : Nat → ByteArray → Int → ByteArray
  | 0, b, n => b
  | f + 1, b, n => if 127 < n then Li f (A9 b ((n % 128 + 128) % 256)) (n / 128) else A9 b (n % 256)
def Dc (b : ByteArray) (n : Int) : ByteArray := if Bw n 0 268435455 then Li 4 b n else b
def Bb (b : Bool) (n : Int) : Int := if b then n else 0
def D2 (p : PacketV) : Int := Bb p.fClean 2 + Bb p.fHasWill 4 + 8 * p.fWQos + Bb p.fWRetain 32 + Bb p.fHasPass 64 + Bb p.fHasUser 128
def Cv (p : PacketV) : Int :=
  if p.fType = 3 then 16 * p.fType + Bb p.fDup 8 + 2 * p.fQos + Bb p.fRetain 1
  else if p.fType = 6 ∨ p.fType = 8 ∨ p.fType = 10 then 16 * p.fType + 2
  else 16 * p.fType
def mqtt : ByteArray := ⟨#[77, 81, 84, 84]⟩
def G6 (p : PacketV) : ByteArray := Am (An (A9 (A9 (Am bs0 mqtt) (p.fLevel % 256)) (D2 p % 256)) p.fKeep) p.fClient
def E2 (p : PacketV) (b : ByteArray) : ByteArray := if p.fHasWill then Cz (Am b p.fWTopic) p.fWBody else b
def Dz (p : PacketV) (b : ByteArray) : ByteArray := if p.fHasUser then Am b p.fUser else b
def C5 (p : PacketV) (b : ByteArray) : ByteArray := if p.fHasPass then Cz b p.fPass else b
def Fa (p : PacketV) : ByteArray := C5 p (Dz p (E2 p (G6 p)))
def Bk (b : ByteArray) (l : List WantV) : ByteArray := l.foldl (fun b w => A9 (Am b w.fFilter) (w.fQos % 256)) b
def Do (b : ByteArray) (l : List Int) : ByteArray := l.foldl (fun b c => A9 b (c % 256)) b
def Fi (b : ByteArray) (l : List ByteArray) : ByteArray := l.foldl Am b
def Ij (p : PacketV) (b : ByteArray) : ByteArray := Fi (Do (Bk b p.fWants) p.fCodes) p.fNames
def Ha (p : PacketV) : ByteArray := (if 0 < p.fQos then An (Am bs0 p.fTopic) p.fId else Am bs0 p.fTopic) ++ p.fBody
def C3 (p : PacketV) : ByteArray :=
  if p.fType = 1 then Fa p
  else if p.fType = 2 then A9 (A9 bs0 (Bb p.fPresent 1 % 256)) (p.fCode % 256)
  else if p.fType = 3 then Ha p
  else if p.fType = 12 ∨ p.fType = 13 ∨ p.fType = 14 then bs0
  else Ij p (An bs0 p.fId)
def Jz (p : PacketV) : ByteArray := Dc (A9 bs0 (Cv p % 256)) (((C3 p).size : Nat) : Int) ++ C3 p
def Gl (p : PacketV) : ByteArray := if Ah p then Jz p else bs0
theorem Au (b : ByteArray) (n : Int) : (An b n).size = b.size + 2 := by simp only [An, Az]
theorem Iq (b x : ByteArray) : (Cz b x).size ≤ b.size + 62 := by
  unfold Cz
  split
  · omega
  · rename_i h
    rw [zaj, Au]
    simp only [decide_eq_true_eq] at h
    omega
theorem Fz {s : ByteArray} (h : Bd s = true) : s.size ≤ 60 := by
  unfold Bd at h
  rw [zae] at h
  exact of_decide_eq_true h.1
theorem Cq (b s : ByteArray) : (Am b s).size ≤ b.size + 62 := by
  unfold Am
  split
  · rename_i h
    have := Fz h
    rw [zaj, Au]
    omega
  · omega
theorem Ev : ∀ (l : List WantV) (b : ByteArray), (Bk b l).size ≤ b.size + 63 * l.length
  | [], b => zap _
  | w :: l, b => by
    have h1 := Ev l (A9 (Am b w.fFilter) (w.fQos % 256))
    have h2 := Cq b w.fFilter
    rw [Az] at h1
    simp only [zal]
    exact za9 h1 (by omega)
theorem Eu : ∀ (l : List Int) (b : ByteArray), (Do b l).size ≤ b.size + l.length
  | [], b => zap _
  | c :: l, b => by
    have h1 := Eu l (A9 b (c % 256))
    rw [Az] at h1
    simp only [zal]
    exact za9 h1 (by omega)
theorem Md : ∀ (l : List ByteArray) (b : ByteArray), (Fi b l).size ≤ b.size + 62 * l.length
  | [], b => zap _
  | s :: l, b => by
    have h1 := Md l (Am b s)
    have h2 := Cq b s
    simp only [zal]
    exact za9 h1 (by omega)
theorem AaC : ∀ (f : Nat) (b : ByteArray) (n : Int), (Li f b n).size ≤ b.size + f
  | 0, b, n => zap _
  | f + 1, b, n => by
    unfold Li
    split
    · have := AaC f (A9 b ((n % 128 + 128) % 256)) (n / 128)
      rw [Az] at this
      omega
    · rw [Az]
      omega
theorem Xi (b : ByteArray) (n : Int) : (Dc b n).size ≤ b.size + 4 := by
  unfold Dc
  split
  · exact AaC 4 b n
  · omega
def Bo (B : ByteArray) (a : Int) : Int × Int × Bool := if a < 0 ∨ ((B.size : Nat) : Int) - 2 < a then (0, 0, false) else (A7 B a * 256 + A7 B (a + 1), a + 2, true)
def Bi (B : ByteArray) (a : Int) : ByteArray × Int × Bool :=
  if (Bo B a).2.2 = false ∨ 60 < (Bo B a).1 ∨ ((B.size : Nat) : Int) - (Bo B a).2.1 < (Bo B a).1 then (bs0, 0, false)
  else (B.extract (Bo B a).2.1.toNat ((Bo B a).2.1 + (Bo B a).1).toNat, (Bo B a).2.1 + (Bo B a).1, true)
def B3 (B : ByteArray) (a : Int) : ByteArray × Int × Bool := if (Bi B a).2.2 && Bd (Bi B a).1 then Bi B a else (bs0, 0, false)
theorem Gj {B : ByteArray} {a w x : Int} {o : Bool} (h : Bo B a = (w, x, o)) : 0 ≤ w ∧ w < 65536 ∧ 0 ≤ x ∧ x ≤ ((B.size : Nat) : Int) ∧ (o = true → x = a + 2 ∧ 0 ≤ a) := by
  unfold Bo at h
  have h1 := D6 B a
  have h2 := D6 B (a + 1)
  split at h <;> cases h <;> refine ⟨by omega, by omega, by omega, by omega, fun _ => ?_⟩
  · rename_i h; cases h
  · omega
theorem Fw {B v : ByteArray} {a x : Int} {o : Bool} (h : Bi B a = (v, x, o)) : v.size ≤ 60 ∧ 0 ≤ x ∧ x ≤ ((B.size : Nat) : Int) ∧ (o = true → a + 2 ≤ x ∧ 0 ≤ a) := by
  unfold Bi at h
  obtain ⟨w, y, q, e⟩ : ∃ w y q, Bo B a = (w, y, q) := ⟨_, _, _, rfl⟩
  have hb := Gj e
  rw [e] at h
  split at h
  · cases h
    exact ⟨by decide, by omega, by omega, fun h => by cases h⟩
  · rename_i hn
    simp only [not_or, Int.not_lt] at hn
    cases h
    have h5 := hb.2.2.2.2 (by simpa using hn.1)
    refine ⟨?_, by show 0 ≤ y + w; omega, by show y + w ≤ _; omega, fun _ => ⟨by show a + 2 ≤ y + w; omega, h5.2⟩⟩
    rw [zaw]
    show min (y + w).toNat B.size - y.toNat ≤ 60
    omega
theorem G5 {B v : ByteArray} {a x : Int} {o : Bool} (h : B3 B a = (v, x, o)) : v.size ≤ 60 ∧ 0 ≤ x ∧ x ≤ ((B.size : Nat) : Int) ∧ (o = true → a + 2 ≤ x ∧ 0 ≤ a) := by
  unfold B3 at h
  split at h
  · exact Fw h
  · cases h
    exact ⟨by decide, by omega, by omega, fun h => by cases h⟩
abbrev Sc := Int × Bool
def Lv (B : ByteArray) (s : Sc) : Int × Sc := if s.2 || decide (((B.size : Nat) : Int) ≤ s.1) then (0, s.1, true) else (A7 B s.1, s.1 + 1, s.2)
def Hs (B : ByteArray) (s : Sc) : Int × Sc := if s.2 || !(Bo B s.1).2.2 then (0, s.1, true) else ((Bo B s.1).1, (Bo B s.1).2.1, s.2)
def Et (B : ByteArray) (s : Sc) : ByteArray × Sc := if s.2 || !(Bi B s.1).2.2 then (bs0, s.1, true) else ((Bi B s.1).1, (Bi B s.1).2.1, s.2)
theorem Qw {B : ByteArray} {a b v : Int} {p q : Bool} (h : Lv B (a, p) = (v, b, q)) (h0 : 0 ≤ a) (h1 : a ≤ ((B.size : Nat) : Int)) : (0 ≤ v ∧ v < 256) ∧ 0 ≤ b ∧ b ≤ ((B.size : Nat) : Int) := by
  unfold Lv at h
  have := D6 B a
  split at h
  · cases h
    exact ⟨by omega, h0, h1⟩
  · rename_i hn
    simp only [zaP, not_or, decide_eq_true_eq, Int.not_le] at hn
    cases h
    exact ⟨this, by omega, by omega⟩
theorem Ty {B : ByteArray} {a b v : Int} {p q : Bool} (h : Hs B (a, p) = (v, b, q)) (h0 : 0 ≤ a) (h1 : a ≤ ((B.size : Nat) : Int)) : (0 ≤ v ∧ v < 65536) ∧ 0 ≤ b ∧ b ≤ ((B.size : Nat) : Int) := by
  unfold Hs at h
  obtain ⟨w, y, o, e⟩ : ∃ w y o, Bo B a = (w, y, o) := ⟨_, _, _, rfl⟩
  have hb := Gj e
  rw [show (a, p).1 = a from rfl, e] at h
  split at h <;> cases h
  · omega
  · show (0 ≤ w ∧ w < 65536) ∧ 0 ≤ y ∧ y ≤ _
    omega
theorem Fq {B v : ByteArray} {a b : Int} {p q : Bool} (h : Et B (a, p) = (v, b, q)) (h0 : 0 ≤ a) (h1 : a ≤ ((B.size : Nat) : Int)) : v.size ≤ 60 ∧ 0 ≤ b ∧ b ≤ ((B.size : Nat) : Int) := by
  unfold Et at h
  obtain ⟨w, y, o, e⟩ : ∃ w y o, Bi B a = (w, y, o) := ⟨_, _, _, rfl⟩
  have hb := Fw e
  rw [show (a, p).1 = a from rfl, e] at h
  split at h <;> cases h
  · exact ⟨by decide, h0, h1⟩
  · exact ⟨hb.1, hb.2.1, hb.2.2.1⟩
def D7 (B : ByteArray) (a : Int) : Nat → Int → Int → Int × Int × Int
  | 0, _, _ => (0, 0, 2)
  | f + 1, i, n =>
    if ((B.size : Nat) : Int) ≤ a + i then (0, 0, 1)
    else if A7 B (a + i) < 128 then (if 0 < i ∧ A7 B (a + i) = 0 then (0, 0, 2) else (bits .or .i64 n (bits .and .i64 (A7 B (a + i)) 127 * 2 ^ (7 * i).toNat), a + i + 1, 0))
    else D7 B a f (i + 1) (bits .or .i64 n (bits .and .i64 (A7 B (a + i)) 127 * 2 ^ (7 * i).toNat))
def C1 (B : ByteArray) (a : Int) : Int × Int × Int := if a < 0 ∨ ((B.size : Nat) : Int) < a then (0, 0, 2) else D7 B a 4 0 0
def Gy (f m : Int) : Bool := !decide (bits .and .i64 f m = 0)
def Ft (B : ByteArray) : PacketV :=
  let r0 := Et B (0, false)
  let r1 := Lv B r0.2
  let r2 := Lv B r1.2
  let r3 := Hs B r2.2
  let r4 := Et B r3.2
  let q5 := if Gy r2.1 4 then Et B r4.2 else (bs0, r4.2)
  let q6 := if Gy r2.1 4 then Et B q5.2 else (bs0, q5.2)
  let q7 := if Gy r2.1 128 then Et B q6.2 else (bs0, q6.2)
  let q8 := if Gy r2.1 64 then Et B q7.2 else (bs0, q7.2)
  { B7 1 with fLevel := r1.1, fKeep := r3.1, fClient := r4.1, fClean := Gy r2.1 2, fHasWill := Gy r2.1 4, fHasPass := Gy r2.1 64, fHasUser := Gy r2.1 128, fWQos := if Gy r2.1 4 then bits .and .i64 (r2.1 / 8) 3 else 0, fWRetain := if Gy r2.1 4 then Gy r2.1 32 else false, fWTopic := q5.1, fWBody := q6.1, fUser := q7.1, fPass := q8.1 }
def Cc (t : Int) (B : ByteArray) : Nat → Sc → List WantV → List Int → List ByteArray → List WantV × List Int × List ByteArray
  | 0, _, ws, cs, ns => (ws, cs, ns)
  | f + 1, s, ws, cs, ns =>
    if (!s.2 && decide (s.1 < ((B.size : Nat) : Int))) && decide (((ws.length : Nat) : Int) + ((cs.length : Nat) : Int) + ((ns.length : Nat) : Int) ≤ 4) then
      (if t = 8 then Cc t B f (Lv B (Et B s).2).2 (ws ++ [⟨(Et B s).1, (Lv B (Et B s).2).1⟩]) cs ns
      else if t = 9 then Cc t B f (Lv B s).2 ws (cs ++ [(Lv B s).1]) ns
      else if t = 10 then Cc t B f (Et B s).2 ws cs (ns ++ [(Et B s).1])
      else Cc t B f (s.1, true) ws cs ns)
    else (ws, cs, ns)
def Dr (first : Int) (B : ByteArray) : PacketV :=
  let t := first / 16
  if t = 1 then Ft B
  else if t = 2 then { B7 t with fPresent := decide ((Lv B (0, false)).1 = 1), fCode := (Lv B (Lv B (0, false)).2).1 }
  else if t = 3 then
    (let r := Et B (0, false)
     let w := if 0 < bits .and .i64 (first / 2) 3 then Hs B r.2 else (0, r.2)
     { B7 t with fDup := Gy first 8, fQos := bits .and .i64 (first / 2) 3, fRetain := Gy first 1, fTopic := r.1, fId := w.1, fBody := if w.2.2 then bs0 else B.extract w.2.1.toNat B.size })
  else if t = 12 ∨ t = 13 ∨ t = 14 then B7 t
  else { B7 t with fId := (Hs B (0, false)).1, fWants := (Cc t B 8 (Hs B (0, false)).2 [] [] []).1, fCodes := (Cc t B 8 (Hs B (0, false)).2 [] [] []).2.1, fNames := (Cc t B 8 (Hs B (0, false)).2 [] [] []).2.2 }
def D1 (first : Int) : Bool :=
  if first / 16 = 3 then (!decide (bits .and .i64 (first % 16 / 2) 3 = 3) && (decide (0 < bits .and .i64 (first % 16 / 2) 3) || decide (bits .and .i64 (first % 16) 8 = 0)))
  else if first / 16 = 6 ∨ first / 16 = 8 ∨ first / 16 = 10 then decide (first % 16 = 2)
  else Bw (first / 16) 1 14 && decide (first % 16 = 0)
def Fk (first : Int) : Bool :=
  if first / 16 = 0 ∨ first / 16 = 15 then false
  else if first / 16 = 3 then (decide (first % 16 / 2 % 4 < 3) && (decide (0 < first % 16 / 2 % 4) || decide (first % 16 < 8)))
  else if first / 16 = 6 ∨ first / 16 = 8 ∨ first / 16 = 10 then decide (first % 16 = 2)
  else decide (first % 16 = 0)
theorem Ae2 : ∀ X : Fin 256, Fk ((X.val : Nat) : Int) = D1 ((X.val : Nat) : Int) := by decide +kernel
theorem AgM {f : Int} (h0 : 0 ≤ f) (h1 : f < 256) : Fk f = D1 f := by
  obtain ⟨k, rfl⟩ := zbm h0
  exact Ae2 ⟨k, by omega⟩
theorem W4 {x i : Int} (hx : 0 ≤ x ∧ x ≤ 127) (hi : 0 ≤ i ∧ i ≤ 3) : 0 ≤ x * 2 ^ (7 * i).toNat ∧ x * 2 ^ (7 * i).toNat ≤ 268435456 := by
  have : i = 0 ∨ i = 1 ∨ i = 2 ∨ i = 3 := by omega
  rcases this with rfl | rfl | rfl | rfl <;> simp <;> omega
theorem AaE (B : ByteArray) (a : Int) (ha : 0 ≤ a) : ∀ (f : Nat) (i z : Int), 0 ≤ i → i + f = 4 → (0 ≤ z ∧ z < 9223372036854775808) → (D7 B a f i z).2.2 = 0 → (0 ≤ (D7 B a f i z).1 ∧ (D7 B a f i z).1 < 9223372036854775808) ∧ a ≤ (D7 B a f i z).2.1 ∧ (D7 B a f i z).2.1 ≤ ((B.size : Nat) : Int)
  | 0, i, z, _, _, _, h => by simp [D7] at h
  | f + 1, i, z, h0, h1, hz, h => by
    rw [D7] at h ⊢
    have hb := D6 B (a + i)
    have hs := W4 (x := bits .and .i64 (A7 B (a + i)) 127) (i := i) (by rw [Pi hb.1 hb.2]; omega) (by omega)
    have ho := AeF (x := z) (y := bits .and .i64 (A7 B (a + i)) 127 * 2 ^ (7 * i).toNat) hz.1 hz.2 hs.1 (by omega)
    split at h
    · simp at h
    rename_i h2
    rw [if_neg h2]
    split at h
    · rename_i h3
      rw [if_pos h3]
      split at h
      · simp at h
      rename_i h4
      rw [if_neg h4]
      exact ⟨ho, by show a ≤ a + i + 1; omega, by show a + i + 1 ≤ _; omega⟩
    · rename_i h3
      rw [if_neg h3]
      exact AaE B a ha f (i + 1) _ (by omega) (by omega) ho h
theorem Ru {B : ByteArray} {a : Int} (h : (C1 B a).2.2 = 0) : (0 ≤ (C1 B a).1 ∧ (C1 B a).1 < 9223372036854775808) ∧ a ≤ (C1 B a).2.1 ∧ (C1 B a).2.1 ≤ ((B.size : Nat) : Int) := by
  unfold C1 at h ⊢
  split at h
  · simp at h
  rename_i h2
  rw [if_neg h2]
  exact AaE B a (by omega) 4 0 0 (by omega) (by omega) (by omega) h
def Ht (p : PacketV) (q5 q6 q7 q8 : ByteArray × Int × Bool) : PacketV :=
  if !q5.2.2 || !q6.2.2 then B7 0 else if !q7.2.2 then B7 0 else if !q8.2.2 then B7 0 else { p with fWTopic := q5.1, fWBody := q6.1, fUser := q7.1, fPass := q8.1 }
def El (c : Bool) (x : Int → ByteArray × Int × Bool) (a : Int) : ByteArray × Int × Bool := if c then x a else (bs0, a, true)
def Hu (B : ByteArray) (f : Int) (p : PacketV) (a : Int) : PacketV :=
  Ht p (El (decide (0 < bits .and .i64 f 4)) (B3 B) a)
    (El (decide (0 < bits .and .i64 f 4)) (Bi B) (El (decide (0 < bits .and .i64 f 4)) (B3 B) a).2.1)
    (El (decide (0 < bits .and .i64 f 128)) (B3 B) (El (decide (0 < bits .and .i64 f 4)) (Bi B) (El (decide (0 < bits .and .i64 f 4)) (B3 B) a).2.1).2.1)
    (El (decide (0 < bits .and .i64 f 64)) (Bi B) (El (decide (0 < bits .and .i64 f 128)) (B3 B) (El (decide (0 < bits .and .i64 f 4)) (Bi B) (El (decide (0 < bits .and .i64 f 4)) (B3 B) a).2.1).2.1).2.1)
def Gm (B : ByteArray) (f l k : Int) (c : ByteArray) : PacketV := { B7 1 with fLevel := l, fClean := decide (0 < bits .and .i64 f 2), fHasWill := decide (0 < bits .and .i64 f 4), fWQos := bits .and .i64 (f / 8) 3, fWRetain := decide (0 < bits .and .i64 f 32), fHasPass := decide (0 < bits .and .i64 f 64), fHasUser := decide (0 < bits .and .i64 f 128), fKeep := k, fClient := c }
def Hv (B : ByteArray) (a : Int) (r3 : Int × Int × Bool) (r4 : ByteArray × Int × Bool) : PacketV :=
  if !r3.2.2 || !r4.2.2 then B7 0 else Hu B (A7 B (a + 1)) (Gm B (A7 B (a + 1)) (A7 B a) r3.1 r4.1) r4.2.1
def H7 (B : ByteArray) (r0 : ByteArray × Int × Bool) : PacketV :=
  if !r0.2.2 || (!(r0.1.toList == mqtt.toList) || decide (((B.size : Nat) : Int) - 2 < r0.2.1)) then B7 0 else Hv B r0.2.1 (Bo B (r0.2.1 + 2)) (B3 B (Bo B (r0.2.1 + 2)).2.1)
def A1 (B : ByteArray) : PacketV := H7 B (B3 B 0)
def Lw (first : Int) : Int := bits .and .i64 (first / 2) 3
def Gq (B : ByteArray) : Nat → Int → List Int → List Int
  | 0, _, cs => cs
  | f + 1, a, cs => if a < ((B.size : Nat) : Int) then Gq B f (a + 1) (cs ++ [A7 B a]) else cs
def C0 (t : Int) (B : ByteArray) : Nat → Int → List WantV → List ByteArray → Option (List WantV × List ByteArray)
  | 0, _, ws, ns => some (ws, ns)
  | f + 1, a, ws, ns =>
    if decide (a < ((B.size : Nat) : Int)) && (decide (t = 8) || decide (t = 10)) then
      (if (B3 B a).2.2 then
        (if t = 10 then C0 t B f (B3 B a).2.1 ws (ns ++ [(B3 B a).1])
        else if (B3 B a).2.1 = ((B.size : Nat) : Int) then none
        else C0 t B f ((B3 B a).2.1 + 1) (ws ++ [⟨(B3 B a).1, A7 B (B3 B a).2.1⟩]) ns)
      else none)
    else some (ws, ns)
def Mv (t id : Int) (cs : List Int) : Option (List WantV × List ByteArray) → PacketV
  | none => B7 0
  | some r => { B7 t with fId := id, fCodes := cs, fWants := r.1, fNames := r.2 }
def H8 (first : Int) (B : ByteArray) (c : ByteArray) (w : Int × Int × Bool) : PacketV :=
  if !w.2.2 then B7 0 else { B7 (first / 16) with fDup := decide (0 < bits .and .i64 first 8), fQos := Lw first, fRetain := decide (0 < bits .and .i64 first 1), fTopic := c, fId := w.1, fBody := B.extract w.2.1.toNat B.size }
def F5 (t : Int) (B : ByteArray) (w : Int × Int × Bool) : PacketV :=
  if !w.2.2 then B7 0 else Mv t w.1 (if t = 9 then Gq B (B.size + 1) w.2.1 [] else []) (C0 t B (B.size + 1) w.2.1 [] [])
def Dm (first : Int) (B : ByteArray) : PacketV :=
  if first / 16 = 1 then A1 B
  else if first / 16 = 2 ∧ ((B.size : Nat) : Int) = 2 then { B7 (first / 16) with fPresent := A7 B 0 == 1, fCode := A7 B 1 }
  else if first / 16 = 3 then (if !(B3 B 0).2.2 then B7 0 else H8 first B (B3 B 0).1 (if 0 < Lw first then Bo B (B3 B 0).2.1 else (0, (B3 B 0).2.1, true)))
  else F5 (first / 16) B (if first / 16 < 12 then Bo B 0 else (0, 0, true))
end
section
open Go
theorem Q0 {a b : ByteArray} (h : (a.toList == b.toList) = true) : a = b := eqB.1 h
theorem Acs {α : Type} {e : α → α → Bool} (he : ∀ x y, e x y = true → x = y) : ∀ (a b : List α), a.length = b.length → J5 e a b = true → a = b
 | [], [], _, _ => rfl
 | x :: a, y :: b, h, h2 => by
  rw [J5] at h2
  split at h2
  case isFalse => cases h2
  rw [he x y (by assumption), Acs he a b (by simpa using h) h2]
 | [], _ :: _, h, _ => by simp at h
 | _ :: _, [], h, _ => by simp at h
theorem Te {α : Type} {e : α → α → Bool} (he : ∀ x y, e x y = true → x = y) {a b : List α} (h : Ho e a b = true) : a = b := by
 unfold Ho at h
 split at h
 exact Acs he a b (by assumption) h
 cases h
theorem AjU {a b : PacketV} (h : Cl a b = true) : a = b := by
 unfold Cl Mt Hl at h
 simp only [zae] at h
 obtain ⟨⟨⟨k1, k2⟩, k3⟩, h⟩ := h
 obtain ⟨⟨⟨⟨⟨⟨⟨⟨⟨⟨⟨⟨⟨⟨⟨⟨⟨⟨⟨⟨⟨h1, h2⟩, h3⟩, h4⟩, h5⟩, h6⟩, h7⟩, h8⟩, h9⟩, h10⟩, h11⟩, h12⟩, h13⟩, h14⟩, h15⟩, h16⟩, h17⟩, h18⟩, h19⟩, h20⟩, h21⟩, h22⟩ := h
 have w1 := Te (fun x y e => by
  unfold Kf at e
  rw [zae] at e
  cases x
  cases y
  simp only [WantV.mk.injEq]
  exact ⟨Q0 e.1, by simpa using e.2⟩) k1
 have w2 := Te (fun x y e => Q0 e) k2
 have w3 := Te (fun x y e => by simpa [eqI] using e) k3
 cases a
 cases b
 simp only [PacketV.mk.injEq]
 exact ⟨by simpa using h1, by simpa using h2, by simpa using h3, by simpa using h4, by simpa using h5, Q0 h6, Q0 h7, Q0 h8, by simpa using h9, by simpa using h10, by simpa using h11, by simpa using h12, Q0 h13, Q0 h14, by simpa using h15, by simpa using h16, by simpa using h17, Q0 h18, by simpa using h19, Q0 h20, by simpa using h21, by simpa using h22, w1, w2, w3⟩
theorem Hk {p : PacketV} (h : Ah p = true) : (1 ≤ p.fType ∧ p.fType ≤ 14) ∧ p = A0 false p ∧ Cs p = true := by
 unfold Ah at h
 simp only [zae] at h
 refine ⟨by simpa [Bw] using h.1, AjU h.2.1, h.2.2⟩
structure PkF (p : PacketV) : Prop where
 ty : 1 ≤ p.fType ∧ p.fType ≤ 14
 q : 0 ≤ p.fQos ∧ p.fQos ≤ 2
 wq : 0 ≤ p.fWQos ∧ p.fWQos ≤ 2
 i : 0 ≤ p.fId ∧ p.fId ≤ 65535
theorem Hf {x a b : Int} : Bw x a b = true ↔ a ≤ x ∧ x ≤ b := by simp [Bw]
theorem Mp {p : PacketV} (h : Ah p = true) : (p.fType ≠ 3 → p.fQos = 0) ∧ (p.fType ≠ 1 → p.fWQos = 0) ∧ (p.fHasWill = false → p.fWQos = 0) ∧ (p.fQos = 0 → p.fType = 3 → p.fId = 0) ∧ (p.fType = 1 ∨ p.fType = 2 ∨ 12 ≤ p.fType → p.fId = 0) ∧ (p.fType ≠ 8 → p.fWants = []) ∧ (p.fType ≠ 9 → p.fCodes = []) ∧ (p.fType ≠ 10 → p.fNames = []) := by
 obtain ⟨ht, hn, hk⟩ := Hk h
 have q1 := congrArg PacketV.fQos hn
 have q2 := congrArg PacketV.fWQos hn
 have q3 := congrArg PacketV.fId hn
 have q4 := congrArg PacketV.fWants hn
 have q5 := congrArg PacketV.fCodes hn
 have q6 := congrArg PacketV.fNames hn
 clear hn hk h
 unfold A0 Dx Dy at q1 q2 q3 q4 q5 q6
 refine ⟨fun e => ?_, fun e => ?_, fun e => ?_, fun e e2 => ?_, fun e => ?_, fun e => ?_, fun e => ?_, fun e => ?_⟩
 ·rw [q1]; (repeat' split) <;> (rfl)
 ·rw [q2]; (repeat' split) <;> first | rfl | (exfalso; omega)
 ·rw [q2, e]; (repeat' split) <;> first | rfl | contradiction
 ·rw [q3]; (repeat' split) <;> first | rfl | (exfalso; omega)
 ·rw [q3]; (repeat' split) <;> first | rfl | (exfalso; omega)
 ·rw [q4]; (repeat' split) <;> (rfl)
 ·rw [q5]; (repeat' split) <;> (rfl)
 ·rw [q6]; (repeat' split) <;> (rfl)
theorem Jj {p : PacketV} (h : Ah p = true) : PkF p := by
 obtain ⟨ht, hn, hk⟩ := Hk h
 obtain ⟨k1, k2, k3, k4, k5, _⟩ := Mp h
 unfold Cs at hk
 refine ⟨ht, ?_, ?_, ?_⟩
 by_cases h3 : p.fType = 3
 rw [if_neg (by omega), if_neg (by omega), if_pos h3] at hk
 simp only [zae, Hf] at hk
 exact hk.1
 rw [k1 h3]
 decide
 by_cases h1 : p.fType = 1
 rw [if_pos h1] at hk
 unfold Hy at hk
 cases hw : p.fHasWill
 rw [k3 hw]
 decide
 simp only [hw, zae, Hf, zax, zaC] at hk
 exact hk.2.2.2.1.2.2
 rw [k2 h1]
 decide
 by_cases h5 : p.fType = 1 ∨ p.fType = 2 ∨ 12 ≤ p.fType
 rw [k5 h5]
 decide
 by_cases h3 : p.fType = 3
 by_cases hq : p.fQos = 0
 rw [k4 hq h3]
 decide
 rw [if_neg (by omega), if_neg (by omega), if_pos h3] at hk
 simp only [zae, Hf, zaP, decide_eq_true_eq] at hk
 omega
 rw [if_neg (by omega), if_neg (by omega), if_neg h3] at hk
 by_cases h4 : p.fType = 4 ∨ p.fType = 5 ∨ p.fType = 6 ∨ p.fType = 7 ∨ p.fType = 11
 rw [if_pos h4, Hf] at hk
 omega
 rw [if_neg h4, if_pos (by omega)] at hk
 simp only [zae, Hf] at hk
 omega
end
section
open Go
theorem O0 (B : ByteArray) (a : Int) : (Bi B a).1.size ≤ 60 := by
 obtain ⟨v, x, o, e⟩ : ∃ v x o, Bi B a = (v, x, o) := ⟨_, _, _, rfl⟩
 rw [e]
 exact (Fw e).1
theorem Um (B : ByteArray) (a : Int) : (B3 B a).1.size ≤ 60 := by
 unfold B3
 split
 exact O0 B a
 decide
theorem Xg (B : ByteArray) (s : Sc) : (Et B s).1.size ≤ 60 := by
 unfold Et
 split
 exact zaz _
 exact O0 B s.1
structure PkB (k : Nat) (p : PacketV) : Prop where
 t1 : p.fTopic.size ≤ 60
 t2 : p.fClient.size ≤ 60
 t3 : p.fWTopic.size ≤ 60
 t4 : p.fUser.size ≤ 60
 b1 : p.fWBody.size ≤ 60
 b2 : p.fPass.size ≤ 60
 b3 : p.fBody.size ≤ k
 l1 : p.fWants.length ≤ k
 l2 : p.fNames.length ≤ k
 l3 : p.fCodes.length ≤ k
 w1 : ∀ y ∈ p.fWants, y.fFilter.size ≤ 60
 w2 : ∀ y ∈ p.fNames, y.size ≤ 60
theorem PkB.hyp {k : Nat} {p : PacketV} (h : PkB k p) (hk : k ≤ 1048576) : G8 p := by
 obtain ⟨t1, t2, t3, t4, b1, b2, b3, l1, l2, l3, w1, w2⟩ := h
 exact ⟨by omega, by omega, by omega, by omega, by omega, by omega, by omega, fun y hy => za9 (w1 y hy) (by decide), fun y hy => za9 (w2 y hy) (by decide)⟩
theorem Ng (k : Nat) (t : Int) : PkB k (B7 t) := ⟨zaz _, zaz _, zaz _, zaz _, zaz _, zaz _, zaz _, zaz _, zaz _, zaz _, fun y hy => (nomatch hy), fun y hy => (nomatch hy)⟩
theorem Zp {c : Prop} [Decidable c] {x y : ByteArray × Sc} (hx : x.1.size ≤ 60) (hy : y.1.size ≤ 60) : (if c then x else y).1.size ≤ 60 := by
 split
 exact hx
 exact hy
theorem N0 (t : Int) (B : ByteArray) : ∀ (f : Nat) (s : Sc) (ws : List WantV) (cs : List Int) (ns : List ByteArray), ws.length + cs.length + ns.length ≤ 5 → (∀ y ∈ ws, y.fFilter.size ≤ 60) → (∀ y ∈ ns, y.size ≤ 60) → ((Cc t B f s ws cs ns).1.length ≤ 5 ∧ (Cc t B f s ws cs ns).2.1.length ≤ 5 ∧ (Cc t B f s ws cs ns).2.2.length ≤ 5) ∧ (∀ y ∈ (Cc t B f s ws cs ns).1, y.fFilter.size ≤ 60) ∧ ∀ y ∈ (Cc t B f s ws cs ns).2.2, y.size ≤ 60
 | 0, s, ws, cs, ns, hl, h1, h2 => ⟨⟨by show ws.length ≤ 5; omega, by show cs.length ≤ 5; omega, by show ns.length ≤ 5; omega⟩, h1, h2⟩
 | f + 1, s, ws, cs, ns, hl, h1, h2 => by
  rw [Cc]
  split
  rename_i hc
  simp only [zae, decide_eq_true_eq] at hc
  have hb := Xg B s
  split
  refine N0 t B f _ _ _ _ (by simp only [zaf, zaq]; omega) (fun y hy => ?_) h2
  rcases zaV.1 hy with hy | hy
  exact h1 y hy
  rw [zbk.1 hy]
  exact hb
  split
  exact N0 t B f _ _ _ _ (by simp only [zaf, zaq]; omega) h1 h2
  split
  refine N0 t B f _ _ _ _ (by simp only [zaf, zaq]; omega) h1 (fun y hy => ?_)
  rcases zaV.1 hy with hy | hy
  exact h2 y hy
  rw [zbk.1 hy]
  exact hb
  exact N0 t B f _ _ _ _ hl h1 h2
  exact ⟨⟨by show ws.length ≤ 5; omega, by show cs.length ≤ 5; omega, by show ns.length ≤ 5; omega⟩, h1, h2⟩
theorem AkF (first : Int) (B : ByteArray) {k : Nat} (hk : B.size ≤ k) : PkB (k + 5) (Dr first B) := by
 have h0 : (0 : Nat) ≤ 60 := zaz _
 have hb := Xg B
 unfold Dr
 dsimp only
 split
 unfold Ft
 dsimp only
 exact ⟨h0, hb _, Zp (hb _) h0, Zp (hb _) h0, Zp (hb _) h0, Zp (hb _) h0, zaz _, zaz _, zaz _, zaz _, fun y hy => (nomatch hy), fun y hy => (nomatch hy)⟩
 split
 exact ⟨h0, h0, h0, h0, h0, h0, zaz _, zaz _, zaz _, zaz _, fun y hy => (nomatch hy), fun y hy => (nomatch hy)⟩
 split
 have hB : ∀ (x : Bool) (i : Nat), (if x = true then bs0 else B.extract i B.size).size ≤ k + 5 := fun x i => by
  split
  exact zaz _
  rw [zaw]
  omega
 exact ⟨hb _, h0, h0, h0, h0, h0, hB _ _, zaz _, zaz _, zaz _, fun y hy => (nomatch hy), fun y hy => (nomatch hy)⟩
 split
 exact Ng _ _
 have h := N0 (first / 16) B 8 (Hs B (0, false)).2 [] [] [] (by decide) (fun y hy => nomatch hy) (fun y hy => nomatch hy)
 exact ⟨h0, h0, h0, h0, h0, h0, zaz _, by show (Cc _ _ _ _ _ _ _).1.length ≤ _; omega, by show (Cc _ _ _ _ _ _ _).2.2.length ≤ _; omega, by show (Cc _ _ _ _ _ _ _).2.1.length ≤ _; omega, h.2.1, h.2.2⟩
theorem Yv (B : ByteArray) : ∀ (f : Nat) (a : Int) (cs : List Int), (Gq B f a cs).length ≤ cs.length + f
 | 0, a, cs => zap _
 | f + 1, a, cs => by
  rw [Gq]
  split
  have := Yv B f (a + 1) (cs ++ [A7 B a])
  simp only [zaf, zaq] at this
  omega
  omega
theorem Tq (t : Int) (B : ByteArray) : ∀ (f : Nat) (a : Int) (ws : List WantV) (ns : List ByteArray) (r : List WantV × List ByteArray), (∀ y ∈ ws, y.fFilter.size ≤ 60) → (∀ y ∈ ns, y.size ≤ 60) → C0 t B f a ws ns = some r → (r.1.length + r.2.length ≤ ws.length + ns.length + f) ∧ (∀ y ∈ r.1, y.fFilter.size ≤ 60) ∧ ∀ y ∈ r.2, y.size ≤ 60
 | 0, a, ws, ns, r, h1, h2, h => by
  cases h
  exact ⟨zap _, h1, h2⟩
 | f + 1, a, ws, ns, r, h1, h2, h => by
  have hb := Um B a
  rw [C0] at h
  split at h
  split at h
  split at h
  have := Tq t B f _ _ _ r h1 (fun y hy => by
   rcases zaV.1 hy with hy | hy
   exact h2 y hy
   rw [zbk.1 hy]
   exact hb) h
  simp only [zaf, zaq] at this
  exact ⟨by omega, this.2⟩
  split at h
  cases h
  have := Tq t B f _ _ _ r (fun y hy => by
   rcases zaV.1 hy with hy | hy
   exact h1 y hy
   rw [zbk.1 hy]
   exact hb) h2 h
  simp only [zaf, zaq] at this
  exact ⟨by omega, this.2⟩
  cases h
  cases h
  exact ⟨by show ws.length + ns.length ≤ _; omega, h1, h2⟩
theorem Amf (t id : Int) (cs : List Int) (k : Nat) (hc : cs.length ≤ k) (o : Option (List WantV × List ByteArray)) (ho : ∀ r, o = some r → (r.1.length + r.2.length ≤ k) ∧ (∀ y ∈ r.1, y.fFilter.size ≤ 60) ∧ ∀ y ∈ r.2, y.size ≤ 60) : PkB k (Mv t id cs o) := by
 have h0 : (0 : Nat) ≤ 60 := zaz _
 cases o with
 | none => exact Ng _ _
 | some r =>
  obtain ⟨h1, h2, h3⟩ := ho r rfl
  exact ⟨h0, h0, h0, h0, h0, h0, zaz _, by show r.1.length ≤ k; omega, by show r.2.length ≤ k; omega, hc, h2, h3⟩
theorem Qg {c : Bool} {x : Int → ByteArray × Int × Bool} (hx : ∀ a, (x a).1.size ≤ 60) (a : Int) : (El c x a).1.size ≤ 60 := by
 unfold El
 split
 exact hx a
 exact zaz _
theorem Aii {k : Nat} {p : PacketV} {q5 q6 q7 q8 : ByteArray × Int × Bool} (h : PkB k p) (h5 : q5.1.size ≤ 60) (h6 : q6.1.size ≤ 60) (h7 : q7.1.size ≤ 60) (h8 : q8.1.size ≤ 60) : PkB k (Ht p q5 q6 q7 q8) := by
 unfold Ht
 split
 exact Ng _ _
 split
 exact Ng _ _
 split
 exact Ng _ _
 exact ⟨h.t1, h.t2, h5, h7, h6, h8, h.b3, h.l1, h.l2, h.l3, h.w1, h.w2⟩
theorem Aij (first : Int) (B c : ByteArray) (w : Int × Int × Bool) {k : Nat} (hc : c.size ≤ 60) (hk : B.size ≤ k) : PkB (k + 5) (H8 first B c w) := by
 have h0 : (0 : Nat) ≤ 60 := zaz _
 unfold H8
 split
 exact Ng _ _
 refine ⟨hc, h0, h0, h0, h0, h0, ?_, zaz _, zaz _, zaz _, fun y hy => (nomatch hy), fun y hy => (nomatch hy)⟩
 show (B.extract _ _).size ≤ _
 rw [zaw]
 omega
theorem Afc (t : Int) (B : ByteArray) (w : Int × Int × Bool) {k : Nat} (hk : B.size ≤ k) : PkB (k + 5) (F5 t B w) := by
 unfold F5
 split
 exact Ng _ _
 refine Amf _ _ _ _ ?_ _ fun r hr => ?_
 split
 have := Yv B (B.size + 1) w.2.1 []
 simp only [zao] at this
 omega
 exact zaz _
 have := Tq _ B (B.size + 1) _ [] [] r (fun y hy => nomatch hy) (fun y hy => nomatch hy) hr
 simp only [zao] at this
 exact ⟨by omega, this.2⟩
theorem AkI (first : Int) (B : ByteArray) {k : Nat} (hk : B.size ≤ k) : PkB (k + 5) (Dm first B) := by
 have h0 : (0 : Nat) ≤ 60 := zaz _
 have hb := Um B
 have hb2 := O0 B
 unfold Dm
 split
 unfold A1 H7 Hv Hu
 split
 exact Ng _ _
 split
 exact Ng _ _
 exact Aii ⟨h0, hb _, h0, h0, h0, h0, zaz _, zaz _, zaz _, zaz _, fun y hy => (nomatch hy), fun y hy => (nomatch hy)⟩ (Qg hb _) (Qg hb2 _) (Qg hb _) (Qg hb2 _)
 split
 exact ⟨h0, h0, h0, h0, h0, h0, zaz _, zaz _, zaz _, zaz _, fun y hy => (nomatch hy), fun y hy => (nomatch hy)⟩
 split
 split
 exact Ng _ _
 exact Aij _ _ _ _ (hb _) hk
 exact Afc _ _ _ hk
theorem Aco {α : Type} {w : α → Nat} {k : Nat} : ∀ (l : List α), (∀ z ∈ l, w z ≤ k) → Y3 w l ≤ l.length * (k + 1)
 | [], _ => zaz _
 | x :: l, h => by
  have h1 := h x (za1 ..)
  have h2 := Aco l fun z hz => h z (zay _ hz)
  show 1 + w x + Y3 w l ≤ (l.length + 1) * (k + 1)
  rw [zbH]
  omega
theorem PkB.wt {k : Nat} {p : PacketV} (h : PkB k p) (hk : k ≤ 400) : Db p ≤ 60000 := by
 obtain ⟨t1, t2, t3, t4, b1, b2, b3, l1, l2, l3, w1, w2⟩ := h
 have e1 := Aco (w := H6) (k := 60) p.fWants fun z hz => by
  have := w1 z hz
  unfold H6
  omega
 have e2 := Aco (w := zaJ) (k := 60) p.fNames w2
 unfold Db
 omega
end
section
open Go
abbrev bl (B : ByteArray) : List UInt8 := B.data.toList
def u8 (z : Int) : UInt8 := UInt8.ofNat z.toNat
theorem Lu {z : Int} (h0 : 0 ≤ z) (h1 : z < 256) : (((u8 z).toNat : Nat) : Int) = z := by
 unfold u8
 rw [UInt8.toNat_ofNat']
 omega
theorem I5 (b : ByteArray) (z : Int) : bl (A9 b z) = bl b ++ [u8 z] := by
 unfold bl A9 u8
 rw [zbD, Array.toList_push]
theorem Y6 (a b : ByteArray) : bl (a ++ b) = bl a ++ bl b := by
 unfold bl
 rw [zby, Array.toList_append]
theorem Jn (B : ByteArray) : (bl B).length = B.size := by
 simp [bl]
theorem Y8 {a b : ByteArray} (h : bl a = bl b) : a = b := ByteArray.ext (zbf h)
theorem Y7 (B : ByteArray) (i j : Nat) : bl (B.extract i j) = ((bl B).drop i).take (j - i) := by
 unfold bl
 rw [ByteArray.data_extract, Array.toList_extract, List.extract_eq_take_drop]
def Qf (n : Int) : List UInt8 := [u8 (n / 256 % 256 % 256), u8 (n % 256 % 256)]
theorem Rx (b : ByteArray) (n : Int) : bl (An b n) = bl b ++ Qf n := by
 unfold An Qf
 rw [I5, I5, zai]
 rfl
def It (s : ByteArray) : List UInt8 := Qf ((s.size : Nat) : Int) ++ bl s
theorem M0 {s : ByteArray} (h : Bd s = true) (b : ByteArray) : bl (Am b s) = bl b ++ It s := by
 unfold Am It
 rw [if_pos h, Y6, Rx, zai]
theorem Aai {s : ByteArray} (h : s.size ≤ 60) (b : ByteArray) : bl (Cz b s) = bl b ++ It s := by
 unfold Cz It
 rw [if_neg (by simp; omega), Y6, Rx, zai]
def Sf (B : ByteArray) (a : Int) (l : List UInt8) : Prop := 0 ≤ a ∧ a ≤ ((B.size : Nat) : Int) ∧ (bl B).drop a.toNat = l
theorem Sf.len {B : ByteArray} {a : Int} {l : List UInt8} (h : Sf B a l) : a + l.length = ((B.size : Nat) : Int) := by
 obtain ⟨h0, h1, rfl⟩ := h
 rw [List.length_drop, Jn]
 omega
theorem Sf.head {B : ByteArray} {a : Int} {x : UInt8} {l : List UInt8} (h : Sf B a (x :: l)) : A7 B a = ((x.toNat : Nat) : Int) ∧ a < ((B.size : Nat) : Int) ∧ Sf B (a + 1) l := by
 have hl := h.len
 obtain ⟨h0, h1, h2⟩ := h
 simp only [zal] at hl
 refine ⟨?_, by omega, by omega, by omega, ?_⟩
 have e : (bl B)[a.toNat]? = some x := by
  have := congrArg (fun l => l[0]?) h2
  simpa using this
 unfold A7
 rw [zbv, e]
 rfl
 rw [show (a + 1).toNat = a.toNat + 1 by omega, ← zb6, h2]
 rfl
theorem Sf.skip {B : ByteArray} {a : Int} {x l : List UInt8} (h : Sf B a (x ++ l)) : Sf B (a + x.length) l := by
 have hl := h.len
 obtain ⟨h0, h1, h2⟩ := h
 simp only [zaf] at hl
 refine ⟨by omega, by omega, ?_⟩
 rw [show (a + (x.length : Int)).toNat = a.toNat + x.length by omega, ← zb6, h2, List.drop_left]
theorem W2 (B : ByteArray) {l : List UInt8} (h : bl B = l) : Sf B 0 l := ⟨by omega, by omega, by simpa using h⟩
theorem Sf.nil {B : ByteArray} {a : Int} (h : Sf B a []) : a = ((B.size : Nat) : Int) := by
 have := h.len
 simpa using this
theorem Rr {B : ByteArray} {a z : Int} {l : List UInt8} (h : Sf B a (u8 z :: l)) (h0 : 0 ≤ z) (h1 : z < 256) : Lv B (a, false) = (z, a + 1, false) ∧ Sf B (a + 1) l := by
 obtain ⟨e1, e2, e3⟩ := h.head
 refine ⟨?_, e3⟩
 unfold Lv
 rw [Lu h0 h1] at e1
 rw [if_neg (by simp; omega), e1]
theorem Qs {B : ByteArray} {a n : Int} {l : List UInt8} (h : Sf B a (Qf n ++ l)) (h0 : 0 ≤ n) (h1 : n < 65536) : Bo B a = (n, a + 2, true) ∧ Sf B (a + 2) l := by
 have h' : Sf B a (u8 (n / 256 % 256 % 256) :: u8 (n % 256 % 256) :: l) := h
 obtain ⟨e1, e2, e3⟩ := h'.head
 obtain ⟨f1, f2, f3⟩ := e3.head
 rw [Lu (by omega) (by omega)] at e1 f1
 refine ⟨?_, by rw [show a + 2 = a + 1 + 1 by omega]; exact f3⟩
 unfold Bo
 rw [if_neg (by have := h.1; omega), e1, f1]
 congr 1
 omega
theorem K3 {B s : ByteArray} {a : Int} {l : List UInt8} (h : Sf B a (It s ++ l)) (hs : s.size ≤ 60) : Bi B a = (s, a + 2 + s.size, true) ∧ Sf B (a + 2 + s.size) l := by
 have h' : Sf B a (Qf ((s.size : Nat) : Int) ++ (bl s ++ l)) := by
  unfold It at h
  rwa [zai] at h
 obtain ⟨e1, e2⟩ := Qs h' (by omega) (by omega)
 have e3 := e2.skip
 rw [Jn] at e3
 refine ⟨?_, e3⟩
 have hl := e3.len
 have h0 := h.1
 unfold Bi
 rw [e1]
 show (if true = false ∨ 60 < ((s.size : Nat) : Int) ∨ ((B.size : Nat) : Int) - (a + 2) < ((s.size : Nat) : Int) then _ else _) = _
 rw [if_neg (by simp; omega)]
 congr 1
 apply Y8
 show bl (B.extract (a + 2).toNat (a + 2 + ((s.size : Nat) : Int)).toNat) = _
 rw [Y7, e2.2.2, show (a + 2 + ((s.size : Nat) : Int)).toNat - (a + 2).toNat = (bl s).length by rw [Jn]; omega, List.take_left]
theorem Oy {B s : ByteArray} {a : Int} {l : List UInt8} (h : Sf B a (It s ++ l)) (hs : Bd s = true) : B3 B a = (s, a + 2 + s.size, true) ∧ Sf B (a + 2 + s.size) l := by
 obtain ⟨e1, e2⟩ := K3 h (Fz hs)
 refine ⟨?_, e2⟩
 unfold B3
 rw [e1]
 show (if true && Bd s then _ else _) = _
 rw [hs]
 rfl
theorem W3 {B : ByteArray} {a n : Int} {l : List UInt8} (h : Sf B a (Qf n ++ l)) (h0 : 0 ≤ n) (h1 : n < 65536) : Hs B (a, false) = (n, a + 2, false) := by
 unfold Hs
 rw [show (a, false).1 = a from rfl, (Qs h h0 h1).1]
 rfl
theorem L9 {B s : ByteArray} {a : Int} {l : List UInt8} (h : Sf B a (It s ++ l)) (hs : s.size ≤ 60) : Et B (a, false) = (s, a + 2 + s.size, false) := by
 unfold Et
 rw [show (a, false).1 = a from rfl, (K3 h hs).1]
 rfl
theorem Ada {B s : ByteArray} {a : Int} (h : Sf B a (bl s)) : B.extract a.toNat B.size = s := by
 apply Y8
 rw [Y7, h.2.2]
 have := h.len
 have := h.1
 rw [Jn] at *
 rw [zaY (by rw [Jn]; omega)]
theorem Xd {s : ByteArray} (h : Co s = true) : Bd s = true := by
 unfold Co at h
 simp only [zae] at h
 simp [h]
theorem T6 {s : ByteArray} (h : B0 s = true) : Bd s = true := by
 unfold B0 Gi at h
 simp only [zae] at h
 exact h.2.1
theorem Sb {p : PacketV} (h : Ah p = true) : (0 ≤ Cv p ∧ Cv p < 256) ∧ Cv p / 16 = p.fType := by
 obtain ⟨ht, hq, _, _⟩ := Jj h
 have h1 : ∀ b, 0 ≤ Bb b 8 ∧ Bb b 8 ≤ 8 := fun b => by cases b <;> decide
 have h2 : ∀ b, 0 ≤ Bb b 1 ∧ Bb b 1 ≤ 1 := fun b => by cases b <;> decide
 have a := h1 p.fDup
 have b := h2 p.fRetain
 unfold Cv
 (repeat' split) <;> omega
theorem Ae3 : ∀ (c w r s u : Bool) (q : Fin 3), let f : Int := Bb c 2 + Bb w 4 + 8 * ((q.val : Nat) : Int) + Bb r 32 + Bb s 64 + Bb u 128; ((0 ≤ f ∧ f < 256) ∧ Gy f 2 = c ∧ Gy f 4 = w ∧ bits .and .i64 (f / 8) 3 = ((q.val : Nat) : Int) ∧ Gy f 32 = r ∧ Gy f 64 = s ∧ Gy f 128 = u) ∧ decide (0 < bits .and .i64 f 2) = c ∧ decide (0 < bits .and .i64 f 4) = w ∧ decide (0 < bits .and .i64 f 32) = r ∧ decide (0 < bits .and .i64 f 64) = s ∧ decide (0 < bits .and .i64 f 128) = u := by decide +kernel
theorem An4 {p : PacketV} (hq : 0 ≤ p.fWQos ∧ p.fWQos ≤ 2) : ((0 ≤ D2 p ∧ D2 p < 256) ∧ Gy (D2 p) 2 = p.fClean ∧ Gy (D2 p) 4 = p.fHasWill ∧ bits .and .i64 (D2 p / 8) 3 = p.fWQos ∧ Gy (D2 p) 32 = p.fWRetain ∧ Gy (D2 p) 64 = p.fHasPass ∧ Gy (D2 p) 128 = p.fHasUser) ∧ decide (0 < bits .and .i64 (D2 p) 2) = p.fClean ∧ decide (0 < bits .and .i64 (D2 p) 4) = p.fHasWill ∧ decide (0 < bits .and .i64 (D2 p) 32) = p.fWRetain ∧ decide (0 < bits .and .i64 (D2 p) 64) = p.fHasPass ∧ decide (0 < bits .and .i64 (D2 p) 128) = p.fHasUser := by
 have h := Ae3 p.fClean p.fHasWill p.fWRetain p.fHasPass p.fHasUser ⟨p.fWQos.toNat, by omega⟩
 have e : ((p.fWQos.toNat : Nat) : Int) = p.fWQos := by omega
 simp only [e] at h
 exact h
theorem AjO : ∀ (d r : Bool) (q : Fin 3), let f : Int := 48 + Bb d 8 + 2 * ((q.val : Nat) : Int) + Bb r 1; (Gy f 8 = d ∧ bits .and .i64 (f / 2) 3 = ((q.val : Nat) : Int) ∧ Gy f 1 = r) ∧ decide (0 < bits .and .i64 f 8) = d ∧ decide (0 < bits .and .i64 f 1) = r := by decide +kernel
def Ir (c : Bool) (l : List UInt8) : List UInt8 := if c then l else []
theorem Aie {p : PacketV} (hc : Bd p.fClient = true) (hw : p.fHasWill = true → Bd p.fWTopic = true ∧ p.fWBody.size ≤ 60) (hu : Bd p.fUser = true) (hp : p.fPass.size ≤ 60) :
  bl (Fa p) = It mqtt ++ (u8 (p.fLevel % 256) :: u8 (D2 p % 256) :: (Qf p.fKeep ++ (It p.fClient ++ (Ir p.fHasWill (It p.fWTopic ++ It p.fWBody) ++ (Ir p.fHasUser (It p.fUser) ++ Ir p.fHasPass (It p.fPass)))))) := by
 have h3 : ∀ b, bl (C5 p b) = bl b ++ Ir p.fHasPass (It p.fPass) := fun b => by
  unfold C5 Ir
  split
  exact Aai hp b
  simp
 have h2 : ∀ b, bl (Dz p b) = bl b ++ Ir p.fHasUser (It p.fUser) := fun b => by
  unfold Dz Ir
  split
  exact M0 hu b
  simp
 have h1 : ∀ b, bl (E2 p b) = bl b ++ Ir p.fHasWill (It p.fWTopic ++ It p.fWBody) := fun b => by
  unfold E2 Ir
  split
  rename_i h
  rw [Aai (hw h).2, M0 (hw h).1, zai]
  simp
 unfold Fa G6
 rw [h3, h2, h1, M0 hc, Rx, I5, I5, M0 (by decide +kernel)]
 simp only [zai, zag, zau]
 rfl
theorem Io {B : ByteArray} {a : Int} {c : Bool} {x l : List UInt8} (h : Sf B a (Ir c x ++ l)) : (c = true → Sf B a (x ++ l)) ∧ (c = false → Sf B a l) := by
 unfold Ir at h
 constructor <;> intro hc <;> simpa [hc] using h
end
section
open Go
theorem Vc {p : PacketV} (h : Ah p = true) (h1 : p.fType = 1) : (Bd p.fClient = true ∧ (p.fHasWill = true → Bd p.fWTopic = true ∧ p.fWBody.size ≤ 60) ∧ Bd p.fUser = true ∧ p.fPass.size ≤ 60) ∧ (0 ≤ p.fLevel ∧ p.fLevel ≤ 255) ∧ (0 ≤ p.fKeep ∧ p.fKeep ≤ 65535) := by
 obtain ⟨_, _, hk⟩ := Hk h
 unfold Cs at hk
 rw [if_pos h1] at hk
 unfold Hy at hk
 simp only [zae, Hf, decide_eq_true_eq, zaP] at hk
 obtain ⟨k1, k2, k3, k4, k5, k6⟩ := hk
 refine ⟨⟨k2, fun hw => ?_, k5, by omega⟩, k1, k3⟩
 rcases k4 with k4 | k4
 rw [hw] at k4
 cases k4
 exact ⟨Xd k4.1, by omega⟩
theorem Acw {p : PacketV} (h : Ah p = true) (h1 : p.fType = 1) : p = { B7 1 with fLevel := p.fLevel, fKeep := p.fKeep, fClient := p.fClient, fClean := p.fClean, fHasWill := p.fHasWill, fHasPass := p.fHasPass, fHasUser := p.fHasUser, fWQos := p.fWQos, fWRetain := p.fWRetain, fWTopic := p.fWTopic, fWBody := p.fWBody, fUser := p.fUser, fPass := p.fPass } ∧ (p.fHasWill = false → p.fWTopic = bs0 ∧ p.fWBody = bs0 ∧ p.fWRetain = false ∧ p.fWQos = 0) ∧ (p.fHasUser = false → p.fUser = bs0 ∧ p.fHasPass = false) ∧ (p.fHasPass = false → p.fPass = bs0) := by
 obtain ⟨_, hn, _⟩ := Hk h
 clear h
 unfold A0 at hn
 rw [if_pos h1] at hn
 obtain ⟨a1, a2, a3, a4, a5, a6, a7, a8, a9, a10, a11, a12, a13, a14, a15, a16, a17, a18, a19, a20, a21, a22, a23, a24, a25⟩ := p
 dsimp only at hn h1 ⊢
 subst h1
 cases a12 <;> cases a17 <;> cases a19 <;> simp only [Dx, Dy, B7, if_true, if_false, zaa, PacketV.mk.injEq, true_and, and_true, false_and, and_false, reduceCtorEq] at hn <;> simp [B7, hn]
theorem Ahq (c : Bool) (x y : List UInt8) : Ir c (x ++ y) = Ir c x ++ Ir c y := by cases c <;> rfl
theorem Qo {B s : ByteArray} {a : Int} {c : Bool} {l : List UInt8} (h : Sf B a (Ir c (It s) ++ l)) (hs : s.size ≤ 60) (hz : c = false → s = bs0) : ∃ a', (if c then Et B (a, false) else (bs0, (a, false))) = (s, a', false) ∧ Sf B a' l := by
 cases c with
 | true => exact ⟨_, L9 ((Io h).1 rfl) hs, (K3 ((Io h).1 rfl) hs).2⟩
 | false => exact ⟨a, by rw [hz rfl]; rfl, (Io h).2 rfl⟩
theorem Wp {B s : ByteArray} {a : Int} {c : Bool} {l : List UInt8} (h : Sf B a (Ir c (It s) ++ l)) (hs : s.size ≤ 60) (hz : c = false → s = bs0) : ∃ a', El c (Bi B) a = (s, a', true) ∧ Sf B a' l := by
 cases c with
 | true => exact ⟨_, (K3 ((Io h).1 rfl) hs).1, (K3 ((Io h).1 rfl) hs).2⟩
 | false => exact ⟨a, by rw [hz rfl]; rfl, (Io h).2 rfl⟩
theorem Yp {B s : ByteArray} {a : Int} {c : Bool} {l : List UInt8} (h : Sf B a (Ir c (It s) ++ l)) (hs : c = true → Bd s = true) (hz : c = false → s = bs0) : ∃ a', El c (B3 B) a = (s, a', true) ∧ Sf B a' l := by
 cases c with
 | true => exact ⟨_, (Oy ((Io h).1 rfl) (hs rfl)).1, (Oy ((Io h).1 rfl) (hs rfl)).2⟩
 | false => exact ⟨a, by rw [hz rfl]; rfl, (Io h).2 rfl⟩
theorem Ahr (c : Bool) (x : List UInt8) : Ir c x = Ir c x ++ [] := (zan _).symm
theorem Abt {p : PacketV} (h : Ah p = true) (h1 : p.fType = 1) : p.fWTopic.size ≤ 60 ∧ p.fWBody.size ≤ 60 ∧ p.fUser.size ≤ 60 ∧ p.fPass.size ≤ 60 := by
 obtain ⟨⟨c1, c2, c3, c4⟩, _⟩ := Vc h h1
 obtain ⟨_, hz, _⟩ := Acw h h1
 cases hw : p.fHasWill
 rw [(hz hw).1, (hz hw).2.1]
 exact ⟨by decide, by decide, Fz c3, c4⟩
 exact ⟨Fz (c2 hw).1, (c2 hw).2, Fz c3, c4⟩
theorem AjP {p : PacketV} (h : Ah p = true) (h1 : p.fType = 1) : Ft (Fa p) = p ∧ A1 (Fa p) = p := by
 obtain ⟨⟨c1, c2, c3, c4⟩, c5, c6⟩ := Vc h h1
 obtain ⟨z0, z1, z2, z3⟩ := Acw h h1
 obtain ⟨y1, y2, y3, y4⟩ := Abt h h1
 obtain ⟨⟨f0, f1, f2, f3, f4, f5, f6⟩, g1, g2, g4, g5, g6⟩ := An4 (Jj h).wq
 have s0 := W2 (Fa p) (Aie c1 c2 c3 c4)
 have e0 := L9 s0 (by decide)
 have k0 := (Oy s0 (by decide +kernel)).1
 have s1 := (K3 s0 (by decide)).2
 generalize ha : (0 + 2 + ((mqtt.size : Nat) : Int)) = a at e0 k0 s1
 obtain ⟨e1, s2⟩ := Rr s1 (by omega) (by omega)
 obtain ⟨e2, s3⟩ := Rr s2 (by omega) (by omega)
 have hb1 := s1.head.1
 have hb2 := s2.head.1
 have hlt := s2.head.2.1
 rw [Lu (by omega) (by omega)] at hb1 hb2
 have e3 := W3 s3 c6.1 (by omega)
 obtain ⟨k3, s4⟩ := Qs s3 c6.1 (by omega)
 have e4 := L9 s4 (Fz c1)
 obtain ⟨k4, s5⟩ := Oy s4 c1
 rw [Ahq, zai] at s5
 rw [Ahr p.fHasPass] at s5
 have fl : D2 p % 256 = D2 p := by omega
 have ll : p.fLevel % 256 = p.fLevel := by omega
 rw [fl] at e2 hb2
 rw [ll] at e1 hb1
 have hz1 : p.fHasUser = false → p.fUser = bs0 := fun e => (z2 e).1
 constructor
 obtain ⟨a5, e5, s6⟩ := Qo s5 y1 (fun e => (z1 e).1)
 obtain ⟨a6, e6, s7⟩ := Qo s6 y2 (fun e => (z1 e).2.1)
 obtain ⟨a7, e7, s8⟩ := Qo s7 y3 hz1
 obtain ⟨a8, e8, s9⟩ := Qo s8 y4 z3
 unfold Ft
 simp only [e0, e1, e2, e3, e4, f1, f2, f3, f4, f5, f6, e5, e6, e7, e8]
 have w1 : (if p.fHasWill = true then p.fWQos else 0) = p.fWQos := by
  split
  rfl
  rename_i hw
  exact ((z1 (by simpa using hw)).2.2.2).symm
 have w2 : (if p.fHasWill = true then p.fWRetain else false) = p.fWRetain := by
  split
  rfl
  rename_i hw
  exact ((z1 (by simpa using hw)).2.2.1).symm
 rw [w1, w2]
 exact z0.symm
 obtain ⟨a5, e5, s6⟩ := Yp s5 (fun e => (c2 e).1) (fun e => (z1 e).1)
 obtain ⟨a6, e6, s7⟩ := Wp s6 y2 (fun e => (z1 e).2.1)
 obtain ⟨a7, e7, s8⟩ := Yp s7 (fun _ => c3) hz1
 obtain ⟨a8, e8, s9⟩ := Wp s8 y4 z3
 unfold A1
 rw [k0]
 unfold H7
 rw [if_neg (by simp; omega)]
 show Hv _ a (Bo _ (a + 2)) (B3 _ (Bo _ (a + 2)).2.1) = p
 rw [show a + 2 = a + 1 + 1 by omega, k3, k4]
 unfold Hv
 rw [if_neg (by simp), hb2, hb1]
 show Hu _ (D2 p) _ (a + 1 + 1 + 2 + 2 + ((p.fClient.size : Nat) : Int)) = p
 unfold Hu
 rw [g2, e5]
 dsimp only
 rw [e6]
 dsimp only
 rw [g6, e7]
 dsimp only
 rw [g5, e8]
 unfold Ht Gm
 rw [if_neg (by simp), if_neg (by simp), if_neg (by simp)]
 simp only [g1, g2, g4, g5, g6, f3]
 exact z0.symm
end
section
open Go
theorem Am5 {p : PacketV} (h : Ah p = true) (h2 : p.fType = 2) {B : ByteArray} (hB : B = A9 (A9 bs0 (Bb p.fPresent 1 % 256)) (p.fCode % 256)) : { B7 2 with fPresent := decide ((Lv B (0, false)).1 = 1), fCode := (Lv B (Lv B (0, false)).2).1 } = p ∧ ((B.size : Nat) : Int) = 2 ∧ { B7 2 with fPresent := A7 B 0 == 1, fCode := A7 B 1 } = p := by
 obtain ⟨_, hn, hk⟩ := Hk h
 unfold Cs at hk
 rw [if_neg (by omega), if_pos h2] at hk
 simp only [zae, Hf] at hk
 have hb : 0 ≤ Bb p.fPresent 1 ∧ Bb p.fPresent 1 ≤ 1 ∧ (Bb p.fPresent 1 = 1 ↔ p.fPresent = true) := by
  unfold Bb
  cases p.fPresent <;> simp
 have s0 := W2 B (l := u8 (Bb p.fPresent 1 % 256) :: u8 (p.fCode % 256) :: []) (by rw [hB, I5, I5]; rfl)
 have hs := s0.len
 obtain ⟨e1, s1⟩ := Rr s0 (by omega) (by omega)
 obtain ⟨e2, s2⟩ := Rr s1 (by omega) (by omega)
 have b1 := s0.head.1
 have b2 := s1.head.1
 rw [Lu (by omega) (by omega)] at b1 b2
 have eb : Bb p.fPresent 1 % 256 = Bb p.fPresent 1 := by omega
 have ec : p.fCode % 256 = p.fCode := by omega
 rw [eb] at e1 b1
 rw [ec] at e2 b2
 have hz : { B7 2 with fCode := p.fCode, fPresent := p.fPresent } = p := by
  unfold A0 at hn
  rw [if_neg (by omega), if_pos h2, h2] at hn
  simpa using hn.symm
 have hd : decide (Bb p.fPresent 1 = 1) = p.fPresent := by
  cases hq : p.fPresent <;> simp [Bb]
 refine ⟨?_, by simpa using hs.symm, ?_⟩
 rw [e1]
 show { B7 2 with fPresent := decide (Bb p.fPresent 1 = 1), fCode := (Lv B (0 + 1, false)).1 } = p
 rw [e2, hd]
 exact hz
 have b3 : A7 B 1 = p.fCode := b2
 have : (Bb p.fPresent 1 == 1) = p.fPresent := by
  cases hq : p.fPresent <;> simp [Bb]
 rw [b1, b3, this]
 exact hz
theorem AeH {p : PacketV} (h : Ah p = true) (h3 : p.fType = 3) : (Gy (Cv p) 8 = p.fDup ∧ bits .and .i64 (Cv p / 2) 3 = p.fQos ∧ Gy (Cv p) 1 = p.fRetain) ∧ decide (0 < bits .and .i64 (Cv p) 8) = p.fDup ∧ decide (0 < bits .and .i64 (Cv p) 1) = p.fRetain := by
 obtain ⟨_, hq, _, _⟩ := Jj h
 have k := AjO p.fDup p.fRetain ⟨p.fQos.toNat, by omega⟩
 have e : ((p.fQos.toNat : Nat) : Int) = p.fQos := by omega
 have e2 : Cv p = 48 + Bb p.fDup 8 + 2 * p.fQos + Bb p.fRetain 1 := by
  unfold Cv
  rw [if_pos h3, h3]
  omega
 simp only [e, ← e2] at k
 exact k
theorem Am6 {p : PacketV} (h : Ah p = true) (h3 : p.fType = 3) : Dr (Cv p) (Ha p) = p ∧ Dm (Cv p) (Ha p) = p := by
 obtain ⟨_, hn, hk⟩ := Hk h
 obtain ⟨hf, hi⟩ := (Jj h).q, (Jj h).i
 unfold Cs at hk
 rw [if_neg (by omega), if_neg (by omega), if_pos h3] at hk
 simp only [zae, Hf, decide_eq_true_eq, zaP] at hk
 obtain ⟨k1, k2, k3, k4⟩ := hk
 obtain ⟨⟨q1, q2, q3⟩, q4, q5⟩ := AeH h h3
 have ht := (Sb h).2
 have hT := Xd k2
 have s0 := W2 (Ha p) (l := It p.fTopic ++ (Ir (decide (0 < p.fQos)) (Qf p.fId) ++ bl p.fBody)) (by
  unfold Ha
  rw [Y6]
  split
  rename_i hq
  rw [Rx, M0 hT]
  simp [Ir, hq]
  rename_i hq
  rw [M0 hT]
  simp [Ir, hq])
 have e0 := L9 s0 (Fz hT)
 obtain ⟨k0, s1⟩ := Oy s0 hT
 generalize ha : (0 + 2 + ((p.fTopic.size : Nat) : Int)) = a at e0 k0 s1
 have hz : p = { B7 3 with fQos := p.fQos, fRetain := p.fRetain, fTopic := p.fTopic, fBody := p.fBody, fDup := p.fDup, fId := p.fId } ∧ (¬ 0 < p.fQos → p.fDup = false ∧ p.fId = 0) := by
  unfold A0 at hn
  rw [if_neg (by omega), if_neg (by omega), if_pos h3, h3] at hn
  split at hn
  rename_i hq
  exact ⟨hn, fun e => absurd hq e⟩
  rename_i hq
  have d1 : p.fDup = false := congrArg PacketV.fDup hn
  have d2 : p.fId = 0 := congrArg PacketV.fId hn
  exact ⟨by rw [d1, d2]; exact hn, fun _ => ⟨d1, d2⟩⟩
 have e3 : Cv p / 16 = 3 := by omega
 have fin : ∀ (w : Int × Int × Bool), w = (if 0 < p.fQos then (p.fId, a + 2, true) else (0, a, true)) → p = { B7 3 with fDup := p.fDup, fQos := p.fQos, fRetain := p.fRetain, fTopic := p.fTopic, fId := w.1, fBody := (Ha p).extract w.2.1.toNat (Ha p).size } := by
  rintro w rfl
  by_cases hq : 0 < p.fQos
  have s2 := (Io s1).1 (by simp [hq])
  obtain ⟨_, s3⟩ := Qs s2 hi.1 (by omega)
  rw [if_pos hq]
  dsimp only
  rw [Ada s3]
  exact hz.1
  have s2 := (Io s1).2 (by simp [hq])
  rw [if_neg hq]
  dsimp only
  rw [Ada s2, ← (hz.2 hq).2]
  exact hz.1
 constructor
 have e1 : (if 0 < p.fQos then Hs (Ha p) (a, false) else (0, a, false)) = ((if 0 < p.fQos then (p.fId, a + 2, true) else (0, a, true)).1, (if 0 < p.fQos then (p.fId, a + 2, true) else (0, a, true)).2.1, false) := by
  by_cases hq : 0 < p.fQos
  rw [if_pos hq, if_pos hq, W3 ((Io s1).1 (by simp [hq])) hi.1 (by omega)]
  rw [if_neg hq, if_neg hq]
 unfold Dr
 dsimp only
 rw [e3, if_neg (by decide), if_neg (by decide), if_pos rfl, e0, q1, q2, q3]
 dsimp only
 rw [e1]
 dsimp only
 simp only [zaa, if_false]
 exact (fin _ rfl).symm
 have e1 : (if 0 < p.fQos then Bo (Ha p) a else (0, a, true)) = (if 0 < p.fQos then (p.fId, a + 2, true) else (0, a, true)) := by
  by_cases hq : 0 < p.fQos
  rw [if_pos hq, if_pos hq, (Qs ((Io s1).1 (by simp [hq])) hi.1 (by omega)).1]
  rw [if_neg hq, if_neg hq]
 unfold Dm Lw
 rw [e3, if_neg (by decide), if_neg (by omega), if_pos rfl, k0, q2]
 dsimp only
 rw [if_neg (by simp), e1]
 unfold H8 Lw
 rw [q2, q4, q5, e3, if_neg (by split <;> simp)]
 exact (fin _ rfl).symm
def N7 (w : WantV) : List UInt8 := It w.fFilter ++ [u8 (w.fQos % 256)]
theorem Aal : ∀ (l : List WantV) (b : ByteArray), (∀ w ∈ l, Bd w.fFilter = true) → bl (Bk b l) = bl b ++ (l.map N7).flatten
 | [], b, _ => by simp [Bk]
 | w :: l, b, h => by
  have e := Aal l (A9 (Am b w.fFilter) (w.fQos % 256)) fun x hx => h x (zay _ hx)
  rw [I5, M0 (h w (za1 ..))] at e
  show bl (Bk (A9 (Am b w.fFilter) (w.fQos % 256)) l) = _
  rw [e, zat, za3]
  simp only [N7, zai]
theorem Aaj : ∀ (l : List Int) (b : ByteArray), bl (Do b l) = bl b ++ l.map fun c => u8 (c % 256)
 | [], b => by simp [Do]
 | c :: l, b => by
  have e := Aaj l (A9 b (c % 256))
  rw [I5] at e
  show bl (Do (A9 b (c % 256)) l) = _
  rw [e, zat, zai]
  rfl
theorem Aak : ∀ (l : List ByteArray) (b : ByteArray), (∀ w ∈ l, Bd w = true) → bl (Fi b l) = bl b ++ (l.map It).flatten
 | [], b, _ => by simp [Fi]
 | w :: l, b, h => by
  have e := Aak l (Am b w) fun x hx => h x (zay _ hx)
  rw [M0 (h w (za1 ..))] at e
  show bl (Fi (Am b w) l) = _
  rw [e, zat, za3, zai]
theorem U1 {t : Int} {B : ByteArray} {f : Nat} {a : Int} {ws : List WantV} {cs : List Int} {ns : List ByteArray} (s : Sf B a []) : Cc t B (f + 1) (a, false) ws cs ns = (ws, cs, ns) := by
 rw [Cc, if_neg (by have := s.nil; simp; omega)]
theorem AnL {B : ByteArray} : ∀ (l ws : List WantV) (f : Nat) (a : Int), Sf B a (l.map N7).flatten → (∀ w ∈ l, Bd w.fFilter = true ∧ 0 ≤ w.fQos ∧ w.fQos < 256) → ws.length + l.length ≤ 4 → l.length < f → Cc 8 B f (a, false) ws [] [] = (ws ++ l, [], [])
 | [], ws, f + 1, a, s, h, hl, hf => by
  rw [U1 s, zan]
 | w :: l, ws, f + 1, a, s, h, hl, hf => by
  simp only [zal] at hl hf
  rw [zat, za3] at s
  obtain ⟨h1, h2⟩ := h w (za1 ..)
  have s' : Sf B a (It w.fFilter ++ (u8 (w.fQos % 256) :: (l.map N7).flatten)) := by
   unfold N7 at s
   rw [zai] at s
   exact s
  have e1 := L9 s' (Fz h1)
  obtain ⟨_, s2⟩ := K3 s' (Fz h1)
  obtain ⟨e2, s3⟩ := Rr s2 (by omega) (by omega)
  have hlt := s'.head.2.1
  rw [Cc, if_pos (by simp; omega), if_pos rfl, e1]
  dsimp only
  rw [e2, show w.fQos % 256 = w.fQos by omega]
  dsimp only
  rw [AnL l (ws ++ [(⟨w.fFilter, w.fQos⟩ : WantV)]) f _ s3 (fun x hx => h x (zay _ hx)) (by simp only [zaf, zaq]; omega) (by omega), zai]
  rfl
theorem AnM {B : ByteArray} : ∀ (l cs : List Int) (f : Nat) (a : Int), Sf B a (l.map fun c => u8 (c % 256)) → (∀ c ∈ l, 0 ≤ c ∧ c < 256) → cs.length + l.length ≤ 4 → l.length < f → Cc 9 B f (a, false) [] cs [] = ([], cs ++ l, [])
 | [], cs, f + 1, a, s, h, hl, hf => by
  rw [U1 s, zan]
 | c :: l, cs, f + 1, a, s, h, hl, hf => by
  simp only [zal] at hl hf
  rw [zat] at s
  have h2 := h c (za1 ..)
  obtain ⟨e2, s3⟩ := Rr s (by omega) (by omega)
  have hlt := s.head.2.1
  rw [Cc, if_pos (by simp; omega), if_neg (by decide), if_pos rfl, e2, show c % 256 = c by omega]
  dsimp only
  rw [AnM l (cs ++ [c]) f _ s3 (fun x hx => h x (zay _ hx)) (by simp only [zaf, zaq]; omega) (by omega), zai]
  rfl
theorem AkG {B : ByteArray} : ∀ (l ns : List ByteArray) (f : Nat) (a : Int), Sf B a (l.map It).flatten → (∀ w ∈ l, Bd w = true) → ns.length + l.length ≤ 4 → l.length < f → Cc 10 B f (a, false) [] [] ns = ([], [], ns ++ l)
 | [], ns, f + 1, a, s, h, hl, hf => by
  rw [U1 s, zan]
 | w :: l, ns, f + 1, a, s, h, hl, hf => by
  simp only [zal] at hl hf
  rw [zat, za3] at s
  have h1 := h w (za1 ..)
  have e1 := L9 s (Fz h1)
  obtain ⟨_, s2⟩ := K3 s (Fz h1)
  have hlt := s.head.2.1
  rw [Cc, if_pos (by simp; omega), if_neg (by decide), if_neg (by decide), if_pos rfl, e1]
  dsimp only
  rw [AkG l (ns ++ [w]) f _ s2 (fun x hx => h x (zay _ hx)) (by simp only [zaf, zaq]; omega) (by omega), zai]
  rfl
theorem S1 {t : Int} {B : ByteArray} {f : Nat} {a : Int} {ws : List WantV} {ns : List ByteArray} (h : ((B.size : Nat) : Int) ≤ a ∨ (t ≠ 8 ∧ t ≠ 10)) : C0 t B (f + 1) a ws ns = some (ws, ns) := by
 rw [C0, if_neg (by simp; omega)]
theorem AnN {B : ByteArray} : ∀ (l ws : List WantV) (f : Nat) (a : Int), Sf B a (l.map N7).flatten → (∀ w ∈ l, Bd w.fFilter = true ∧ 0 ≤ w.fQos ∧ w.fQos < 256) → l.length < f → C0 8 B f a ws [] = some (ws ++ l, [])
 | [], ws, f + 1, a, s, h, hf => by
  rw [S1 (.inl (by have := s.nil; omega)), zan]
 | w :: l, ws, f + 1, a, s, h, hf => by
  simp only [zal] at hf
  rw [zat, za3] at s
  obtain ⟨h1, h2⟩ := h w (za1 ..)
  have s' : Sf B a (It w.fFilter ++ (u8 (w.fQos % 256) :: (l.map N7).flatten)) := by
   unfold N7 at s
   rw [zai] at s
   exact s
  obtain ⟨e1, s2⟩ := Oy s' h1
  obtain ⟨e2, s3⟩ := Rr s2 (by omega) (by omega)
  obtain ⟨hb, hl2, _⟩ := s2.head
  rw [Lu (by omega) (by omega), show w.fQos % 256 = w.fQos by omega] at hb
  have hlt := s'.head.2.1
  rw [C0, if_pos (by simp; omega), e1]
  dsimp only
  rw [if_pos rfl, if_neg (by decide), if_neg (by omega), hb, AnN l (ws ++ [(⟨w.fFilter, w.fQos⟩ : WantV)]) f _ s3 (fun x hx => h x (zay _ hx)) (by omega), zai]
  rfl
theorem AkH {B : ByteArray} : ∀ (l ns : List ByteArray) (f : Nat) (a : Int), Sf B a (l.map It).flatten → (∀ w ∈ l, Bd w = true) → l.length < f → C0 10 B f a [] ns = some ([], ns ++ l)
 | [], ns, f + 1, a, s, h, hf => by
  rw [S1 (.inl (by have := s.nil; omega)), zan]
 | w :: l, ns, f + 1, a, s, h, hf => by
  simp only [zal] at hf
  rw [zat, za3] at s
  have h1 := h w (za1 ..)
  obtain ⟨e1, s2⟩ := Oy s h1
  have hlt := s.head.2.1
  rw [C0, if_pos (by simp; omega), e1]
  dsimp only
  rw [if_pos rfl, if_pos rfl, AkH l (ns ++ [w]) f _ s2 (fun x hx => h x (zay _ hx)) (by omega), zai]
  rfl
theorem rdC {B : ByteArray} : ∀ (l cs : List Int) (f : Nat) (a : Int), Sf B a (l.map fun c => u8 (c % 256)) → (∀ c ∈ l, 0 ≤ c ∧ c < 256) → l.length < f → Gq B f a cs = cs ++ l
 | [], cs, f + 1, a, s, h, hf => by
  rw [Gq, if_neg (by have := s.nil; omega), zan]
 | c :: l, cs, f + 1, a, s, h, hf => by
  simp only [zal] at hf
  rw [zat] at s
  have h2 := h c (za1 ..)
  obtain ⟨hb, hlt, s3⟩ := s.head
  rw [Lu (by omega) (by omega), show c % 256 = c by omega] at hb
  rw [Gq, if_pos hlt, hb, rdC l (cs ++ [c]) f _ s3 (fun x hx => h x (zay _ hx)) (by omega), zai]
  rfl
end
section
open Go
theorem Bh : bs0.size = 0 := rfl
theorem AeY (z : Int) (hz : 0 ≤ z ∧ z < 256) : AV.ro 1 [.sc (.int .u8 z)] = Af (A9 bs0 z) := by
 rw [Ib _ z hz.1 hz.2]
 rfl
theorem AkO (z w : Int) (hz : (0 ≤ z ∧ z < 256) ∧ 0 ≤ w ∧ w < 256) : AV.ro 2 [.sc (.int .u8 z), .sc (.int .u8 w)] = Af (A9 (A9 bs0 z) w) := by
 rw [Ib _ w hz.2.1 hz.2.2, Az, (AV.ro.inj (Ib bs0 z hz.1.1 hz.1.2)).2]
 rfl
theorem Aag (b c : ByteArray) (z : Int) : b ++ A9 c z = A9 (b ++ c) z := by
 apply ByteArray.ext
 unfold A9
 rw [zby, zbD, zbD, zby, Array.append_push]
theorem Aic (a : ByteArray) : a ++ bs0 = a := by
 apply ByteArray.ext
 rw [zby]
 exact Array.append_empty ..
theorem Nu (n : Nat) (hn : 1048576 < n) (a : ByteArray) (hs : a.size ≤ 140737488355327) : Bz E0 (n + 4) 22 77 [.ro 1 [Af a]] = some (Af (a)) := by
 rw [At, Agu, f77]
 refine Ce (G := (· = some (Af (a)))) ?_
 try simp only [Fc, Fb]
 have s0 : Sep [] [] := B5
 refine Cn ?_
 rw [Ol]
 try simp only [Fc, Fb]
 refine Dd (Aq (by decide) (Zm (r := [Af a]) (by decide) (B9 rfl) rfl (Fh (c := Af a) rfl (Jr s0 (by omega) fun x1 H lx1 s2 => Bx (by omega) (by omega) ?_))))
 rw [Ol]
 try simp only [Fc, Fb]
 refine Dd (Av (by decide) (Ai (Di s2 (.here)) ?_))
 rfl
theorem Nv (n : Nat) (hn : 1048576 < n) (a : ByteArray) (b : ByteArray) (hs : a.size + b.size ≤ 140737488355327) : Bz E0 (n + 4) 22 77 [.ro 2 [Af a, Af b]] = some (Af (a ++ b)) := by
 rw [At, Agu, f77]
 refine Ce (G := (· = some (Af (a ++ b)))) ?_
 try simp only [Fc, Fb]
 have s0 : Sep [] [] := B5
 refine Cn ?_
 rw [Ol]
 try simp only [Fc, Fb]
 refine Dd (Aq (by decide) (Zm (r := [Af a, Af b]) (by decide) (B9 rfl) rfl (Fh (c := Af a) rfl (Jr s0 (by omega) fun x1 H lx1 s2 => Bx (by omega) (by omega) ?_))))
 rw [Ol]
 try simp only [Fc, Fb]
 refine Dd (Aq (by decide) (Zm (r := [Af b]) (by decide) (B9 rfl) rfl (Fh (c := Af b) rfl (Sd (s := a) s2 ⟨_, _, rfl, rfl, rfl, rfl⟩ (.here) U2 (by omega) fun x3 H lx3 s4 => Bx (by omega) (by omega) ?_))))
 rw [Ol]
 try simp only [Fc, Fb]
 refine Dd (Av (by decide) (Ai (Di s4 (.here)) ?_))
 rfl
theorem Sh (n : Nat) (hn : 1048576 < n) (b : ByteArray) (n_ : Int) (hs : b.size ≤ 70368744177664) : Bz E0 (n + 5) 22 142 [Af b, .sc (.int .i64 n_)] = some (Af (An b n_)) := by
 rw [At, AiQ, f142]
 refine Ce (G := (· = some (Af (An b n_)))) ?_
 try simp only [Fc, Fb]
 have s0 : Sep [] [] := B5
 refine T8 256 rfl (by decide) (Gz (Mz _) (F8 (IntKind.wrap_u8 _) (Gz (Mz _) (F8 (IntKind.wrap_u8 _) (Bf (cs := [.sc (.int .u8 (((n_ / 256) % 256) % 256)), .sc (.int .u8 ((n_ % 256) % 256))]) rfl (Cg s0 fun i1 H s2 => Bf (cs := [Af b, .sl i1 0 2 1]) rfl (Cg s2 fun i3 H s4 => Cb s4 rfl (.sl (.here) rfl (.cons .ro (.sl Ct rfl (Is .nil) .nil)) .nil) (by rw [AkO (((n_ / 256) % 256) % 256) ((n_ % 256) % 256) (by omega)]; exact Nv n (by omega) b (A9 (A9 bs0 (((n_ / 256) % 256) % 256)) ((n_ % 256) % 256)) (by (simp only [Az, Au, Bh]; omega))) (C2 (b ++ (A9 (A9 bs0 (((n_ / 256) % 256) % 256)) ((n_ % 256) % 256)))) fun x5 H lx5 s6 => Ai (Di s6 (.here)) ?_)))))))
 (rw [Aag, Aag, Aic]; rfl)
theorem S4 (n : Nat) (hn : 1048576 < n) (b : ByteArray) (n_ : Int) (hs : b.size ≤ 70368744177664) : Bz E0 (n + 1) 22 95 [Af b, .sc (.int .i64 n_)] = some (Af (An b n_)) := by
 rw [At, Ama, f95]
 refine Ce (G := (· = some (Af (An b n_)))) ?_
 try simp only [Fc, Fb]
 have s0 : Sep [] [] := B5
 refine Jr s0 (by omega) fun x1 H lx1 s2 => T8 256 rfl (by decide) (Gz (Mz _) (F8 (IntKind.wrap_u8 _) (Gz (Mz _) (F8 (IntKind.wrap_u8 _) (Bf (cs := [su (((n_ / 256) % 256) % 256), su ((n_ % 256) % 256)]) rfl (Cg s2 fun i3 H s4 => Uv (s := b) (z := (((n_ / 256) % 256) % 256)) (w := ((n_ % 256) % 256)) s4 Ct (.here) ⟨_, _, rfl, rfl, rfl, rfl⟩ (by omega) fun x5 H lx5 s6 => Ai (Di s6 (.here)) ?_))))))
 rfl
theorem Lq (n : Nat) (hn : 1048576 < n) (b : ByteArray) (s : ByteArray) (hb : b.size ≤ 70368744177664) (hs : s.size ≤ 1048576) : Bz E0 (n + 6) 22 141 [Af b, .sc (.string s)] = some (Af (Am b s)) := by
 rw [At, AiP, f141]
 refine Ce (G := (· = some (Af (Am b s)))) ?_
 try simp only [Fc, Fb]
 have s0 : Sep [] [] := B5
 refine Th rfl rfl (L6 _ s (za9 hs (by decide))) (B4 (Aa ((Bd s)) (fun h1 => ?_) fun h1 => ?_))
 refine Av (nF h1) (AgO (Cb s0 rfl (.cons .ro (.cons .sc .nil)) (Sh n (by omega) b (s.size : Int) (by omega)) (C2 (An b (s.size : Int))) fun x2 H lx2 s3 => Amj s3 (by omega) fun i4 H s5 => Bf (cs := [x2, .sl i4 0 s.size 1]) (K7 (z' := [x2, .nl]) (D8 lx2) rfl (B9 rfl) rfl (K7 (z' := [x2, .sl i4 0 s.size 1]) (D8 rfl) rfl (B9 rfl) rfl (rfl))) (Cg s5 fun i6 H s7 => Cb s7 rfl (.sl (.here) rfl (.cons (.own (by decide) Df) (.sl Ct AnC vwB .nil)) .nil) (Nv (n + 1) (by omega) (An b (s.size : Int)) s (by (simp only [Az, Au, Bh]; omega))) (C2 ((An b (s.size : Int)) ++ s)) fun x8 H lx8 s9 => Ai (Di s9 (.here)) ?_)))
 have e : Am b s = ((An b (s.size : Int)) ++ s) := by
  unfold Am
  simp only [h1, if_true, if_false, zaa]
 rw [e]
 refine Aq (nT h1) (Bf (cs := [Af b]) rfl (Cg s0 fun i10 H s11 => Cb s11 rfl (.sl (.here) rfl (.cons .ro .nil) .nil) (Nu (n + 1) (by omega) b (by omega)) (C2 b) fun x12 H lx12 s13 => Ai (Di s13 (.here)) ?_))
 have e : Am b s = b := by
  unfold Am
  simp only [h1, if_true, if_false, zaa]
 rw [e]
theorem Lt (n : Nat) (hn : 1048576 < n) (b : ByteArray) (s : ByteArray) (hb : b.size ≤ 70368744177664) (hs : s.size ≤ 1048576) : Bz E0 (n + 5) 22 93 [Af b, .sc (.string s)] = some (Af (Am b s)) := by
 rw [At, AlY, f93]
 refine Ce (G := (· = some (Af (Am b s)))) ?_
 try simp only [Fc, Fb]
 have s0 : Sep [] [] := B5
 refine Ao (v := (.bool (Bd s))) s0 rfl (.cons .sc .nil) (Ip n (by omega) _ s) (B4 (Aa ((Bd s)) (fun h1 => ?_) fun h1 => ?_))
 refine Av (nF h1) (AgO (Cb s0 rfl (.cons .ro (.cons .sc .nil)) (S4 (n + 3) (by omega) b (s.size : Int) (by omega)) (C2 (An b (s.size : Int))) fun x2 H lx2 s3 => Ajt (s := (An b (s.size : Int))) s3 ⟨_, _, rfl, rfl, rfl, rfl⟩ (.here) (by (simp only [Az, Au, Bh]; omega)) fun x4 H lx4 s5 => Ai (Di s5 (.here)) ?_))
 have e : Am b s = ((An b (s.size : Int)) ++ s) := by
  unfold Am
  simp only [h1, if_true, if_false, zaa]
 rw [e]
 refine Aq (nT h1) (Jr s0 (by omega) fun x6 H lx6 s7 => Ai (Di s7 (.here)) ?_)
 have e : Am b s = b := by
  unfold Am
  simp only [h1, if_true, if_false, zaa]
 rw [e]
theorem AcP (n : Nat) (hn : 1048576 < n) (b : ByteArray) (s : ByteArray) (hb : b.size ≤ 70368744177664) (hs : s.size ≤ 1048576) : Bz E0 (n + 6) 22 151 [Af b, Af s] = some (Af (Cz b s)) := by
 rw [At, AiW, f151]
 refine Ce (G := (· = some (Af (Cz b s)))) ?_
 try simp only [Fc, Fb]
 have s0 : Sep [] [] := B5
 refine Cn (Ec (Aa ((decide (60 < ((s.size : Nat) : Int)))) (fun h1 => ?_) fun h1 => ?_))
 refine Aq h1 (Bf (cs := [Af b]) rfl (Cg s0 fun i2 H s3 => Cb s3 rfl (.sl (.here) rfl (.cons .ro .nil) .nil) (Nu (n + 1) (by omega) b (by omega)) (C2 b) fun x4 H lx4 s5 => Ai (Di s5 (.here)) ?_))
 have e : Cz b s = b := by
  unfold Cz
  simp only [h1, if_true, if_false, zaa]
 rw [e]
 refine Av h1 (Cn (Cb s0 rfl (.cons .ro (.cons .sc .nil)) (Sh n (by omega) b ((s.size : Nat) : Int) (by omega)) (C2 (An b ((s.size : Nat) : Int))) fun x6 H lx6 s7 => Bf (cs := [x6, Af s]) (K7 (z' := [x6, .nl]) (D8 lx6) rfl (B9 rfl) rfl (K7 (z' := [x6, Af s]) (D8 rfl) rfl (B9 rfl) rfl (rfl))) (Cg s7 fun i8 H s9 => Cb s9 rfl (.sl (.here) rfl (.cons (.own (by decide) Ct) (.cons .ro .nil)) .nil) (Nv (n + 1) (by omega) (An b ((s.size : Nat) : Int)) s (by (simp only [Az, Au, Bh]; omega))) (C2 ((An b ((s.size : Nat) : Int)) ++ s)) fun x10 H lx10 s11 => Ai (Di s11 (.here)) ?_)))
 have e : Cz b s = ((An b ((s.size : Nat) : Int)) ++ s) := by
  unfold Cz
  simp only [h1, if_true, if_false, zaa]
 rw [e]
theorem Adb (n : Nat) (hn : 1048576 < n) (b : ByteArray) (s : ByteArray) (hb : b.size ≤ 70368744177664) (hs : s.size ≤ 1048576) : Bz E0 (n + 2) 22 96 [Af b, Af s] = some (Af (Cz b s)) := by
 rw [At, Amb, f96]
 refine Ce (G := (· = some (Af (Cz b s)))) ?_
 try simp only [Fc, Fb]
 have s0 : Sep [] [] := B5
 refine Cn (Ec (Aa ((decide (60 < ((s.size : Nat) : Int)))) (fun h1 => ?_) fun h1 => ?_))
 refine Aq h1 (Jr s0 (by omega) fun x2 H lx2 s3 => Ai (Di s3 (.here)) ?_)
 have e : Cz b s = b := by
  unfold Cz
  simp only [h1, if_true, if_false, zaa]
 rw [e]
 refine Av h1 (Cn (Cb s0 rfl (.cons .ro (.cons .sc .nil)) (S4 n (by omega) b ((s.size : Nat) : Int) (by omega)) (C2 (An b ((s.size : Nat) : Int))) fun x4 H lx4 s5 => Sd (s := (An b ((s.size : Nat) : Int))) s5 ⟨_, _, rfl, rfl, rfl, rfl⟩ (.here) U2 (by (simp only [Az, Au, Bh]; omega)) fun x6 H lx6 s7 => Ai (Di s7 (.here)) ?_))
 have e : Cz b s = ((An b ((s.size : Nat) : Int)) ++ s) := by
  unfold Cz
  simp only [h1, if_true, if_false, zaa]
 rw [e]
theorem Yg {m : Int} (h : Bw m 0 268435455 = true) : 0 ≤ m ∧ m ≤ 268435455 ∧ ¬ 127 < m / 128 / 128 / 128 := by
 simp only [Bw, zae, decide_eq_true_eq] at h
 omega
theorem Aj1 (n : Nat) (hn : 1048576 < n) (b : ByteArray) (m_ : Int) (hb : b.size ≤ 70368744177664) : Bz E0 (n + 6) 22 112 [Af b, .sc (.int .i64 m_)] = some (Af (Dc b m_)) := by
 rw [At, Aiy, f112]
 refine Ce (G := (· = some (Af (Dc b m_)))) ?_
 try simp only [Fc, Fb]
 have s0 : Sep [] [] := B5
 refine Bf (cs := [Af b]) rfl (Cg s0 fun i1 H s2 => Cb s2 rfl (.sl (.here) rfl (.cons .ro .nil) .nil) (Nu (n + 1) (by omega) b (by omega)) (C2 b) fun x3 H lx3 s4 => Ao (v := (.bool (Bw m_ 0 268435455))) s4 rfl (Pg .nil) (I7 (n + 4) _ m_ 0 268435455) (B4 (Aa ((Bw m_ 0 268435455)) (fun h5 => ?_) fun h5 => ?_)))
 obtain ⟨hm0, hm1, hq⟩ := Yg h5
 refine Av (nF h5) ?_
 rw [M5]
 try simp only [Fc, Fb]
 refine Ec (Aa ((decide (127 < m_))) (fun h6 => ?_) fun h6 => ?_)
 refine Aq h6 (Q2 (v := .sc (.int .i64 (m_ % 128))) (fun k => by show k (.sc (.int .i64 (Int.tmod (m_) 128))) = _; rw [zaD (by omega)]) (Bx (by omega) (by omega) (F8 (IntKind.wrap_u8 _) (Bf (cs := [.sc (.int .u8 (((m_ % 128) + 128) % 256))]) rfl (Cg s4 fun i7 H s8 => Ff (s := b) (z := (((m_ % 128) + 128) % 256)) s8 Ct (.here) ⟨_, _, rfl, rfl, rfl, rfl⟩ rfl (by omega) fun x9 H lx9 s10 => Ns (by omega) (by omega) (by decide) ?_)))))
 rw [M5]
 try simp only [Fc, Fb]
 refine Ec (Aa ((decide (127 < (m_ / 128)))) (fun h11 => ?_) fun h11 => ?_)
 refine Aq h11 (Q2 (v := .sc (.int .i64 ((m_ / 128) % 128))) (fun k => by show k (.sc (.int .i64 (Int.tmod ((m_ / 128)) 128))) = _; rw [zaD (by omega)]) (Bx (by omega) (by omega) (F8 (IntKind.wrap_u8 _) (Bf (cs := [.sc (.int .u8 ((((m_ / 128) % 128) + 128) % 256))]) rfl (Cg s10 fun i12 H s13 => Ff (s := (A9 b (((m_ % 128) + 128) % 256))) (z := ((((m_ / 128) % 128) + 128) % 256)) s13 Ct (.here) ⟨_, _, rfl, rfl, rfl, rfl⟩ rfl (by (simp only [Az, Bh]; omega)) fun x14 H lx14 s15 => Ns (by omega) (by omega) (by decide) ?_)))))
 rw [M5]
 try simp only [Fc, Fb]
 refine Ec (Aa ((decide (127 < ((m_ / 128) / 128)))) (fun h16 => ?_) fun h16 => ?_)
 refine Aq h16 (Q2 (v := .sc (.int .i64 (((m_ / 128) / 128) % 128))) (fun k => by show k (.sc (.int .i64 (Int.tmod (((m_ / 128) / 128)) 128))) = _; rw [zaD (by omega)]) (Bx (by omega) (by omega) (F8 (IntKind.wrap_u8 _) (Bf (cs := [.sc (.int .u8 (((((m_ / 128) / 128) % 128) + 128) % 256))]) rfl (Cg s15 fun i17 H s18 => Ff (s := (A9 (A9 b (((m_ % 128) + 128) % 256)) ((((m_ / 128) % 128) + 128) % 256))) (z := (((((m_ / 128) / 128) % 128) + 128) % 256)) s18 Ct (.here) ⟨_, _, rfl, rfl, rfl, rfl⟩ rfl (by (simp only [Az, Bh]; omega)) fun x19 H lx19 s20 => Ns (by omega) (by omega) (by decide) ?_)))))
 rw [M5]
 try simp only [Fc, Fb]
 refine Ec (Av (decide_eq_false (by omega)) (F8 (IntKind.wrap_u8 _) (Bf (cs := [.sc (.int .u8 ((((m_ / 128) / 128) / 128) % 256))]) rfl (Cg s20 fun i21 H s22 => Ff (s := (A9 (A9 (A9 b (((m_ % 128) + 128) % 256)) ((((m_ / 128) % 128) + 128) % 256)) (((((m_ / 128) / 128) % 128) + 128) % 256))) (z := ((((m_ / 128) / 128) / 128) % 256)) s22 Ct (.here) ⟨_, _, rfl, rfl, rfl, rfl⟩ rfl (by (simp only [Az, Bh]; omega)) fun x23 H lx23 s24 => Ai (Di s24 (.here)) ?_))))
 have e : Dc b m_ = (A9 (A9 (A9 (A9 b (((m_ % 128) + 128) % 256)) ((((m_ / 128) % 128) + 128) % 256)) (((((m_ / 128) / 128) % 128) + 128) % 256)) ((((m_ / 128) / 128) / 128) % 256)) := by
  simp only [Cw] at h5 h6 h11 h16
  unfold Dc
  simp only [h5, h6, h11, h16, if_true, if_false, zaa, Li, hq]
 rw [e]
 refine Av h16 (F8 (IntKind.wrap_u8 _) (Bf (cs := [.sc (.int .u8 (((m_ / 128) / 128) % 256))]) rfl (Cg s15 fun i25 H s26 => Ff (s := (A9 (A9 b (((m_ % 128) + 128) % 256)) ((((m_ / 128) % 128) + 128) % 256))) (z := (((m_ / 128) / 128) % 256)) s26 Ct (.here) ⟨_, _, rfl, rfl, rfl, rfl⟩ rfl (by (simp only [Az, Bh]; omega)) fun x27 H lx27 s28 => Ai (Di s28 (.here)) ?_)))
 have e : Dc b m_ = (A9 (A9 (A9 b (((m_ % 128) + 128) % 256)) ((((m_ / 128) % 128) + 128) % 256)) (((m_ / 128) / 128) % 256)) := by
  simp only [Cw] at h5 h6 h11 h16
  unfold Dc
  simp only [h5, h6, h11, h16, if_true, if_false, zaa, Li, hq]
 rw [e]
 refine Av h11 (F8 (IntKind.wrap_u8 _) (Bf (cs := [.sc (.int .u8 ((m_ / 128) % 256))]) rfl (Cg s10 fun i29 H s30 => Ff (s := (A9 b (((m_ % 128) + 128) % 256))) (z := ((m_ / 128) % 256)) s30 Ct (.here) ⟨_, _, rfl, rfl, rfl, rfl⟩ rfl (by (simp only [Az, Bh]; omega)) fun x31 H lx31 s32 => Ai (Di s32 (.here)) ?_)))
 have e : Dc b m_ = (A9 (A9 b (((m_ % 128) + 128) % 256)) ((m_ / 128) % 256)) := by
  simp only [Cw] at h5 h6 h11
  unfold Dc
  simp only [h5, h6, h11, if_true, if_false, zaa, Li, hq]
 rw [e]
 refine Av h6 (F8 (IntKind.wrap_u8 _) (Bf (cs := [su (m_ % 256)]) rfl (Cg s4 fun i33 H s34 => Ff (s := b) (z := (m_ % 256)) s34 Ct (.here) ⟨_, _, rfl, rfl, rfl, rfl⟩ rfl (by omega) fun x35 H lx35 s36 => Ai (Di s36 (.here)) ?_)))
 have e : Dc b m_ = (A9 b (m_ % 256)) := by
  simp only [Cw] at h5 h6
  unfold Dc
  simp only [h5, h6, if_true, if_false, zaa, Li, hq]
 rw [e]
 refine Aq (nT h5) (Ai (Di s4 (.here)) ?_)
 have e : Dc b m_ = b := by
  unfold Dc
  simp only [h5, if_true, if_false, zaa, Li]
 rw [e]
theorem AjW (n : Nat) (hn : 1048576 < n) (b : ByteArray) (m_ : Int) (hb : b.size ≤ 70368744177664) : Bz E0 (n + 6) 22 97 [Af b, .sc (.int .i64 m_)] = some (Af (Dc b m_)) := by
 rw [At, Amc, f97]
 refine Ce (G := (· = some (Af (Dc b m_)))) ?_
 try simp only [Fc, Fb]
 have s0 : Sep [] [] := B5
 refine Jr s0 (by omega) fun x1 H lx1 s2 => Ao (v := (.bool (Bw m_ 0 268435455))) s2 rfl (Pg .nil) (Hi (n + 4) _ m_ 0 268435455) (B4 (Aa ((Bw m_ 0 268435455)) (fun h3 => ?_) fun h3 => ?_))
 obtain ⟨hm0, hm1, hq⟩ := Yg h3
 refine Av (nF h3) ?_
 rw [Ps]
 try simp only [Fc, Fb]
 refine Ec (Aa ((decide (127 < m_))) (fun h4 => ?_) fun h4 => ?_)
 refine Aq h4 (Q2 (v := .sc (.int .i64 (m_ % 128))) (fun k => by show k (.sc (.int .i64 (Int.tmod (m_) 128))) = _; rw [zaD (by omega)]) (Bx (by omega) (by omega) (F8 (IntKind.wrap_u8 _) (Bf (cs := [.sc (.int .u8 ((128 + (m_ % 128)) % 256))]) rfl (Cg s2 fun i5 H s6 => Ff (s := b) (z := ((128 + (m_ % 128)) % 256)) s6 Ct (.here) ⟨_, _, rfl, rfl, rfl, rfl⟩ rfl (by omega) fun x7 H lx7 s8 => Ns (by omega) (by omega) (by decide) ?_)))))
 rw [Ps]
 try simp only [Fc, Fb]
 refine Ec (Aa ((decide (127 < (m_ / 128)))) (fun h9 => ?_) fun h9 => ?_)
 refine Aq h9 (Q2 (v := .sc (.int .i64 ((m_ / 128) % 128))) (fun k => by show k (.sc (.int .i64 (Int.tmod ((m_ / 128)) 128))) = _; rw [zaD (by omega)]) (Bx (by omega) (by omega) (F8 (IntKind.wrap_u8 _) (Bf (cs := [.sc (.int .u8 ((128 + ((m_ / 128) % 128)) % 256))]) rfl (Cg s8 fun i10 H s11 => Ff (s := (A9 b ((128 + (m_ % 128)) % 256))) (z := ((128 + ((m_ / 128) % 128)) % 256)) s11 Ct (.here) ⟨_, _, rfl, rfl, rfl, rfl⟩ rfl (by (simp only [Az, Bh]; omega)) fun x12 H lx12 s13 => Ns (by omega) (by omega) (by decide) ?_)))))
 rw [Ps]
 try simp only [Fc, Fb]
 refine Ec (Aa ((decide (127 < ((m_ / 128) / 128)))) (fun h14 => ?_) fun h14 => ?_)
 refine Aq h14 (Q2 (v := .sc (.int .i64 (((m_ / 128) / 128) % 128))) (fun k => by show k (.sc (.int .i64 (Int.tmod (((m_ / 128) / 128)) 128))) = _; rw [zaD (by omega)]) (Bx (by omega) (by omega) (F8 (IntKind.wrap_u8 _) (Bf (cs := [.sc (.int .u8 ((128 + (((m_ / 128) / 128) % 128)) % 256))]) rfl (Cg s13 fun i15 H s16 => Ff (s := (A9 (A9 b ((128 + (m_ % 128)) % 256)) ((128 + ((m_ / 128) % 128)) % 256))) (z := ((128 + (((m_ / 128) / 128) % 128)) % 256)) s16 Ct (.here) ⟨_, _, rfl, rfl, rfl, rfl⟩ rfl (by (simp only [Az, Bh]; omega)) fun x17 H lx17 s18 => Ns (by omega) (by omega) (by decide) ?_)))))
 rw [Ps]
 try simp only [Fc, Fb]
 refine Ec (Av (decide_eq_false (by omega)) (F8 (IntKind.wrap_u8 _) (Bf (cs := [.sc (.int .u8 ((((m_ / 128) / 128) / 128) % 256))]) rfl (Cg s18 fun i19 H s20 => Ff (s := (A9 (A9 (A9 b ((128 + (m_ % 128)) % 256)) ((128 + ((m_ / 128) % 128)) % 256)) ((128 + (((m_ / 128) / 128) % 128)) % 256))) (z := ((((m_ / 128) / 128) / 128) % 256)) s20 Ct (.here) ⟨_, _, rfl, rfl, rfl, rfl⟩ rfl (by (simp only [Az, Bh]; omega)) fun x21 H lx21 s22 => Ai (Di s22 (.here)) ?_))))
 have e : Dc b m_ = (A9 (A9 (A9 (A9 b ((128 + (m_ % 128)) % 256)) ((128 + ((m_ / 128) % 128)) % 256)) ((128 + (((m_ / 128) / 128) % 128)) % 256)) ((((m_ / 128) / 128) / 128) % 256)) := by
  simp only [Cw] at h3 h4 h9 h14
  unfold Dc
  simp only [h3, h4, h9, h14, if_true, if_false, zaa, Li, hq]
  try simp only [zbM]
 rw [e]
 refine Av h14 (F8 (IntKind.wrap_u8 _) (Bf (cs := [.sc (.int .u8 (((m_ / 128) / 128) % 256))]) rfl (Cg s13 fun i23 H s24 => Ff (s := (A9 (A9 b ((128 + (m_ % 128)) % 256)) ((128 + ((m_ / 128) % 128)) % 256))) (z := (((m_ / 128) / 128) % 256)) s24 Ct (.here) ⟨_, _, rfl, rfl, rfl, rfl⟩ rfl (by (simp only [Az, Bh]; omega)) fun x25 H lx25 s26 => Ai (Di s26 (.here)) ?_)))
 have e : Dc b m_ = (A9 (A9 (A9 b ((128 + (m_ % 128)) % 256)) ((128 + ((m_ / 128) % 128)) % 256)) (((m_ / 128) / 128) % 256)) := by
  simp only [Cw] at h3 h4 h9 h14
  unfold Dc
  simp only [h3, h4, h9, h14, if_true, if_false, zaa, Li, hq]
  try simp only [zbM]
 rw [e]
 refine Av h9 (F8 (IntKind.wrap_u8 _) (Bf (cs := [.sc (.int .u8 ((m_ / 128) % 256))]) rfl (Cg s8 fun i27 H s28 => Ff (s := (A9 b ((128 + (m_ % 128)) % 256))) (z := ((m_ / 128) % 256)) s28 Ct (.here) ⟨_, _, rfl, rfl, rfl, rfl⟩ rfl (by (simp only [Az, Bh]; omega)) fun x29 H lx29 s30 => Ai (Di s30 (.here)) ?_)))
 have e : Dc b m_ = (A9 (A9 b ((128 + (m_ % 128)) % 256)) ((m_ / 128) % 256)) := by
  simp only [Cw] at h3 h4 h9
  unfold Dc
  simp only [h3, h4, h9, if_true, if_false, zaa, Li, hq]
  try simp only [zbM]
 rw [e]
 refine Av h4 (F8 (IntKind.wrap_u8 _) (Bf (cs := [su (m_ % 256)]) rfl (Cg s2 fun i31 H s32 => Ff (s := b) (z := (m_ % 256)) s32 Ct (.here) ⟨_, _, rfl, rfl, rfl, rfl⟩ rfl (by omega) fun x33 H lx33 s34 => Ai (Di s34 (.here)) ?_)))
 have e : Dc b m_ = (A9 b (m_ % 256)) := by
  simp only [Cw] at h3 h4
  unfold Dc
  simp only [h3, h4, if_true, if_false, zaa, Li, hq]
  try simp only [zbM]
 rw [e]
 refine Aq (nT h3) (Ai (Di s2 (.here)) ?_)
 have e : Dc b m_ = b := by
  unfold Dc
  simp only [h3, if_true, if_false, zaa, Li]
  try simp only [zbM]
 rw [e]
end
section
open Go
theorem He (b : Bool) (n : Int) (h : 0 ≤ n) : 0 ≤ Bb b n ∧ Bb b n ≤ n := by
 unfold Bb
 split <;> omega
theorem Aah (n : Nat) (b : Bool) (i : Int) : Bz E0 (n + 1) 3 140 [.sc (.bool b), .sc (.int .i64 i)] = some (.sc (.int .i64 (Bb b i))) := by
 rw [At, AiO, f140]
 refine Ce (G := (· = some (si (Bb b i)))) ?_
 try simp only [Fc, Fb]
 have s0 : Sep [] [] := B5
 refine Aa (b) (fun h1 => ?_) fun h1 => ?_
 refine Aq h1 (Ai rfl ?_)
 have e : Bb b i = i := by
  simp only [Bb, h1, if_true, if_false, zaa]
 rw [e]
 refine Av h1 (Ai rfl ?_)
 have e : Bb b i = 0 := by
  simp only [Bb, h1, if_true, if_false, zaa]
 rw [e]
theorem T7 (n : Nat) (b : Bool) (i : Int) : Bz E0 (n + 1) 3 94 [.sc (.bool b), .sc (.int .i64 i)] = some (.sc (.int .i64 (Bb b i))) := by
 rw [At, AlZ, f94]
 refine Ce (G := (· = some (si (Bb b i)))) ?_
 try simp only [Fc, Fb]
 have s0 : Sep [] [] := B5
 refine Aa (b) (fun h1 => ?_) fun h1 => ?_
 refine Aq h1 (Ai rfl ?_)
 have e : Bb b i = i := by
  simp only [Bb, h1, if_true, if_false, zaa]
 rw [e]
 refine Av h1 (Ai rfl ?_)
 have e : Bb b i = 0 := by
  simp only [Bb, h1, if_true, if_false, zaa]
 rw [e]
theorem Abr (n : Nat) (hn : 1048576 < n) (p : PacketV) (hp : G8 p) (hb1 : p.fWBody.size ≤ 1048576) (hb2 : p.fPass.size ≤ 1048576) (hq : 0 ≤ p.fWQos ∧ p.fWQos ≤ 2) : Bz E0 (n + 7) 22 139 [.agg (Ap p)] = some (Af (Fa p)) := by
 rw [At, AiN, f139]
 refine Ce (G := (· = some (Af (Fa p)))) ?_
 try simp only [Fc, Fb]
 have s0 : Sep [] [] := B5
 refine Id s0 (D0 (Cf _)) fun i1 H s2 => gf9 (Al (c := sb p.fClean) s2 (.here) rfl (Qy (Al (c := sb p.fHasWill) s2 (.here) rfl (V7 (Al (c := si p.fWQos) s2 (.here) rfl (Pu (by omega) (by omega) (Aa6 (Al (c := sb p.fWRetain) s2 (.here) rfl (Kx (Al (c := sb p.fHasPass) s2 (.here) rfl (Pd (Al (c := sb p.fHasUser) s2 (.here) rfl ?_))))))))))))
 have q3 := He p.fClean 2 (by decide)
 refine Ao (v := (.int .i64 (Bb p.fClean 2))) s2 rfl (Is .nil) (Aah (n + 5) p.fClean 2) ?_
 have q4 := He p.fHasWill 4 (by decide)
 refine Ao (v := (.int .i64 (Bb p.fHasWill 4))) s2 rfl (Is .nil) (Aah (n + 5) p.fHasWill 4) (Bx (by omega) (by omega) (Bx (by omega) (by omega) ?_))
 have q5 := He p.fWRetain 32 (by decide)
 refine Ao (v := (.int .i64 (Bb p.fWRetain 32))) s2 rfl (Is .nil) (Aah (n + 5) p.fWRetain 32) (Bx (by omega) (by omega) ?_)
 have q6 := He p.fHasPass 64 (by decide)
 refine Ao (v := (.int .i64 (Bb p.fHasPass 64))) s2 rfl (Is .nil) (Aah (n + 5) p.fHasPass 64) (Bx (by omega) (by omega) ?_)
 have q7 := He p.fHasUser 128 (by decide)
 refine Ao (v := (.int .i64 (Bb p.fHasUser 128))) s2 rfl (Is .nil) (Aah (n + 5) p.fHasUser 128) (Bx (by omega) (by omega) (gf8 (Al (c := si p.fLevel) s2 (.here) rfl (F8 (IntKind.wrap_u8 _) (F8 (IntKind.wrap_u8 _) (On (P := fun j => ∀ (x8 : AV) (z8t4 : ByteArray) (H : Ac), Bj x8 = true → (z8t4.size ≤ 100) → Sep H [.own x8 22 (Af z8t4), .blk i1 (Ap p) true] → Gd (· = some (Af (C5 p (Dz p (E2 p (Am (An z8t4 p.fKeep) p.fClient)))))) (j (.ptr i1 0) x8 H)) ?_ fun j8 hj8 => ?_))))))
 intro x8 z8t4 H lx8 hz80 s9
 refine V4 (Al (c := si p.fKeep) s9 Ct rfl (gf7 (Al (c := ss p.fClient) s9 Ct rfl (Cb s9 rfl (.cons (.own (by decide) (.here)) (.cons .sc .nil)) (Sh (n + 1) (by omega) z8t4 p.fKeep (by omega)) (C2 (An z8t4 p.fKeep)) fun x10 H lx10 s11 => ?_))))
 have z12 := Cq (An z8t4 p.fKeep) p.fClient
 simp only [Az, Au, Bh, zaj] at z12
 refine Cb s11 rfl (.cons (.own (by decide) (.here)) (.cons .sc .nil)) (Lq n (by omega) (An z8t4 p.fKeep) p.fClient (by (simp only [Az, Au, Bh, zaj]; omega)) hp.t2) (C2 (Am (An z8t4 p.fKeep) p.fClient)) fun x13 H lx13 s14 => Qy (Al (c := .sc (.bool p.fHasWill)) s14 Nk rfl (On (P := fun j => ∀ (x15 : AV) (z15t4 : ByteArray) (H : Ac), Bj x15 = true → (z15t4.size ≤ 400) → Sep H [.own x15 22 (Af z15t4), .blk i1 (Ap p) true] → Gd (· = some (Af (C5 p (Dz p z15t4)))) (j (.ptr i1 0) x15 H)) ?_ fun j15 hj15 => ?_))
 intro x15 z15t4 H lx15 hz150 s16
 refine Pd (Al (c := sb p.fHasUser) s16 Ct rfl (On (P := fun j => ∀ (x17 : AV) (z17t4 : ByteArray) (H : Ac), Bj x17 = true → (z17t4.size ≤ 600) → Sep H [.own x17 22 (Af z17t4), .blk i1 (Ap p) true] → Gd (· = some (Af (C5 p z17t4))) (j (.ptr i1 0) x17 H)) ?_ fun j17 hj17 => ?_))
 intro x17 z17t4 H lx17 hz170 s18
 refine Kx (Al (c := sb p.fHasPass) s18 Ct rfl (De (Aa (p.fHasPass) (fun h19 => ?_) fun h19 => ?_)))
 refine Aq h19 (Nf (Al (c := Af p.fPass) s18 Ct rfl ?_))
 have z20 := Iq z17t4 p.fPass
 refine Cb s18 rfl (.cons (.own (by decide) (.here)) (.cons .ro .nil)) (AcP n (by omega) z17t4 p.fPass (by omega) hb2) (C2 (Cz z17t4 p.fPass)) fun x21 H lx21 s22 => Ai (Di s22 (.here)) ?_
 have e : C5 p z17t4 = (Cz z17t4 p.fPass) := by
  simp only [Fa, G6, E2, Dz, C5, D2, h19, if_true, if_false, zaa]
 rw [e]
 refine Av h19 (Ai (Di s18 (.here)) ?_)
 have e : C5 p z17t4 = z17t4 := by
  simp only [Fa, G6, E2, Dz, C5, D2, h19, if_true, if_false, zaa]
 rw [e]
 refine Aa (p.fHasUser) (fun h23 => ?_) fun h23 => ?_
 refine Aq h23 (Pw (Al (c := ss p.fUser) s16 Ct rfl ?_))
 have z24 := Cq z15t4 p.fUser
 refine Cb s16 rfl (.cons (.own (by decide) (.here)) (.cons .sc .nil)) (Lq n (by omega) z15t4 p.fUser (by omega) hp.t4) (C2 (Am z15t4 p.fUser)) fun x25 H lx25 s26 => ?_
 have e27 : C5 p (Dz p z15t4) = C5 p (Am z15t4 p.fUser) := by
  simp only [Fa, G6, E2, Dz, C5, D2, h23, if_true, if_false, zaa]
 rw [e27]
 exact hj17 x25 (Am z15t4 p.fUser)  _ lx25 (by omega) (s26.sel (.cons (.here) (.cons Ct .nil)))
 refine Av h23 ?_
 have e28 : C5 p (Dz p z15t4) = C5 p z15t4 := by
  simp only [Fa, G6, E2, Dz, C5, D2, h23, if_true, if_false, zaa]
 rw [e28]
 exact hj17 x15 z15t4  _ lx15 (by omega) (s16.sel (.cons (.here) (.cons (.here) .nil)))
 refine Aa (p.fHasWill) (fun h29 => ?_) fun h29 => ?_
 refine Aq h29 (V5 (Al (c := ss p.fWTopic) s14 Nk rfl (V6 (Al (c := Af p.fWBody) s14 Nk rfl ?_))))
 have z30 := Cq (Am (An z8t4 p.fKeep) p.fClient) p.fWTopic
 refine Cb s14 rfl (.cons (.own (by decide) (.here)) (.cons .sc .nil)) (Lq n (by omega) (Am (An z8t4 p.fKeep) p.fClient) p.fWTopic (by omega) hp.t3) (C2 (Am (Am (An z8t4 p.fKeep) p.fClient) p.fWTopic)) fun x31 H lx31 s32 => ?_
 have z33 := Iq (Am (Am (An z8t4 p.fKeep) p.fClient) p.fWTopic) p.fWBody
 refine Cb s32 rfl (.cons (.own (by decide) (.here)) (.cons .ro .nil)) (AcP n (by omega) (Am (Am (An z8t4 p.fKeep) p.fClient) p.fWTopic) p.fWBody (by omega) hb1) (C2 (Cz (Am (Am (An z8t4 p.fKeep) p.fClient) p.fWTopic) p.fWBody)) fun x34 H lx34 s35 => ?_
 have e36 : C5 p (Dz p (E2 p (Am (An z8t4 p.fKeep) p.fClient))) = C5 p (Dz p (Cz (Am (Am (An z8t4 p.fKeep) p.fClient) p.fWTopic) p.fWBody)) := by
  simp only [Fa, G6, E2, Dz, C5, D2, h29, if_true, if_false, zaa]
 rw [e36]
 exact hj15 x34 (Cz (Am (Am (An z8t4 p.fKeep) p.fClient) p.fWTopic) p.fWBody)  _ lx34 (by omega) (s35.sel (.cons (.here) (.cons Nl .nil)))
 refine Av h29 ?_
 have e37 : C5 p (Dz p (E2 p (Am (An z8t4 p.fKeep) p.fClient))) = C5 p (Dz p (Am (An z8t4 p.fKeep) p.fClient)) := by
  simp only [Fa, G6, E2, Dz, C5, D2, h29, if_true, if_false, zaa]
 rw [e37]
 exact hj15 x13 (Am (An z8t4 p.fKeep) p.fClient)  _ lx13 (by omega) (s14.sel (.cons (.here) (.cons Df .nil)))
 refine Gd.bothE ?_ ?_
 have z38 := Cq bs0 mqtt
 simp only [Az, Au, Bh, zaj] at z38
 refine Cb s2 rfl (.cons .nl (.cons .sc .nil)) (Lq n (by omega) bs0 mqtt (by (simp only [Az, Au, Bh, zaj]; omega)) (by decide)) (C2 (Am bs0 mqtt)) fun x39 H lx39 s40 => Bf (cs := [.sc (.int .u8 (p.fLevel % 256)), .sc (.int .u8 (((((((Bb p.fClean 2) + (Bb p.fHasWill 4)) + (8 * p.fWQos)) + (Bb p.fWRetain 32)) + (Bb p.fHasPass 64)) + (Bb p.fHasUser 128)) % 256))]) rfl (Cg s40 fun i41 H s42 => Uv (s := (Am bs0 mqtt)) (z := (p.fLevel % 256)) (w := (((((((Bb p.fClean 2) + (Bb p.fHasWill 4)) + (8 * p.fWQos)) + (Bb p.fWRetain 32)) + (Bb p.fHasPass 64)) + (Bb p.fHasUser 128)) % 256)) s42 Ct (.here) ⟨_, _, rfl, rfl, rfl, rfl⟩ (by omega) fun x43 H lx43 s44 => ?_)
 have e45 : Fa p = C5 p (Dz p (E2 p (Am (An (A9 (A9 (Am bs0 mqtt) (p.fLevel % 256)) (((((((Bb p.fClean 2) + (Bb p.fHasWill 4)) + (8 * p.fWQos)) + (Bb p.fWRetain 32)) + (Bb p.fHasPass 64)) + (Bb p.fHasUser 128)) % 256)) p.fKeep) p.fClient))) := by
  rfl
 rw [e45]
 exact hj8 x43 (A9 (A9 (Am bs0 mqtt) (p.fLevel % 256)) (((((((Bb p.fClean 2) + (Bb p.fHasWill 4)) + (8 * p.fWQos)) + (Bb p.fWRetain 32)) + (Bb p.fHasPass 64)) + (Bb p.fHasUser 128)) % 256))  _ lx43 (by (simp only [Az, Au, Bh, zaj]; omega)) (s44.sel (.cons (.here) (.cons (.here) .nil)))
 refine Bf (cs := [su (p.fLevel % 256), .sc (.int .u8 (((((((Bb p.fClean 2) + (Bb p.fHasWill 4)) + (8 * p.fWQos)) + (Bb p.fWRetain 32)) + (Bb p.fHasPass 64)) + (Bb p.fHasUser 128)) % 256))]) rfl (Cg s2 fun i46 H s47 => ?_)
 have z48 := Cq bs0 mqtt
 simp only [Az, Au, Bh, zaj] at z48
 refine Cb s47 rfl (.cons .nl (.cons .sc .nil)) (Lq n (by omega) bs0 mqtt (by (simp only [Az, Au, Bh, zaj]; omega)) (by decide)) (C2 (Am bs0 mqtt)) fun x49 H lx49 s50 => Uv (s := (Am bs0 mqtt)) (z := (p.fLevel % 256)) (w := (((((((Bb p.fClean 2) + (Bb p.fHasWill 4)) + (8 * p.fWQos)) + (Bb p.fWRetain 32)) + (Bb p.fHasPass 64)) + (Bb p.fHasUser 128)) % 256)) s50 (.here) (.here) ⟨_, _, rfl, rfl, rfl, rfl⟩ (by omega) fun x51 H lx51 s52 => ?_
 have e53 : Fa p = C5 p (Dz p (E2 p (Am (An (A9 (A9 (Am bs0 mqtt) (p.fLevel % 256)) (((((((Bb p.fClean 2) + (Bb p.fHasWill 4)) + (8 * p.fWQos)) + (Bb p.fWRetain 32)) + (Bb p.fHasPass 64)) + (Bb p.fHasUser 128)) % 256)) p.fKeep) p.fClient))) := by
  rfl
 rw [e53]
 exact hj8 x51 (A9 (A9 (Am bs0 mqtt) (p.fLevel % 256)) (((((((Bb p.fClean 2) + (Bb p.fHasWill 4)) + (8 * p.fWQos)) + (Bb p.fWRetain 32)) + (Bb p.fHasPass 64)) + (Bb p.fHasUser 128)) % 256))  _ lx51 (by (simp only [Az, Au, Bh, zaj]; omega)) (s52.sel (.cons (.here) (.cons (.here) .nil)))
theorem AbO (n : Nat) (hn : 1048576 < n) (p : PacketV) (ht : 1 ≤ p.fType ∧ p.fType ≤ 14) (hq : 0 ≤ p.fQos ∧ p.fQos ≤ 2) : Bz E0 (n + 3) 3 113 [.agg (Ap p)] = some (.sc (.int .i64 (Cv p))) := by
 rw [At, Aiz, f113]
 refine Ce (G := (· = some (si (Cv p)))) ?_
 try simp only [Fc, Fb]
 have s0 : Sep [] [] := B5
 refine Id s0 (D0 (Cf _)) fun i1 H s2 => N9 (Al (c := si p.fType) s2 (.here) rfl (Pu (by omega) (by omega) (N9 (Al (c := si p.fType) s2 (.here) rfl (A2 (Aa ((decide (p.fType = 3))) (fun h3 => ?_) fun h3 => ?_))))))
 refine Aq h3 (V3 (Al (c := sb p.fDup) s2 (.here) rfl (Pe (Al (c := si p.fQos) s2 (.here) rfl (Pu (by omega) (by omega) (gf3 (Al (c := sb p.fRetain) s2 (.here) rfl ?_)))))))
 have q4 := He p.fDup 8 (by decide)
 refine Ao (v := (.int .i64 (Bb p.fDup 8))) s2 rfl (Is .nil) (Aah (n + 1) p.fDup 8) (Bx (by omega) (by omega) ?_)
 have q5 := He p.fRetain 1 (by decide)
 refine Ao (v := (.int .i64 (Bb p.fRetain 1))) s2 rfl (Is .nil) (Aah (n + 1) p.fRetain 1) (Bx (by omega) (by omega) (Bx (by omega) (by omega) (Ai rfl ?_)))
 have e : Cv p = ((16 * p.fType) + (((Bb p.fDup 8) + (2 * p.fQos)) + (Bb p.fRetain 1))) := by
  clear s0 s2
  simp only [Cw] at h3
  unfold Cv; (repeat' split) <;> omega
 rw [e]
 refine Av h3 (A2 (De (Aa ((decide (p.fType = 6))) (fun h6 => ?_) fun h6 => ?_)))
 refine Aq h6 (Aq h6 (Bx (by omega) (by omega) (Ai rfl ?_)))
 have e : Cv p = ((16 * p.fType) + 2) := by
  clear s0 s2
  simp only [Cw] at h3 h6
  unfold Cv; (repeat' split) <;> omega
 rw [e]
 refine Av h6 (A2 (Aa ((decide (p.fType = 8))) (fun h7 => ?_) fun h7 => ?_))
 refine Aq h7 (Aq h7 (Bx (by omega) (by omega) (Ai rfl ?_)))
 have e : Cv p = ((16 * p.fType) + 2) := by
  clear s0 s2
  simp only [Cw] at h3 h6 h7
  unfold Cv; (repeat' split) <;> omega
 rw [e]
 refine Av h7 (A2 (Aa ((decide (p.fType = 10))) (fun h8 => ?_) fun h8 => ?_))
 refine Aq h8 (Bx (by omega) (by omega) (Ai rfl ?_))
 have e : Cv p = ((16 * p.fType) + 2) := by
  clear s0 s2
  simp only [Cw] at h3 h6 h7 h8
  unfold Cv; (repeat' split) <;> omega
 rw [e]
 refine Av h8 (Ai rfl ?_)
 have e : Cv p = (16 * p.fType) := by
  clear s0 s2
  simp only [Cw] at h3 h6 h7 h8
  unfold Cv; (repeat' split) <;> omega
 rw [e]
theorem V2 (n : Nat) (hn : 1048576 < n) (p : PacketV) (hp : G8 p) (hb1 : p.fWBody.size ≤ 1048576) (hb2 : p.fPass.size ≤ 1048576) (hb3 : p.fBody.size ≤ 1048576) (hq : 0 ≤ p.fWQos ∧ p.fWQos ≤ 2) (h3 : (decide (p.fType = 1)) = false) (h6 : (decide (p.fType = 2)) = false) (h11 : (decide (p.fType = 3)) = false) (h26 : (decide (p.fType = 12)) = false) (h28 : (decide (p.fType = 13)) = false) (h30 : (decide (p.fType = 14)) = false)  : ∀ (t pre : List ByteArray) (m : Nat) (i : Int) (a0 : AV) (H : Ac), p.fNames = pre ++ t → i = ((pre.length : Nat) : Int) → t.length < m → Bj a0 = true → Sep H [.own a0 22 (Af (Fi (Do (Bk (An bs0 p.fId) p.fWants) p.fCodes) pre))] → Gd (· = some (Af (C3 p))) (Of (PR (n + 7) AV) (n + 7) (fun x H => Bc As E0.tp 22 H x) m (a0) (Ee p.fNames) (.sc (.int .i64 ((p.fNames.length : Nat) : Int))) (.sc (.int .i64 i)) H)
 | [], pre, m + 1, i, a0, H, he, hi, hm, la0, s0 => by
  obtain rfl : pre = p.fNames := by simpa using he.symm
  have hl1 := hp.l1
  have hl2 := hp.l2
  have hl3 := hp.l3
  have zl1 := Ev p.fWants (An bs0 p.fId)
  have zl2 := Eu p.fCodes (Bk (An bs0 p.fId) p.fWants)
  have zl0 := Md p.fNames (Do (Bk (An bs0 p.fId) p.fWants) p.fCodes)
  simp only [Au, Bh] at zl1
  rw [Of]
  try simp only [Fc, Fb]
  refine Dd (Av (by simp [hi]) (Ai (Di s0 (.here)) ?_))
  have e : C3 p = (Fi (Do (Bk (An bs0 p.fId) p.fWants) p.fCodes) p.fNames) := by
   simp only [Cw] at h3 h6 h11 h26 h28 h30
   (simp only [C3, Ij, Ha, h3, h6, h11, h26, h28, h30, if_true, if_false, zaa]; rfl)
  rw [e]
 | y :: t, pre, m + 1, i, a0, H, he, hi, hm, la0, s0 => by
  have hlt : pre.length < p.fNames.length := by rw [he]; simp
  have hl1 := hp.l1
  have hl2 := hp.l2
  have hl3 := hp.l3
  have zl1 := Ev p.fWants (An bs0 p.fId)
  have zl2 := Eu p.fCodes (Bk (An bs0 p.fId) p.fWants)
  have zl0 := Md pre (Do (Bk (An bs0 p.fId) p.fWants) p.fCodes)
  simp only [Au, Bh] at zl1
  rw [Of]
  try simp only [Fc, Fb]
  refine Dd (Aq (by simp [hi]; omega) (N3 hi he (Fh (c := .sc (.string y)) rfl ?_)))
  have z201 := Cq (Fi (Do (Bk (An bs0 p.fId) p.fWants) p.fCodes) pre) y
  refine Cb s0 rfl (.cons (.own (by decide) (.here)) (.cons .sc .nil)) (Lq (n + 1) (by omega) (Fi (Do (Bk (An bs0 p.fId) p.fWants) p.fCodes) pre) y (by omega) (hp.w2 y (by rw [he]; simp))) (C2 (Am (Fi (Do (Bk (An bs0 p.fId) p.fWants) p.fCodes) pre) y)) fun x202 H lx202 s203 => Bx (by omega) (by omega) ?_
  have e204 : (Fi (Do (Bk (An bs0 p.fId) p.fWants) p.fCodes) (pre ++ [y])) = (Am (Fi (Do (Bk (An bs0 p.fId) p.fWants) p.fCodes) pre) y) := by
   try simp only [bne_iff_ne, beq_iff_eq, beq_eq_false_iff_ne, Cw] at h3 h6 h11 h26 h28 h30
   simp only [Fi, zbi, zbe, zbz, h3, h6, h11, h26, h28, h30, if_true, if_false, zaa]
  exact V2 n hn p hp hb1 hb2 hb3 hq h3 h6 h11 h26 h28 h30  t (pre ++ [y]) m _ x202 _ (by rw [he]; simp) (by rw [hi]; simp) (by simpa using hm) lx202 (by rw [e204]; exact (s203.sel (.cons (.here) .nil)))
theorem V1 (n : Nat) (hn : 1048576 < n) (p : PacketV) (hp : G8 p) (hb1 : p.fWBody.size ≤ 1048576) (hb2 : p.fPass.size ≤ 1048576) (hb3 : p.fBody.size ≤ 1048576) (hq : 0 ≤ p.fWQos ∧ p.fWQos ≤ 2) (h3 : (decide (p.fType = 1)) = false) (h6 : (decide (p.fType = 2)) = false) (h11 : (decide (p.fType = 3)) = false) (h26 : (decide (p.fType = 12)) = false) (h28 : (decide (p.fType = 13)) = false) (h30 : (decide (p.fType = 14)) = false)  : ∀ (t pre : List Int) (m : Nat) (i : Int) (i1 : Nat) (a1 : AV) (H : Ac), p.fCodes = pre ++ t → i = ((pre.length : Nat) : Int) → t.length < m → Bj a1 = true → Sep H [.own a1 22 (Af (Do (Bk (An bs0 p.fId) p.fWants) pre)), .blk i1 (Ap p) true] → Gd (· = some (Af (C3 p))) (Lo (PR (n + 7) AV) (n + 7) (fun x H => Bc As E0.tp 22 H x) m (.ptr i1 0) (a1) (Ei p.fCodes) (.sc (.int .i64 ((p.fCodes.length : Nat) : Int))) (.sc (.int .i64 i)) H)
 | [], pre, m + 1, i, i1, a1, H, he, hi, hm, la1, s0 => by
  obtain rfl : pre = p.fCodes := by simpa using he.symm
  have hl1 := hp.l1
  have hl2 := hp.l2
  have hl3 := hp.l3
  have zl1 := Ev p.fWants (An bs0 p.fId)
  have zl2 := Eu p.fCodes (Bk (An bs0 p.fId) p.fWants)
  have zl0 := Eu p.fCodes (Bk (An bs0 p.fId) p.fWants)
  simp only [Au, Bh] at zl1
  rw [Lo]
  try simp only [Fc, Fb]
  refine Dd (Av (by simp [hi]) (K9 (Al (c := Ee p.fNames) s0 Ct rfl (Cn ?_))))
  have s201 : Sep _ [.own a1 22 (Af (Fi (Do (Bk (An bs0 p.fId) p.fWants) p.fCodes) []))] := s0.sel (.cons (.here) .nil)
  exact V2 n hn p hp hb1 hb2 hb3 hq h3 h6 h11 h26 h28 h30  p.fNames [] _ 0 a1 _ rfl rfl (by omega) la1 s201
 | y :: t, pre, m + 1, i, i1, a1, H, he, hi, hm, la1, s0 => by
  have hlt : pre.length < p.fCodes.length := by rw [he]; simp
  have hl1 := hp.l1
  have hl2 := hp.l2
  have hl3 := hp.l3
  have zl1 := Ev p.fWants (An bs0 p.fId)
  have zl2 := Eu p.fCodes (Bk (An bs0 p.fId) p.fWants)
  have zl0 := Eu pre (Bk (An bs0 p.fId) p.fWants)
  simp only [Au, Bh] at zl1
  rw [Lo]
  try simp only [Fc, Fb]
  refine Dd (Aq (by simp [hi]; omega) (Kk hi he (Fh (c := .sc (.int .i64 y)) rfl (F8 (IntKind.wrap_u8 _) (Bf (cs := [.sc (.int .u8 (y % 256))]) rfl (Cg s0 fun i201 H s202 => Ff (s := (Do (Bk (An bs0 p.fId) p.fWants) pre)) (z := (y % 256)) s202 Ct (.here) ⟨_, _, rfl, rfl, rfl, rfl⟩ rfl (by omega) fun x203 H lx203 s204 => Bx (by omega) (by omega) ?_))))))
  have e205 : (Do (Bk (An bs0 p.fId) p.fWants) (pre ++ [y])) = (A9 (Do (Bk (An bs0 p.fId) p.fWants) pre) (y % 256)) := by
   try simp only [bne_iff_ne, beq_iff_eq, beq_eq_false_iff_ne, Cw] at h3 h6 h11 h26 h28 h30
   simp only [Do, zbi, zbe, zbz, h3, h6, h11, h26, h28, h30, if_true, if_false, zaa]
  exact V1 n hn p hp hb1 hb2 hb3 hq h3 h6 h11 h26 h28 h30  t (pre ++ [y]) m _ i1 x203 _ (by rw [he]; simp) (by rw [hi]; simp) (by simpa using hm) lx203 (by rw [e205]; exact (s204.sel (.cons (.here) (.cons (.here) .nil))))
theorem Rl (n : Nat) (hn : 1048576 < n) (p : PacketV) (hp : G8 p) (hb1 : p.fWBody.size ≤ 1048576) (hb2 : p.fPass.size ≤ 1048576) (hb3 : p.fBody.size ≤ 1048576) (hq : 0 ≤ p.fWQos ∧ p.fWQos ≤ 2) (h3 : (decide (p.fType = 1)) = false) (h6 : (decide (p.fType = 2)) = false) (h11 : (decide (p.fType = 3)) = false) (h26 : (decide (p.fType = 12)) = false) (h28 : (decide (p.fType = 13)) = false) (h30 : (decide (p.fType = 14)) = false)  : ∀ (t pre : List WantV) (m : Nat) (i : Int) (i1 : Nat) (a1 : AV) (H : Ac), p.fWants = pre ++ t → i = ((pre.length : Nat) : Int) → t.length < m → Bj a1 = true → Sep H [.own a1 22 (Af (Bk (An bs0 p.fId) pre)), .blk i1 (Ap p) true] → Gd (· = some (Af (C3 p))) (Ln (PR (n + 7) AV) (n + 7) (fun x H => Bc As E0.tp 22 H x) m (.ptr i1 0) (a1) (Ci Bn p.fWants) (.sc (.int .i64 ((p.fWants.length : Nat) : Int))) (.sc (.int .i64 i)) H)
 | [], pre, m + 1, i, i1, a1, H, he, hi, hm, la1, s0 => by
  obtain rfl : pre = p.fWants := by simpa using he.symm
  have hl1 := hp.l1
  have hl2 := hp.l2
  have hl3 := hp.l3
  have zl1 := Ev p.fWants (An bs0 p.fId)
  have zl2 := Eu p.fCodes (Bk (An bs0 p.fId) p.fWants)
  have zl0 := Ev p.fWants (An bs0 p.fId)
  simp only [Au, Bh] at zl1
  simp only [Au, Bh] at zl0
  rw [Ln]
  try simp only [Fc, Fb]
  refine Dd (Av (by simp [hi]) (La (Al (c := Ei p.fCodes) s0 Ct rfl (Cn ?_))))
  have s201 : Sep _ [.own a1 22 (Af (Do (Bk (An bs0 p.fId) p.fWants) [])), .blk i1 (Ap p) true] := s0.sel (.cons (.here) (.cons (.here) .nil))
  exact V1 n hn p hp hb1 hb2 hb3 hq h3 h6 h11 h26 h28 h30  p.fCodes [] _ 0 i1 a1 _ rfl rfl (by omega) la1 s201
 | y :: t, pre, m + 1, i, i1, a1, H, he, hi, hm, la1, s0 => by
  have hlt : pre.length < p.fWants.length := by rw [he]; simp
  have hl1 := hp.l1
  have hl2 := hp.l2
  have hl3 := hp.l3
  have zl1 := Ev p.fWants (An bs0 p.fId)
  have zl2 := Eu p.fCodes (Bk (An bs0 p.fId) p.fWants)
  have zl0 := Ev pre (An bs0 p.fId)
  simp only [Au, Bh] at zl1
  simp only [Au, Bh] at zl0
  rw [Ln]
  try simp only [Fc, Fb]
  refine Dd (Aq (by simp [hi]; omega) (K8 hi Gf (by decide) he (AcN (Gf _) (Ie s0 fun i201 H s202 => Ca (cs' := Bn y) s202 (.here) (D0 (Nc _)) rfl (B9 rfl) rfl fun H s203 => N9 (Al (c := .sc (.string y.fFilter)) s203 (.here) rfl (V3 (Al (c := .sc (.int .i64 y.fQos)) s203 (.here) rfl (F8 (IntKind.wrap_u8 _) (De (Gd.bothE ?_ ?_))))))))))
  have z204 := Cq (Bk (An bs0 p.fId) pre) y.fFilter
  refine Cb s203 rfl (.cons (.own (by decide) Ct) (.cons .sc .nil)) (Lq (n + 1) (by omega) (Bk (An bs0 p.fId) pre) y.fFilter (by omega) (hp.w1 y (by rw [he]; simp))) (C2 (Am (Bk (An bs0 p.fId) pre) y.fFilter)) fun x205 H lx205 s206 => Bf (cs := [.sc (.int .u8 (y.fQos % 256))]) rfl (Cg s206 fun i207 H s208 => Ff (s := (Am (Bk (An bs0 p.fId) pre) y.fFilter)) (z := (y.fQos % 256)) s208 Ct (.here) ⟨_, _, rfl, rfl, rfl, rfl⟩ rfl (by omega) fun x209 H lx209 s210 => Bx (by omega) (by omega) ?_)
  have e211 : (Bk (An bs0 p.fId) (pre ++ [y])) = (A9 (Am (Bk (An bs0 p.fId) pre) y.fFilter) (y.fQos % 256)) := by
   try simp only [bne_iff_ne, beq_iff_eq, beq_eq_false_iff_ne, Cw] at h3 h6 h11 h26 h28 h30
   simp only [Bk, zbi, zbe, zbz, h3, h6, h11, h26, h28, h30, if_true, if_false, zaa]
  exact Rl n hn p hp hb1 hb2 hb3 hq h3 h6 h11 h26 h28 h30  t (pre ++ [y]) m _ i1 x209 _ (by rw [he]; simp) (by rw [hi]; simp) (by simpa using hm) lx209 (by rw [e211]; exact (s210.sel (.cons (.here) (.cons Df .nil))))
  refine Bf (cs := [su (y.fQos % 256)]) rfl (Cg s203 fun i212 H s213 => ?_)
  have z214 := Cq (Bk (An bs0 p.fId) pre) y.fFilter
  refine Cb s213 rfl (.cons (.own (by decide) Df) (.cons .sc .nil)) (Lq (n + 1) (by omega) (Bk (An bs0 p.fId) pre) y.fFilter (by omega) (hp.w1 y (by rw [he]; simp))) (C2 (Am (Bk (An bs0 p.fId) pre) y.fFilter)) fun x215 H lx215 s216 => Ff (s := (Am (Bk (An bs0 p.fId) pre) y.fFilter)) (z := (y.fQos % 256)) s216 (.here) (.here) ⟨_, _, rfl, rfl, rfl, rfl⟩ rfl (by omega) fun x217 H lx217 s218 => Bx (by omega) (by omega) ?_
  have e219 : (Bk (An bs0 p.fId) (pre ++ [y])) = (A9 (Am (Bk (An bs0 p.fId) pre) y.fFilter) (y.fQos % 256)) := by
   try simp only [bne_iff_ne, beq_iff_eq, beq_eq_false_iff_ne, Cw] at h3 h6 h11 h26 h28 h30
   simp only [Bk, zbi, zbe, zbz, h3, h6, h11, h26, h28, h30, if_true, if_false, zaa]
  exact Rl n hn p hp hb1 hb2 hb3 hq h3 h6 h11 h26 h28 h30  t (pre ++ [y]) m _ i1 x217 _ (by rw [he]; simp) (by rw [hi]; simp) (by simpa using hm) lx217 (by rw [e219]; exact (s218.sel (.cons (.here) (.cons Df .nil))))
theorem Ajs (n : Nat) (hn : 1048576 < n) (p : PacketV) (hp : G8 p) (hb1 : p.fWBody.size ≤ 1048576) (hb2 : p.fPass.size ≤ 1048576) (hb3 : p.fBody.size ≤ 1048576) (hq : 0 ≤ p.fWQos ∧ p.fWQos ≤ 2) : Bz E0 (n + 8) 22 111 [.agg (Ap p)] = some (Af (C3 p)) := by
 rw [At, Aix, f111]
 refine Ce (G := (· = some (Af (C3 p)))) ?_
 have hl1 := hp.l1
 have hl2 := hp.l2
 have hl3 := hp.l3
 try simp only [Fc, Fb]
 have s0 : Sep [] [] := B5
 refine Id s0 (D0 (Cf _)) fun i1 H s2 => N9 (Al (c := si p.fType) s2 (.here) rfl (A2 (De (Aa ((decide (p.fType = 1))) (fun h3 => ?_) fun h3 => ?_))))
 refine Aq h3 (Ar s2 (.here) rfl (Cb s2 rfl (.aggF (Cf _) .nil) (Abr n (by omega) p hp hb1 hb2 hq) (C2 (Fa p)) fun x4 H lx4 s5 => Ai (Di s5 (.here)) ?_))
 have e : C3 p = (Fa p) := by
  simp only [Cw] at h3
  simp only [C3, Ij, Ha, h3, if_true, if_false, zaa]
 rw [e]
 refine Av h3 (A2 (Aa ((decide (p.fType = 2))) (fun h6 => ?_) fun h6 => ?_))
 refine Aq h6 (V8 (Al (c := sb p.fPresent) s2 (.here) rfl (Ro (Al (c := si p.fCode) s2 (.here) rfl (F8 (IntKind.wrap_u8 _) ?_)))))
 have q7 := He p.fPresent 1 (by decide)
 refine Ao (v := (.int .i64 (Bb p.fPresent 1))) s2 rfl (Is .nil) (Aah (n + 6) p.fPresent 1) (F8 (IntKind.wrap_u8 _) (Bf (cs := [su ((Bb p.fPresent 1) % 256), su (p.fCode % 256)]) rfl (Cg s2 fun i8 H s9 => ?_)))
 have s10 := s9.closeB2 (.here) (by omega)
 refine Ai (Di s10 (.here)) ?_
 have e : C3 p = (A9 (A9 bs0 ((Bb p.fPresent 1) % 256)) (p.fCode % 256)) := by
  simp only [Cw] at h3 h6
  (simp only [C3, Ij, Ha, h3, h6, if_true, if_false, zaa]; rfl)
 rw [e]
 refine Av h6 (A2 (Aa ((decide (p.fType = 3))) (fun h11 => ?_) fun h11 => ?_))
 refine Aq h11 (gf5 (Al (c := ss p.fTopic) s2 (.here) rfl ?_))
 have z12 := Cq bs0 p.fTopic
 simp only [Az, Au, Bh, zaj] at z12
 refine Cb s2 rfl (.cons .nl (.cons .sc .nil)) (Lq (n + 1) (by omega) bs0 p.fTopic (by (simp only [Az, Au, Bh, zaj]; omega)) hp.t1) (C2 (Am bs0 p.fTopic)) fun x13 H lx13 s14 => Pe (Al (c := .sc (.int .i64 p.fQos)) s14 Ct rfl (Ec (De (Aa ((decide (0 < p.fQos))) (fun h15 => ?_) fun h15 => ?_))))
 refine Aq h15 (Iu (Al (c := .sc (.int .i64 p.fId)) s14 Ct rfl (Cb s14 rfl (.cons (.own (by decide) (.here)) (.cons .sc .nil)) (Sh (n + 2) (by omega) (Am bs0 p.fTopic) p.fId (by omega)) (C2 (An (Am bs0 p.fTopic) p.fId)) fun x16 H lx16 s17 => gf6 (Al (c := Af p.fBody) s17 Df rfl (Bf (cs := [x16, Af p.fBody]) (K7 (z' := [x16, .nl]) (D8 lx16) rfl (B9 rfl) rfl (K7 (z' := [x16, Af p.fBody]) (D8 rfl) rfl (B9 rfl) rfl (rfl))) (Cg s17 fun i18 H s19 => Cb s19 rfl (.sl (.here) rfl (.cons (.own (by decide) Ct) (.cons .ro .nil)) .nil) (Nv (n + 3) (by omega) (An (Am bs0 p.fTopic) p.fId) p.fBody (by (simp only [Az, Au, Bh, zaj]; omega))) (C2 ((An (Am bs0 p.fTopic) p.fId) ++ p.fBody)) fun x20 H lx20 s21 => Ai (Di s21 (.here)) ?_))))))
 have e : C3 p = ((An (Am bs0 p.fTopic) p.fId) ++ p.fBody) := by
  simp only [Cw] at h3 h6 h11 h15
  (simp only [C3, Ij, Ha, h3, h6, h11, h15, if_true, if_false, zaa]; rfl)
 rw [e]
 refine Av h15 (gf6 (Al (c := Af p.fBody) s14 Ct rfl (Bf (cs := [x13, Af p.fBody]) (K7 (z' := [x13, .nl]) (D8 lx13) rfl (B9 rfl) rfl (K7 (z' := [x13, Af p.fBody]) (D8 rfl) rfl (B9 rfl) rfl (rfl))) (Cg s14 fun i22 H s23 => Cb s23 rfl (.sl (.here) rfl (.cons (.own (by decide) Ct) (.cons .ro .nil)) .nil) (Nv (n + 3) (by omega) (Am bs0 p.fTopic) p.fBody (by omega)) (C2 ((Am bs0 p.fTopic) ++ p.fBody)) fun x24 H lx24 s25 => Ai (Di s25 (.here)) ?_))))
 have e : C3 p = ((Am bs0 p.fTopic) ++ p.fBody) := by
  simp only [Cw] at h3 h6 h11 h15
  (simp only [C3, Ij, Ha, h3, h6, h11, h15, if_true, if_false, zaa]; rfl)
 rw [e]
 refine Av h11 (A2 (De (Aa ((decide (p.fType = 12))) (fun h26 => ?_) fun h26 => ?_)))
 refine Aq h26 (Aq h26 ?_)
 have s27 := s2.nl (ty := 22) ⟨_, _, rfl, rfl⟩
 refine Ai (Di s27 .here) ?_
 have e : C3 p = bs0 := by
  simp only [Cw] at h3 h6 h11 h26
  (simp only [C3, Ij, Ha, h3, h6, h11, h26, if_true, if_false, zaa]; rfl)
 rw [e]
 rfl
 refine Av h26 (A2 (Aa ((decide (p.fType = 13))) (fun h28 => ?_) fun h28 => ?_))
 refine Aq h28 (Aq h28 ?_)
 have s29 := s2.nl (ty := 22) ⟨_, _, rfl, rfl⟩
 refine Ai (Di s29 .here) ?_
 have e : C3 p = bs0 := by
  simp only [Cw] at h3 h6 h11 h26 h28
  (simp only [C3, Ij, Ha, h3, h6, h11, h26, h28, if_true, if_false, zaa]; rfl)
 rw [e]
 rfl
 refine Av h28 (A2 (Aa ((decide (p.fType = 14))) (fun h30 => ?_) fun h30 => ?_))
 refine Aq h30 ?_
 have s31 := s2.nl (ty := 22) ⟨_, _, rfl, rfl⟩
 refine Ai (Di s31 .here) ?_
 have e : C3 p = bs0 := by
  simp only [Cw] at h3 h6 h11 h26 h28 h30
  (simp only [C3, Ij, Ha, h3, h6, h11, h26, h28, h30, if_true, if_false, zaa]; rfl)
 rw [e]
 rfl
 refine Av h30 (Iu (Al (c := .sc (.int .i64 p.fId)) s2 (.here) rfl (Cb s2 rfl (.cons .nl (.cons .sc .nil)) (Sh (n + 2) (by omega) bs0 p.fId (by (simp only [Az, Au, Bh, zaj]; omega))) (C2 (An bs0 p.fId)) fun x32 H lx32 s33 => Ky (Al (c := Ci Bn p.fWants) s33 Ct rfl (Cn ?_)))))
 have s34 : Sep _ [.own x32 22 (Af (Bk (An bs0 p.fId) [])), .blk i1 (Ap p) true] := s33.sel (.cons (.here) (.cons (.here) .nil))
 exact Rl n hn p hp hb1 hb2 hb3 hq h3 h6 h11 h26 h28 h30  p.fWants [] _ 0 i1 x32 _ rfl rfl (by omega) lx32 s34
theorem AhO (p : PacketV) (hp : G8 p) (hb3 : p.fBody.size ≤ 1048576) : (C3 p).size ≤ 137438953472 := by
 have hl1 := hp.l1
 have hl2 := hp.l2
 have hl3 := hp.l3
 have z1 := Ev p.fWants (An bs0 p.fId)
 have z2 := Eu p.fCodes (Bk (An bs0 p.fId) p.fWants)
 have z3 := Md p.fNames (Do (Bk (An bs0 p.fId) p.fWants) p.fCodes)
 have z4 := Cq bs0 p.fTopic
 have b1 : (Fa p).size ≤ 1000 := by
  have c3 : ∀ b, (C5 p b).size ≤ b.size + 62 := fun b => by
   unfold C5
   split
   exact Iq _ _
   omega
  have c2 : ∀ b, (Dz p b).size ≤ b.size + 62 := fun b => by
   unfold Dz
   split
   exact Cq _ _
   omega
  have c1 : ∀ b, (E2 p b).size ≤ b.size + 124 := fun b => by
   unfold E2
   split
   have d1 := Iq (Am b p.fWTopic) p.fWBody
   have d2 := Cq b p.fWTopic
   omega
   omega
  have c0 : (G6 p).size ≤ 200 := by
   unfold G6
   have d1 := Cq (An (A9 (A9 (Am bs0 mqtt) (p.fLevel % 256)) (D2 p % 256)) p.fKeep) p.fClient
   have d2 := Cq bs0 mqtt
   simp only [Au, Az, Bh] at d1 d2
   omega
  have e1 := c1 (G6 p)
  have e2 := c2 (E2 p (G6 p))
  have e3 := c3 (Dz p (E2 p (G6 p)))
  unfold Fa
  omega
 unfold C3 Ha Ij
 simp only [Au, Bh] at z1 z2 z3 z4
 (repeat' split) <;> (try simp only [Az, Bh, zaj, Au]) <;> omega
theorem Aa8 (n : Nat) (hn : 1048576 < n) (p : PacketV) (hp : G8 p) (hb1 : p.fWBody.size ≤ 1048576) (hb2 : p.fPass.size ≤ 1048576) (hb3 : p.fBody.size ≤ 1048576) : Bz E0 (n + 11) 22 72 [.agg (Ap p)] = some (Af (Gl p)) := by
 rw [At, AlF, f72]
 refine Ce (G := (· = some (Af (Gl p)))) ?_
 try simp only [Fc, Fb]
 have s0 : Sep [] [] := B5
 refine Id s0 (D0 (Cf _)) fun i1 H s2 => Ar s2 (.here) rfl (Ao (v := (.bool (Ah p))) s2 rfl (.aggF (Cf _) .nil) (Ql n (by omega) p hp) (B4 (Aa ((Ah p)) (fun h3 => ?_) fun h3 => ?_)))
 refine Av (nF h3) (Ar s2 (.here) rfl ?_)
 have hf := Jj h3
 have hz := AhO p hp hb3
 refine Cb s2 rfl (.aggF (Cf _) .nil) (Ajs (n + 2) (by omega) p hp hb1 hb2 hb3 hf.wq) (C2 (C3 p)) fun x4 H lx4 s5 => Ar s5 Ct rfl (Ao (v := (.int .i64 (Cv p))) s5 rfl (.aggF (Cf _) .nil) (AbO (n + 7) (by omega) p hf.ty hf.q) (F8 (IntKind.wrap_u8 _) (Bf (cs := [su ((Cv p) % 256)]) rfl (Cg s5 fun i6 H s7 => Kh s7 Ct ?_))))
 have z8 := Xi (A9 bs0 ((Cv p) % 256)) (((C3 p).size : Nat) : Int)
 simp only [Az, Au, Bh, zaj] at z8
 refine Cb s7 rfl (.sl (.here) rfl (.cons .sc .nil) (.cons .sc .nil)) (by rw [AeY ((Cv p) % 256) (by omega)]; exact Aj1 (n + 4) (by omega) (A9 bs0 ((Cv p) % 256)) (((C3 p).size : Nat) : Int) (by simp only [Az, Bh]; omega)) (C2 (Dc (A9 bs0 ((Cv p) % 256)) (((C3 p).size : Nat) : Int))) fun x9 H lx9 s10 => Bf (cs := [x9, x4]) (K7 (z' := [x9, .nl]) (D8 lx9) rfl (B9 rfl) rfl (K7 (z' := [x9, x4]) (D8 lx4) rfl (B9 rfl) rfl (rfl))) (Cg s10 fun i11 H s12 => Cb s12 rfl (.sl (.here) rfl (.cons (.own (by decide) Ct) (.cons (.own (by decide) Nk) .nil)) .nil) (Nv (n + 6) (by omega) (Dc (A9 bs0 ((Cv p) % 256)) (((C3 p).size : Nat) : Int)) (C3 p) (by omega)) (C2 ((Dc (A9 bs0 ((Cv p) % 256)) (((C3 p).size : Nat) : Int)) ++ (C3 p))) fun x13 H lx13 s14 => Ai (Di s14 (.here)) ?_)
 have e : Gl p = ((Dc (A9 bs0 ((Cv p) % 256)) (((C3 p).size : Nat) : Int)) ++ (C3 p)) := by
  simp only [Gl, Jz, h3, if_true, if_false, zaa]
 rw [e]
 refine Aq (nT h3) ?_
 have s15 := s2.nl (ty := 22) ⟨_, _, rfl, rfl⟩
 refine Ai (Di s15 .here) ?_
 have e : Gl p = bs0 := by
  simp only [Gl, Jz, h3, if_true, if_false, zaa]
 rw [e]
 rfl
def C6 (p : PacketV) (z : ByteArray) : ByteArray := Ij p (if !(decide (p.fType = 3)) && decide (0 < p.fId) then An z p.fId else z)
def G7 (f : Int) (r : ByteArray) : ByteArray := Dc (A9 bs0 (f % 256)) ((r.size : Nat) : Int) ++ r
theorem Aba {p : PacketV} (h1 : p.fWants = []) (h2 : p.fCodes = []) (h3 : p.fNames = []) (z : ByteArray) : Ij p z = z := by
 unfold Ij
 rw [h1, h2, h3]
 rfl
theorem Z1 {p : PacketV} (h : Ah p = true) {f : Int} {r : ByteArray} (hf : Cv p = f) (hr : C3 p = r) : Gl p = G7 f r := by
 subst hf
 subst hr
 unfold Gl
 rw [if_pos h]
 rfl
theorem Ahu {p : PacketV} (h : Ah p = true) (ht : p.fType = 1) : Gl p = G7 (16 * p.fType) (C6 p (Fa p)) := by
 obtain ⟨_, _, _, _, k5, k6, k7, k8⟩ := Mp h
 refine Z1 h (by unfold Cv; rw [if_neg (by omega), if_neg (by omega)]) ?_
 unfold C6
 rw [k5 (by omega), if_neg (by simp), Aba (k6 (by omega)) (k7 (by omega)) (k8 (by omega))]
 unfold C3
 rw [if_pos ht]
theorem Am3 {p : PacketV} (h : Ah p = true) (ht : p.fType = 2) : Gl p = G7 (16 * p.fType) (C6 p (A9 (A9 bs0 (Bb p.fPresent 1 % 256)) (p.fCode % 256))) := by
 obtain ⟨_, _, _, _, k5, k6, k7, k8⟩ := Mp h
 refine Z1 h (by unfold Cv; rw [if_neg (by omega), if_neg (by omega)]) ?_
 unfold C6
 rw [k5 (by omega), if_neg (by simp), Aba (k6 (by omega)) (k7 (by omega)) (k8 (by omega))]
 unfold C3
 rw [if_neg (by omega), if_pos ht]
theorem Ahv {p : PacketV} (h : Ah p = true) (ht : p.fType = 3) : Gl p = G7 (16 * p.fType + Bb p.fDup 8 + 2 * p.fQos + Bb p.fRetain 1) (C6 p (Ha p)) := by
 obtain ⟨_, _, _, _, k5, k6, k7, k8⟩ := Mp h
 refine Z1 h (by unfold Cv; rw [if_pos ht]) ?_
 unfold C6
 rw [if_neg (by simp; omega), Aba (k6 (by omega)) (k7 (by omega)) (k8 (by omega))]
 unfold C3
 rw [if_neg (by omega), if_neg (by omega), if_pos ht]
theorem Z0 {p : PacketV} (h : Ah p = true) (h1 : ¬ p.fType = 1) (h2 : ¬ p.fType = 2) (h3 : ¬ p.fType = 3) {f : Int} (hf : Cv p = f) : Gl p = G7 f (C6 p bs0) := by
 obtain ⟨_, _, _, _, k5, k6, k7, k8⟩ := Mp h
 obtain ⟨ht, _, hk⟩ := Hk h
 refine Z1 h hf ?_
 unfold C6 C3
 rw [if_neg h1, if_neg h2, if_neg h3]
 by_cases h12 : 12 ≤ p.fType
 rw [k5 (by omega), if_pos (by omega), if_neg (by simp), Aba (k6 (by omega)) (k7 (by omega)) (k8 (by omega))]
 have hi : 1 ≤ p.fId := by
  unfold Cs at hk
  rw [if_neg h1, if_neg h2, if_neg h3] at hk
  by_cases h4 : p.fType = 4 ∨ p.fType = 5 ∨ p.fType = 6 ∨ p.fType = 7 ∨ p.fType = 11
  rw [if_pos h4, Hf] at hk
  omega
  rw [if_neg h4, if_pos (by omega)] at hk
  simp only [zae, Hf] at hk
  omega
 rw [if_neg (by omega), if_pos (by simp; omega)]
theorem Ul (n : Nat) (hn : 1048576 < n) (p : PacketV) (hp : G8 p) (hb1 : p.fWBody.size ≤ 1048576) (hb2 : p.fPass.size ≤ 1048576) (hb3 : p.fBody.size ≤ 1048576) (h3 : (Ah p) = true) (z4t4 : ByteArray) (f4t3 : Int) (hz40 : z4t4.size ≤ 1100000) (z7t4 : ByteArray) (f7t3 : Int) (hz70 : z7t4.size ≤ 1100100) : ∀ (t pre : List ByteArray) (m : Nat) (i : Int) (i1 : Nat) (a2 : AV) (H : Ac), p.fNames = pre ++ t → i = ((pre.length : Nat) : Int) → t.length < m → Bj a2 = true → Sep H [.own a2 22 (Af (Fi (Do (Bk z7t4 p.fWants) p.fCodes) pre)), .blk i1 (Ap p) true] → Gd (· = some (Af (G7 f7t3 (Ij p z7t4)))) (Rh (PR (n + 10) AV) (n + 10) (fun x H => Bc As E0.tp 22 H x) m (.ptr i1 0) (.sc (.int .i64 f7t3)) (a2) (.sc (.int .i64 i)) H)
 | [], pre, m + 1, i, i1, a2, H, he, hi, hm, la2, s0 => by
  obtain rfl : pre = p.fNames := by simpa using he.symm
  have hl1 := hp.l1
  have hl2 := hp.l2
  have hl3 := hp.l3
  have zl1 := Ev p.fWants z7t4
  have zl2 := Eu p.fCodes (Bk z7t4 p.fWants)
  have zl0 := Md p.fNames (Do (Bk z7t4 p.fWants) p.fCodes)
  rw [Rh]
  try simp only [Fc, Fb]
  refine K9 (Al (c := Ee p.fNames) s0 Ct rfl (Cn (Dd (Av (by simp [hi]) (F8 (IntKind.wrap_u8 _) (Bf (cs := [.sc (.int .u8 (f7t3 % 256))]) rfl (Cg s0 fun i201 H s202 => Kh s202 Ct ?_)))))))
  have z203 := Xi (A9 bs0 (f7t3 % 256)) (((Fi (Do (Bk z7t4 p.fWants) p.fCodes) p.fNames).size : Nat) : Int)
  simp only [Az, Au, Bh, zaj] at z203
  refine Cb s202 rfl (.sl (.here) rfl (.cons .sc .nil) (.cons .sc .nil)) (by rw [AeY (f7t3 % 256) (by omega)]; exact AjW (n + 4) (by omega) (A9 bs0 (f7t3 % 256)) (((Fi (Do (Bk z7t4 p.fWants) p.fCodes) p.fNames).size : Nat) : Int) (by simp only [Az, Bh]; omega)) (C2 (Dc (A9 bs0 (f7t3 % 256)) (((Fi (Do (Bk z7t4 p.fWants) p.fCodes) p.fNames).size : Nat) : Int))) fun x204 H lx204 s205 => Sd (s := (Dc (A9 bs0 (f7t3 % 256)) (((Fi (Do (Bk z7t4 p.fWants) p.fCodes) p.fNames).size : Nat) : Int))) s205 ⟨_, _, rfl, rfl, rfl, rfl⟩ (.here) (AaV ⟨_, _, rfl, rfl, rfl, rfl⟩ Ct (K2 _)) (by omega) fun x206 H lx206 s207 => Ai (Di s207 (.here)) ?_
  have e : G7 f7t3 (Ij p z7t4) = ((Dc (A9 bs0 (f7t3 % 256)) (((Fi (Do (Bk z7t4 p.fWants) p.fCodes) p.fNames).size : Nat) : Int)) ++ (Fi (Do (Bk z7t4 p.fWants) p.fCodes) p.fNames)) := by
   rfl
  rw [e]
 | y :: t, pre, m + 1, i, i1, a2, H, he, hi, hm, la2, s0 => by
  have hlt : pre.length < p.fNames.length := by rw [he]; simp
  have hl1 := hp.l1
  have hl2 := hp.l2
  have hl3 := hp.l3
  have zl1 := Ev p.fWants z7t4
  have zl2 := Eu p.fCodes (Bk z7t4 p.fWants)
  have zl0 := Md pre (Do (Bk z7t4 p.fWants) p.fCodes)
  rw [Rh]
  try simp only [Fc, Fb]
  refine K9 (Al (c := Ee p.fNames) s0 Ct rfl (Cn (Dd (Aq (by simp [hi]; omega) (K9 (Al (c := Ee p.fNames) s0 Ct rfl (N3 hi he (Fh (c := .sc (.string y)) rfl ?_))))))))
  have z201 := Cq (Fi (Do (Bk z7t4 p.fWants) p.fCodes) pre) y
  refine Cb s0 rfl (.cons (.own (by decide) (.here)) (.cons .sc .nil)) (Lt (n + 5) (by omega) (Fi (Do (Bk z7t4 p.fWants) p.fCodes) pre) y (by omega) (hp.w2 y (by rw [he]; simp))) (C2 (Am (Fi (Do (Bk z7t4 p.fWants) p.fCodes) pre) y)) fun x202 H lx202 s203 => Bx (by omega) (by omega) ?_
  have e204 : (Fi (Do (Bk z7t4 p.fWants) p.fCodes) (pre ++ [y])) = (Am (Fi (Do (Bk z7t4 p.fWants) p.fCodes) pre) y) := by
   try simp only [bne_iff_ne, beq_iff_eq, beq_eq_false_iff_ne, Cw] at h3
   simp only [Fi, zbi, zbe, zbz, h3, if_true, if_false, zaa]
  exact Ul n hn p hp hb1 hb2 hb3 h3 z4t4 f4t3 hz40 z7t4 f7t3 hz70 t (pre ++ [y]) m _ i1 x202 _ (by rw [he]; simp) (by rw [hi]; simp) (by simpa using hm) lx202 (by rw [e204]; exact (s203.sel (.cons (.here) (.cons Ct .nil))))
theorem Uk (n : Nat) (hn : 1048576 < n) (p : PacketV) (hp : G8 p) (hb1 : p.fWBody.size ≤ 1048576) (hb2 : p.fPass.size ≤ 1048576) (hb3 : p.fBody.size ≤ 1048576) (h3 : (Ah p) = true) (z4t4 : ByteArray) (f4t3 : Int) (hz40 : z4t4.size ≤ 1100000) (z7t4 : ByteArray) (f7t3 : Int) (hz70 : z7t4.size ≤ 1100100) : ∀ (t pre : List Int) (m : Nat) (i : Int) (i1 : Nat) (a2 : AV) (H : Ac), p.fCodes = pre ++ t → i = ((pre.length : Nat) : Int) → t.length < m → Bj a2 = true → Sep H [.own a2 22 (Af (Do (Bk z7t4 p.fWants) pre)), .blk i1 (Ap p) true] → Gd (· = some (Af (G7 f7t3 (Ij p z7t4)))) (Ok (PR (n + 10) AV) (n + 10) (fun x H => Bc As E0.tp 22 H x) m (.ptr i1 0) (.sc (.int .i64 f7t3)) (a2) (.sc (.int .i64 i)) H)
 | [], pre, m + 1, i, i1, a2, H, he, hi, hm, la2, s0 => by
  obtain rfl : pre = p.fCodes := by simpa using he.symm
  have hl1 := hp.l1
  have hl2 := hp.l2
  have hl3 := hp.l3
  have zl1 := Ev p.fWants z7t4
  have zl2 := Eu p.fCodes (Bk z7t4 p.fWants)
  have zl0 := Eu p.fCodes (Bk z7t4 p.fWants)
  rw [Ok]
  try simp only [Fc, Fb]
  refine La (Al (c := Ei p.fCodes) s0 Ct rfl (Cn (Dd (Av (by simp [hi]) ?_))))
  have s201 : Sep _ [.own a2 22 (Af (Fi (Do (Bk z7t4 p.fWants) p.fCodes) [])), .blk i1 (Ap p) true] := s0.sel (.cons (.here) (.cons (.here) .nil))
  exact Ul n hn p hp hb1 hb2 hb3 h3 z4t4 f4t3 (by assumption) z7t4 f7t3 (by assumption) p.fNames [] _ 0 i1 a2 _ rfl rfl (by omega) la2 s201
 | y :: t, pre, m + 1, i, i1, a2, H, he, hi, hm, la2, s0 => by
  have hlt : pre.length < p.fCodes.length := by rw [he]; simp
  have hl1 := hp.l1
  have hl2 := hp.l2
  have hl3 := hp.l3
  have zl1 := Ev p.fWants z7t4
  have zl2 := Eu p.fCodes (Bk z7t4 p.fWants)
  have zl0 := Eu pre (Bk z7t4 p.fWants)
  rw [Ok]
  try simp only [Fc, Fb]
  refine La (Al (c := Ei p.fCodes) s0 Ct rfl (Cn (Dd (Aq (by simp [hi]; omega) (La (Al (c := Ei p.fCodes) s0 Ct rfl (Kk hi he (Fh (c := .sc (.int .i64 y)) rfl (F8 (IntKind.wrap_u8 _) (Bf (cs := [.sc (.int .u8 (y % 256))]) rfl (Cg s0 fun i201 H s202 => Ff (s := (Do (Bk z7t4 p.fWants) pre)) (z := (y % 256)) s202 Ct (.here) ⟨_, _, rfl, rfl, rfl, rfl⟩ rfl (by omega) fun x203 H lx203 s204 => Bx (by omega) (by omega) ?_)))))))))))
  have e205 : (Do (Bk z7t4 p.fWants) (pre ++ [y])) = (A9 (Do (Bk z7t4 p.fWants) pre) (y % 256)) := by
   try simp only [bne_iff_ne, beq_iff_eq, beq_eq_false_iff_ne, Cw] at h3
   simp only [Do, zbi, zbe, zbz, h3, if_true, if_false, zaa]
  exact Uk n hn p hp hb1 hb2 hb3 h3 z4t4 f4t3 hz40 z7t4 f7t3 hz70 t (pre ++ [y]) m _ i1 x203 _ (by rw [he]; simp) (by rw [hi]; simp) (by simpa using hm) lx203 (by rw [e205]; exact (s204.sel (.cons (.here) (.cons (.here) .nil))))
theorem Qb (n : Nat) (hn : 1048576 < n) (p : PacketV) (hp : G8 p) (hb1 : p.fWBody.size ≤ 1048576) (hb2 : p.fPass.size ≤ 1048576) (hb3 : p.fBody.size ≤ 1048576) (h3 : (Ah p) = true) (z4t4 : ByteArray) (f4t3 : Int) (hz40 : z4t4.size ≤ 1100000) (z7t4 : ByteArray) (f7t3 : Int) (hz70 : z7t4.size ≤ 1100100) : ∀ (t pre : List WantV) (m : Nat) (i : Int) (i1 : Nat) (a2 : AV) (H : Ac), p.fWants = pre ++ t → i = ((pre.length : Nat) : Int) → t.length < m → Bj a2 = true → Sep H [.own a2 22 (Af (Bk z7t4 pre)), .blk i1 (Ap p) true] → Gd (· = some (Af (G7 f7t3 (Ij p z7t4)))) (Oj (PR (n + 10) AV) (n + 10) (fun x H => Bc As E0.tp 22 H x) m (.ptr i1 0) (.sc (.int .i64 f7t3)) (a2) (.sc (.int .i64 i)) H)
 | [], pre, m + 1, i, i1, a2, H, he, hi, hm, la2, s0 => by
  obtain rfl : pre = p.fWants := by simpa using he.symm
  have hl1 := hp.l1
  have hl2 := hp.l2
  have hl3 := hp.l3
  have zl1 := Ev p.fWants z7t4
  have zl2 := Eu p.fCodes (Bk z7t4 p.fWants)
  have zl0 := Ev p.fWants z7t4
  rw [Oj]
  try simp only [Fc, Fb]
  refine Ky (Al (c := Ci Bn p.fWants) s0 Ct rfl (Cn (Dd (Av (by simp [hi]) ?_))))
  have s201 : Sep _ [.own a2 22 (Af (Do (Bk z7t4 p.fWants) [])), .blk i1 (Ap p) true] := s0.sel (.cons (.here) (.cons (.here) .nil))
  exact Uk n hn p hp hb1 hb2 hb3 h3 z4t4 f4t3 (by assumption) z7t4 f7t3 (by assumption) p.fCodes [] _ 0 i1 a2 _ rfl rfl (by omega) la2 s201
 | y :: t, pre, m + 1, i, i1, a2, H, he, hi, hm, la2, s0 => by
  have hlt : pre.length < p.fWants.length := by rw [he]; simp
  have hl1 := hp.l1
  have hl2 := hp.l2
  have hl3 := hp.l3
  have zl1 := Ev p.fWants z7t4
  have zl2 := Eu p.fCodes (Bk z7t4 p.fWants)
  have zl0 := Ev pre z7t4
  rw [Oj]
  try simp only [Fc, Fb]
  refine Ky (Al (c := Ci Bn p.fWants) s0 Ct rfl (Cn (Dd (Aq (by simp [hi]; omega) (Ky (Al (c := Ci Bn p.fWants) s0 Ct rfl (K8 hi Gf (by decide) he (Qj (Fh (c := .sc (.string y.fFilter)) rfl (Ky (Al (c := Ci Bn p.fWants) s0 Ct rfl (K8 hi Gf (by decide) he (Qj (Fh (c := .sc (.int .i64 y.fQos)) rfl (F8 (IntKind.wrap_u8 _) (De (Gd.bothE ?_ ?_)))))))))))))))))
  have z201 := Cq (Bk z7t4 pre) y.fFilter
  refine Cb s0 rfl (.cons (.own (by decide) (.here)) (.cons .sc .nil)) (Lt (n + 5) (by omega) (Bk z7t4 pre) y.fFilter (by omega) (hp.w1 y (by rw [he]; simp))) (C2 (Am (Bk z7t4 pre) y.fFilter)) fun x202 H lx202 s203 => Bf (cs := [.sc (.int .u8 (y.fQos % 256))]) rfl (Cg s203 fun i204 H s205 => Ff (s := (Am (Bk z7t4 pre) y.fFilter)) (z := (y.fQos % 256)) s205 Ct (.here) ⟨_, _, rfl, rfl, rfl, rfl⟩ rfl (by omega) fun x206 H lx206 s207 => Bx (by omega) (by omega) ?_)
  have e208 : (Bk z7t4 (pre ++ [y])) = (A9 (Am (Bk z7t4 pre) y.fFilter) (y.fQos % 256)) := by
   try simp only [bne_iff_ne, beq_iff_eq, beq_eq_false_iff_ne, Cw] at h3
   simp only [Bk, zbi, zbe, zbz, h3, if_true, if_false, zaa]
  exact Qb n hn p hp hb1 hb2 hb3 h3 z4t4 f4t3 hz40 z7t4 f7t3 hz70 t (pre ++ [y]) m _ i1 x206 _ (by rw [he]; simp) (by rw [hi]; simp) (by simpa using hm) lx206 (by rw [e208]; exact (s207.sel (.cons (.here) (.cons Ct .nil))))
  refine Bf (cs := [su (y.fQos % 256)]) rfl (Cg s0 fun i209 H s210 => ?_)
  have z211 := Cq (Bk z7t4 pre) y.fFilter
  refine Cb s210 rfl (.cons (.own (by decide) Ct) (.cons .sc .nil)) (Lt (n + 5) (by omega) (Bk z7t4 pre) y.fFilter (by omega) (hp.w1 y (by rw [he]; simp))) (C2 (Am (Bk z7t4 pre) y.fFilter)) fun x212 H lx212 s213 => Ff (s := (Am (Bk z7t4 pre) y.fFilter)) (z := (y.fQos % 256)) s213 (.here) (.here) ⟨_, _, rfl, rfl, rfl, rfl⟩ rfl (by omega) fun x214 H lx214 s215 => Bx (by omega) (by omega) ?_
  have e216 : (Bk z7t4 (pre ++ [y])) = (A9 (Am (Bk z7t4 pre) y.fFilter) (y.fQos % 256)) := by
   try simp only [bne_iff_ne, beq_iff_eq, beq_eq_false_iff_ne, Cw] at h3
   simp only [Bk, zbi, zbe, zbz, h3, if_true, if_false, zaa]
  exact Qb n hn p hp hb1 hb2 hb3 h3 z4t4 f4t3 hz40 z7t4 f7t3 hz70 t (pre ++ [y]) m _ i1 x214 _ (by rw [he]; simp) (by rw [hi]; simp) (by simpa using hm) lx214 (by rw [e216]; exact (s215.sel (.cons (.here) (.cons Ct .nil))))
theorem AaU (n : Nat) (hn : 1048576 < n) (p : PacketV) (hp : G8 p) (hb1 : p.fWBody.size ≤ 1048576) (hb2 : p.fPass.size ≤ 1048576) (hb3 : p.fBody.size ≤ 1048576) : Bz E0 (n + 11) 22 66 [.agg (Ap p)] = some (Af (Gl p)) := by
 rw [At, Al9, f66]
 refine Ce (G := (· = some (Af (Gl p)))) ?_
 have hl1 := hp.l1
 have hl2 := hp.l2
 have hl3 := hp.l3
 try simp only [Fc, Fb]
 have s0 : Sep [] [] := B5
 refine Id s0 (D0 (Cf _)) fun i1 H s2 => Ar s2 (.here) rfl (Ao (v := (.bool (Ah p))) s2 rfl (.aggF (Cf _) .nil) (Qv n (by omega) p hp) (B4 (Aa ((Ah p)) (fun h3 => ?_) fun h3 => ?_)))
 have hf := Jj h3
 obtain ⟨ht, hq, hwq, hi⟩ := hf
 refine Av (nF h3) (N9 (Al (c := si p.fType) s2 (.here) rfl (Pu (by omega) (by omega) (N9 (Al (c := si p.fType) s2 (.here) rfl (A2 (On (P := fun j => ∀ (x4 : AV) (z4t4 : ByteArray) (f4t3 : Int) (H : Ac), Bj x4 = true → (z4t4.size ≤ 1100000) → Sep H [.own x4 22 (Af z4t4), .blk i1 (Ap p) true] → Gd (· = some (Af (G7 f4t3 (C6 p z4t4)))) (j (.ptr i1 0) (si f4t3) x4 H)) ?_ fun j4 hj4 => ?_)))))))
 intro x4 z4t4 f4t3 H lx4 hz40 s5
 refine N9 (Al (c := si p.fType) s5 Ct rfl (Lh ?_))
 apply Aw ((!(decide (p.fType = 3))) && (decide (0 < p.fId)))
 intro b6 q6
 refine Aa ((decide (p.fType = 3))) (fun h6 => ?_) fun h6 => ?_
 exact Ab (nF h6) (Ab (nF h6) (Ab (nF h6) (Br (nF h6) (D9 q6 (nF h6)) Aj)))
 exact Ad (nT h6) (Iu (Ad (nT h6) (Al (c := si p.fId) s5 Ct rfl (Ad (nT h6) (Ec (Bs (nT h6) (Ea q6 (nT h6)) Aj))))))
 intro b6 q6
 refine On (P := fun j => ∀ (x7 : AV) (z7t4 : ByteArray) (f7t3 : Int) (H : Ac), Bj x7 = true → (z7t4.size ≤ 1100100) → Sep H [.own x7 22 (Af z7t4), .blk i1 (Ap p) true] → Gd (· = some (Af (G7 f7t3 (Ij p z7t4)))) (j (.ptr i1 0) (si f7t3) x7 H)) ?_ fun j7 hj7 => ?_
 intro x7 z7t4 f7t3 H lx7 hz70 s8
 have s9 : Sep _ [.own x7 22 (Af (Bk z7t4 [])), .blk i1 (Ap p) true] := s8.sel (.cons (.here) (.cons (.here) .nil))
 exact Qb n hn p hp hb1 hb2 hb3 h3 z4t4 f4t3 (by assumption) z7t4 f7t3 (by assumption) p.fWants [] _ 0 i1 x7 _ rfl rfl (by omega) lx7 s9
 refine Aa (b6) (fun h10 => ?_) fun h10 => ?_
 refine Aq h10 (Iu (Al (c := si p.fId) s5 Ct rfl (Cb s5 rfl (.cons (.own (by decide) (.here)) (.cons .sc .nil)) (S4 (n + 9) (by omega) z4t4 p.fId (by omega)) (C2 (An z4t4 p.fId)) fun x11 H lx11 s12 => ?_)))
 have e13 : G7 f4t3 (C6 p z4t4) = G7 f4t3 (Ij p (An z4t4 p.fId)) := by
  unfold C6; simp only [← q6, h10, if_true, if_false, zaa]
 rw [e13]
 exact hj7 x11 (An z4t4 p.fId) f4t3 _ lx11 (by (simp only [Az, Au, Bh, zaj]; omega)) (s12.sel (.cons (.here) (.cons Ct .nil)))
 refine Av h10 ?_
 have e14 : G7 f4t3 (C6 p z4t4) = G7 f4t3 (Ij p z4t4) := by
  unfold C6; simp only [← q6, h10, if_true, if_false, zaa]
 rw [e14]
 exact hj7 x4 z4t4 f4t3 _ lx4 (by omega) (s5.sel (.cons (.here) (.cons (.here) .nil)))
 refine Aa ((decide (p.fType = 1))) (fun h15 => ?_) fun h15 => ?_
 refine Aq h15 (gf8 (Al (c := si p.fLevel) s2 (.here) rfl (F8 (IntKind.wrap_u8 _) (On (P := fun j => ∀ (x16 : AV) (z16t4 : ByteArray) (f16t3 : Int) (H : Ac), Bj x16 = true → (z16t4.size ≤ 100) → Sep H [.own x16 22 (Af z16t4), .blk i1 (Ap p) true] → Gd (· = some (Af (G7 f16t3 (C6 p (C5 p (Dz p (E2 p (Am (An (A9 z16t4 (D2 p % 256)) p.fKeep) p.fClient)))))))) (j (.ptr i1 0) (si f16t3) x16 H)) ?_ fun j16 hj16 => ?_))))
 intro x16 z16t4 f16t3 H lx16 hz160 s17
 refine gf9 (Al (c := sb p.fClean) s17 Ct rfl (Qy (Al (c := sb p.fHasWill) s17 Ct rfl (V7 (Al (c := si p.fWQos) s17 Ct rfl (Pu (by omega) (by omega) (Aa6 (Al (c := sb p.fWRetain) s17 Ct rfl (Kx (Al (c := sb p.fHasPass) s17 Ct rfl (Pd (Al (c := sb p.fHasUser) s17 Ct rfl ?_))))))))))))
 have q18 := He p.fClean 2 (by decide)
 refine Ao (v := (.int .i64 (Bb p.fClean 2))) s17 rfl (Is .nil) (T7 (n + 9) p.fClean 2) ?_
 have q19 := He p.fHasWill 4 (by decide)
 refine Ao (v := (.int .i64 (Bb p.fHasWill 4))) s17 rfl (Is .nil) (T7 (n + 9) p.fHasWill 4) (Bx (by omega) (by omega) (Bx (by omega) (by omega) ?_))
 have q20 := He p.fWRetain 32 (by decide)
 refine Ao (v := (.int .i64 (Bb p.fWRetain 32))) s17 rfl (Is .nil) (T7 (n + 9) p.fWRetain 32) (Bx (by omega) (by omega) ?_)
 have q21 := He p.fHasPass 64 (by decide)
 refine Ao (v := (.int .i64 (Bb p.fHasPass 64))) s17 rfl (Is .nil) (T7 (n + 9) p.fHasPass 64) (Bx (by omega) (by omega) ?_)
 have q22 := He p.fHasUser 128 (by decide)
 refine Ao (v := (.int .i64 (Bb p.fHasUser 128))) s17 rfl (Is .nil) (T7 (n + 9) p.fHasUser 128) (Bx (by omega) (by omega) (F8 (IntKind.wrap_u8 _) (Bf (cs := [.sc (.int .u8 (((((((Bb p.fClean 2) + (Bb p.fHasWill 4)) + (8 * p.fWQos)) + (Bb p.fWRetain 32)) + (Bb p.fHasPass 64)) + (Bb p.fHasUser 128)) % 256))]) rfl (Cg s17 fun i23 H s24 => Ff (s := z16t4) (z := (((((((Bb p.fClean 2) + (Bb p.fHasWill 4)) + (8 * p.fWQos)) + (Bb p.fWRetain 32)) + (Bb p.fHasPass 64)) + (Bb p.fHasUser 128)) % 256)) s24 Ct (.here) ⟨_, _, rfl, rfl, rfl, rfl⟩ rfl (by omega) fun x25 H lx25 s26 => V4 (Al (c := .sc (.int .i64 p.fKeep)) s26 Ct rfl (gf7 (Al (c := .sc (.string p.fClient)) s26 Ct rfl (Cb s26 rfl (.cons (.own (by decide) (.here)) (.cons .sc .nil)) (S4 (n + 9) (by omega) (A9 z16t4 (((((((Bb p.fClean 2) + (Bb p.fHasWill 4)) + (8 * p.fWQos)) + (Bb p.fWRetain 32)) + (Bb p.fHasPass 64)) + (Bb p.fHasUser 128)) % 256)) p.fKeep (by (simp only [Az, Au, Bh, zaj]; omega))) (C2 (An (A9 z16t4 (((((((Bb p.fClean 2) + (Bb p.fHasWill 4)) + (8 * p.fWQos)) + (Bb p.fWRetain 32)) + (Bb p.fHasPass 64)) + (Bb p.fHasUser 128)) % 256)) p.fKeep)) fun x27 H lx27 s28 => ?_))))))))
 have z29 := Cq (An (A9 z16t4 (((((((Bb p.fClean 2) + (Bb p.fHasWill 4)) + (8 * p.fWQos)) + (Bb p.fWRetain 32)) + (Bb p.fHasPass 64)) + (Bb p.fHasUser 128)) % 256)) p.fKeep) p.fClient
 simp only [Az, Au, Bh, zaj] at z29
 refine Cb s28 rfl (.cons (.own (by decide) (.here)) (.cons .sc .nil)) (Lt (n + 5) (by omega) (An (A9 z16t4 (((((((Bb p.fClean 2) + (Bb p.fHasWill 4)) + (8 * p.fWQos)) + (Bb p.fWRetain 32)) + (Bb p.fHasPass 64)) + (Bb p.fHasUser 128)) % 256)) p.fKeep) p.fClient (by (simp only [Az, Au, Bh, zaj]; omega)) hp.t2) (C2 (Am (An (A9 z16t4 (((((((Bb p.fClean 2) + (Bb p.fHasWill 4)) + (8 * p.fWQos)) + (Bb p.fWRetain 32)) + (Bb p.fHasPass 64)) + (Bb p.fHasUser 128)) % 256)) p.fKeep) p.fClient)) fun x30 H lx30 s31 => Qy (Al (c := .sc (.bool p.fHasWill)) s31 Nk rfl (On (P := fun j => ∀ (x32 : AV) (z32t4 : ByteArray) (f32t3 : Int) (H : Ac), Bj x32 = true → (z32t4.size ≤ 400) → Sep H [.own x32 22 (Af z32t4), .blk i1 (Ap p) true] → Gd (· = some (Af (G7 f32t3 (C6 p (C5 p (Dz p z32t4)))))) (j (.ptr i1 0) (.sc (.int .i64 f32t3)) x32 H)) ?_ fun j32 hj32 => ?_))
 intro x32 z32t4 f32t3 H lx32 hz320 s33
 refine Pd (Al (c := sb p.fHasUser) s33 Ct rfl (On (P := fun j => ∀ (x34 : AV) (z34t4 : ByteArray) (f34t3 : Int) (H : Ac), Bj x34 = true → (z34t4.size ≤ 600) → Sep H [.own x34 22 (Af z34t4), .blk i1 (Ap p) true] → Gd (· = some (Af (G7 f34t3 (C6 p (C5 p z34t4))))) (j (.ptr i1 0) (si f34t3) x34 H)) ?_ fun j34 hj34 => ?_))
 intro x34 z34t4 f34t3 H lx34 hz340 s35
 refine Kx (Al (c := sb p.fHasPass) s35 Ct rfl (Aa (p.fHasPass) (fun h36 => ?_) fun h36 => ?_))
 refine Aq h36 (Nf (Al (c := Af p.fPass) s35 Ct rfl ?_))
 have z37 := Iq z34t4 p.fPass
 refine Cb s35 rfl (.cons (.own (by decide) (.here)) (.cons .ro .nil)) (Adb (n + 8) (by omega) z34t4 p.fPass (by omega) hb2) (C2 (Cz z34t4 p.fPass)) fun x38 H lx38 s39 => ?_
 have e40 : G7 f34t3 (C6 p (C5 p z34t4)) = G7 f34t3 (C6 p (Cz z34t4 p.fPass)) := by
  simp only [Cw] at h15
  simp only [C6, Fa, G6, E2, Dz, C5, D2, Ha, h3, h15, h36, if_true, if_false, zaa]
 rw [e40]
 exact hj4 x38 (Cz z34t4 p.fPass) f34t3 _ lx38 (by omega) (s39.sel (.cons (.here) (.cons Ct .nil)))
 refine Av h36 ?_
 have e41 : G7 f34t3 (C6 p (C5 p z34t4)) = G7 f34t3 (C6 p z34t4) := by
  simp only [Cw] at h15
  simp only [C6, Fa, G6, E2, Dz, C5, D2, Ha, h3, h15, h36, if_true, if_false, zaa]
 rw [e41]
 exact hj4 x34 z34t4 f34t3 _ lx34 (by omega) (s35.sel (.cons (.here) (.cons (.here) .nil)))
 refine Aa (p.fHasUser) (fun h42 => ?_) fun h42 => ?_
 refine Aq h42 (Pw (Al (c := ss p.fUser) s33 Ct rfl ?_))
 have z43 := Cq z32t4 p.fUser
 refine Cb s33 rfl (.cons (.own (by decide) (.here)) (.cons .sc .nil)) (Lt (n + 5) (by omega) z32t4 p.fUser (by omega) hp.t4) (C2 (Am z32t4 p.fUser)) fun x44 H lx44 s45 => ?_
 have e46 : G7 f32t3 (C6 p (C5 p (Dz p z32t4))) = G7 f32t3 (C6 p (C5 p (Am z32t4 p.fUser))) := by
  simp only [Cw] at h15
  simp only [C6, Fa, G6, E2, Dz, C5, D2, Ha, h3, h15, h42, if_true, if_false, zaa]
 rw [e46]
 exact hj34 x44 (Am z32t4 p.fUser) f32t3 _ lx44 (by omega) (s45.sel (.cons (.here) (.cons Ct .nil)))
 refine Av h42 ?_
 have e47 : G7 f32t3 (C6 p (C5 p (Dz p z32t4))) = G7 f32t3 (C6 p (C5 p z32t4)) := by
  simp only [Cw] at h15
  simp only [C6, Fa, G6, E2, Dz, C5, D2, Ha, h3, h15, h42, if_true, if_false, zaa]
 rw [e47]
 exact hj34 x32 z32t4 f32t3 _ lx32 (by omega) (s33.sel (.cons (.here) (.cons (.here) .nil)))
 refine Aa (p.fHasWill) (fun h48 => ?_) fun h48 => ?_
 refine Aq h48 (V5 (Al (c := ss p.fWTopic) s31 Nk rfl (V6 (Al (c := Af p.fWBody) s31 Nk rfl ?_))))
 have z49 := Cq (Am (An (A9 z16t4 (((((((Bb p.fClean 2) + (Bb p.fHasWill 4)) + (8 * p.fWQos)) + (Bb p.fWRetain 32)) + (Bb p.fHasPass 64)) + (Bb p.fHasUser 128)) % 256)) p.fKeep) p.fClient) p.fWTopic
 refine Cb s31 rfl (.cons (.own (by decide) (.here)) (.cons .sc .nil)) (Lt (n + 5) (by omega) (Am (An (A9 z16t4 (((((((Bb p.fClean 2) + (Bb p.fHasWill 4)) + (8 * p.fWQos)) + (Bb p.fWRetain 32)) + (Bb p.fHasPass 64)) + (Bb p.fHasUser 128)) % 256)) p.fKeep) p.fClient) p.fWTopic (by omega) hp.t3) (C2 (Am (Am (An (A9 z16t4 (((((((Bb p.fClean 2) + (Bb p.fHasWill 4)) + (8 * p.fWQos)) + (Bb p.fWRetain 32)) + (Bb p.fHasPass 64)) + (Bb p.fHasUser 128)) % 256)) p.fKeep) p.fClient) p.fWTopic)) fun x50 H lx50 s51 => ?_
 have z52 := Iq (Am (Am (An (A9 z16t4 (((((((Bb p.fClean 2) + (Bb p.fHasWill 4)) + (8 * p.fWQos)) + (Bb p.fWRetain 32)) + (Bb p.fHasPass 64)) + (Bb p.fHasUser 128)) % 256)) p.fKeep) p.fClient) p.fWTopic) p.fWBody
 refine Cb s51 rfl (.cons (.own (by decide) (.here)) (.cons .ro .nil)) (Adb (n + 8) (by omega) (Am (Am (An (A9 z16t4 (((((((Bb p.fClean 2) + (Bb p.fHasWill 4)) + (8 * p.fWQos)) + (Bb p.fWRetain 32)) + (Bb p.fHasPass 64)) + (Bb p.fHasUser 128)) % 256)) p.fKeep) p.fClient) p.fWTopic) p.fWBody (by omega) hb1) (C2 (Cz (Am (Am (An (A9 z16t4 (((((((Bb p.fClean 2) + (Bb p.fHasWill 4)) + (8 * p.fWQos)) + (Bb p.fWRetain 32)) + (Bb p.fHasPass 64)) + (Bb p.fHasUser 128)) % 256)) p.fKeep) p.fClient) p.fWTopic) p.fWBody)) fun x53 H lx53 s54 => ?_
 have e55 : G7 f16t3 (C6 p (C5 p (Dz p (E2 p (Am (An (A9 z16t4 (D2 p % 256)) p.fKeep) p.fClient))))) = G7 f16t3 (C6 p (C5 p (Dz p (Cz (Am (Am (An (A9 z16t4 (((((((Bb p.fClean 2) + (Bb p.fHasWill 4)) + (8 * p.fWQos)) + (Bb p.fWRetain 32)) + (Bb p.fHasPass 64)) + (Bb p.fHasUser 128)) % 256)) p.fKeep) p.fClient) p.fWTopic) p.fWBody)))) := by
  simp only [Cw] at h15
  simp only [C6, Fa, G6, E2, Dz, C5, D2, Ha, h3, h15, h48, if_true, if_false, zaa]
 rw [e55]
 exact hj32 x53 (Cz (Am (Am (An (A9 z16t4 (((((((Bb p.fClean 2) + (Bb p.fHasWill 4)) + (8 * p.fWQos)) + (Bb p.fWRetain 32)) + (Bb p.fHasPass 64)) + (Bb p.fHasUser 128)) % 256)) p.fKeep) p.fClient) p.fWTopic) p.fWBody) f16t3 _ lx53 (by omega) (s54.sel (.cons (.here) (.cons Nl .nil)))
 refine Av h48 ?_
 have e56 : G7 f16t3 (C6 p (C5 p (Dz p (E2 p (Am (An (A9 z16t4 (D2 p % 256)) p.fKeep) p.fClient))))) = G7 f16t3 (C6 p (C5 p (Dz p (Am (An (A9 z16t4 (((((((Bb p.fClean 2) + (Bb p.fHasWill 4)) + (8 * p.fWQos)) + (Bb p.fWRetain 32)) + (Bb p.fHasPass 64)) + (Bb p.fHasUser 128)) % 256)) p.fKeep) p.fClient)))) := by
  simp only [Cw] at h15
  simp only [C6, Fa, G6, E2, Dz, C5, D2, Ha, h3, h15, h48, if_true, if_false, zaa]
 rw [e56]
 exact hj32 x30 (Am (An (A9 z16t4 (((((((Bb p.fClean 2) + (Bb p.fHasWill 4)) + (8 * p.fWQos)) + (Bb p.fWRetain 32)) + (Bb p.fHasPass 64)) + (Bb p.fHasUser 128)) % 256)) p.fKeep) p.fClient) f16t3 _ lx30 (by omega) (s31.sel (.cons (.here) (.cons Df .nil)))
 refine Gd.bothE ?_ ?_
 have z57 := Cq bs0 mqtt
 simp only [Az, Au, Bh, zaj] at z57
 refine Cb s2 rfl (.cons .nl (.cons .sc .nil)) (Lt (n + 5) (by omega) bs0 mqtt (by (simp only [Az, Au, Bh, zaj]; omega)) (by decide)) (C2 (Am bs0 mqtt)) fun x58 H lx58 s59 => Bf (cs := [.sc (.int .u8 (p.fLevel % 256))]) rfl (Cg s59 fun i60 H s61 => Ff (s := (Am bs0 mqtt)) (z := (p.fLevel % 256)) s61 Ct (.here) ⟨_, _, rfl, rfl, rfl, rfl⟩ rfl (by omega) fun x62 H lx62 s63 => ?_)
 have e64 : Gl p = G7 (16 * p.fType) (C6 p (C5 p (Dz p (E2 p (Am (An (A9 (A9 (Am bs0 mqtt) (p.fLevel % 256)) (D2 p % 256)) p.fKeep) p.fClient))))) := by
  simp only [Cw] at h15
  rw [Ahu h3 h15]; (rfl)
 rw [e64]
 exact hj16 x62 (A9 (Am bs0 mqtt) (p.fLevel % 256)) (16 * p.fType) _ lx62 (by (simp only [Az, Au, Bh, zaj]; omega)) (s63.sel (.cons (.here) (.cons (.here) .nil)))
 refine Bf (cs := [su (p.fLevel % 256)]) rfl (Cg s2 fun i65 H s66 => ?_)
 have z67 := Cq bs0 mqtt
 simp only [Az, Au, Bh, zaj] at z67
 refine Cb s66 rfl (.cons .nl (.cons .sc .nil)) (Lt (n + 5) (by omega) bs0 mqtt (by (simp only [Az, Au, Bh, zaj]; omega)) (by decide)) (C2 (Am bs0 mqtt)) fun x68 H lx68 s69 => Ff (s := (Am bs0 mqtt)) (z := (p.fLevel % 256)) s69 (.here) (.here) ⟨_, _, rfl, rfl, rfl, rfl⟩ rfl (by omega) fun x70 H lx70 s71 => ?_
 have e72 : Gl p = G7 (16 * p.fType) (C6 p (C5 p (Dz p (E2 p (Am (An (A9 (A9 (Am bs0 mqtt) (p.fLevel % 256)) (D2 p % 256)) p.fKeep) p.fClient))))) := by
  simp only [Cw] at h15
  rw [Ahu h3 h15]; (rfl)
 rw [e72]
 exact hj16 x70 (A9 (Am bs0 mqtt) (p.fLevel % 256)) (16 * p.fType) _ lx70 (by (simp only [Az, Au, Bh, zaj]; omega)) (s71.sel (.cons (.here) (.cons (.here) .nil)))
 refine Av h15 (A2 (Aa ((decide (p.fType = 2))) (fun h73 => ?_) fun h73 => ?_))
 refine Aq h73 (V8 (Al (c := sb p.fPresent) s2 (.here) rfl (Ro (Al (c := si p.fCode) s2 (.here) rfl (F8 (IntKind.wrap_u8 _) ?_)))))
 have q74 := He p.fPresent 1 (by decide)
 refine Ao (v := (.int .i64 (Bb p.fPresent 1))) s2 rfl (Is .nil) (T7 (n + 9) p.fPresent 1) (F8 (IntKind.wrap_u8 _) (Bf (cs := [su ((Bb p.fPresent 1) % 256), su (p.fCode % 256)]) rfl (Cg s2 fun i75 H s76 => ?_)))
 have s77 := s76.nl (ty := 22) ⟨_, _, rfl, rfl⟩
 refine Uv (s := bs0) (z := ((Bb p.fPresent 1) % 256)) (w := (p.fCode % 256)) s77 (.here) (.here) ⟨_, _, rfl, rfl, rfl, rfl⟩ (by (simp only [Az, Bh]; omega)) fun x78 H lx78 s79 => ?_
 have e80 : Gl p = G7 (16 * p.fType) (C6 p (A9 (A9 bs0 ((Bb p.fPresent 1) % 256)) (p.fCode % 256))) := by
  simp only [Cw] at h15 h73
  rw [Am3 h3 h73]
 rw [e80]
 exact hj4 x78 (A9 (A9 bs0 ((Bb p.fPresent 1) % 256)) (p.fCode % 256)) (16 * p.fType) _ lx78 (by (simp only [Az, Au, Bh, zaj]; omega)) (s79.sel (.cons (.here) (.cons (.here) .nil)))
 refine Av h73 (A2 (Aa ((decide (p.fType = 3))) (fun h81 => ?_) fun h81 => ?_))
 refine Aq h81 (V3 (Al (c := sb p.fDup) s2 (.here) rfl (Pe (Al (c := si p.fQos) s2 (.here) rfl (Pu (by omega) (by omega) (gf3 (Al (c := sb p.fRetain) s2 (.here) rfl ?_)))))))
 have q82 := He p.fDup 8 (by decide)
 refine Ao (v := (.int .i64 (Bb p.fDup 8))) s2 rfl (Is .nil) (T7 (n + 9) p.fDup 8) (Bx (by omega) (by omega) (Bx (by omega) (by omega) ?_))
 have q83 := He p.fRetain 1 (by decide)
 refine Ao (v := (.int .i64 (Bb p.fRetain 1))) s2 rfl (Is .nil) (T7 (n + 9) p.fRetain 1) (Bx (by omega) (by omega) (gf5 (Al (c := ss p.fTopic) s2 (.here) rfl ?_)))
 have z84 := Cq bs0 p.fTopic
 simp only [Az, Au, Bh, zaj] at z84
 refine Cb s2 rfl (.cons .nl (.cons .sc .nil)) (Lt (n + 5) (by omega) bs0 p.fTopic (by (simp only [Az, Au, Bh, zaj]; omega)) hp.t1) (C2 (Am bs0 p.fTopic)) fun x85 H lx85 s86 => Pe (Al (c := .sc (.int .i64 p.fQos)) s86 Ct rfl (Ec (On (P := fun j => ∀ (x87 : AV) (z87t4 : ByteArray) (f87t3 : Int) (H : Ac), Bj x87 = true → (z87t4.size ≤ 200) → Sep H [.own x87 22 (Af z87t4), .blk i1 (Ap p) true] → Gd (· = some (Af (G7 f87t3 (C6 p (z87t4 ++ p.fBody))))) (j (.ptr i1 0) (.sc (.int .i64 f87t3)) x87 H)) ?_ fun j87 hj87 => ?_)))
 intro x87 z87t4 f87t3 H lx87 hz870 s88
 refine gf6 (Al (c := Af p.fBody) s88 Ct rfl (Sd (s := z87t4) s88 ⟨_, _, rfl, rfl, rfl, rfl⟩ (.here) U2 (by omega) fun x89 H lx89 s90 => ?_))
 have e91 : G7 f87t3 (C6 p (z87t4 ++ p.fBody)) = G7 f87t3 (C6 p (z87t4 ++ p.fBody)) := by
  simp only [Cw] at h15 h73 h81
  rfl
 rw [e91]
 exact hj4 x89 (z87t4 ++ p.fBody) f87t3 _ lx89 (by (simp only [Az, Au, Bh, zaj]; omega)) (s90.sel (.cons (.here) (.cons (.here) .nil)))
 refine Aa ((decide (0 < p.fQos))) (fun h92 => ?_) fun h92 => ?_
 refine Aq h92 (Iu (Al (c := si p.fId) s86 Ct rfl (Cb s86 rfl (.cons (.own (by decide) (.here)) (.cons .sc .nil)) (S4 (n + 9) (by omega) (Am bs0 p.fTopic) p.fId (by omega)) (C2 (An (Am bs0 p.fTopic) p.fId)) fun x93 H lx93 s94 => ?_)))
 have e95 : Gl p = G7 ((((16 * p.fType) + (Bb p.fDup 8)) + (2 * p.fQos)) + (Bb p.fRetain 1)) (C6 p ((An (Am bs0 p.fTopic) p.fId) ++ p.fBody)) := by
  simp only [Cw] at h15 h73 h81 h92
  rw [Ahv h3 h81]; ((simp only [C6, Fa, G6, E2, Dz, C5, D2, Ha, h3, h15, h73, h81, h92, if_true, if_false, zaa]; done))
 rw [e95]
 exact hj87 x93 (An (Am bs0 p.fTopic) p.fId) ((((16 * p.fType) + (Bb p.fDup 8)) + (2 * p.fQos)) + (Bb p.fRetain 1)) _ lx93 (by (simp only [Az, Au, Bh, zaj]; omega)) (s94.sel (.cons (.here) (.cons Ct .nil)))
 refine Av h92 ?_
 have e96 : Gl p = G7 ((((16 * p.fType) + (Bb p.fDup 8)) + (2 * p.fQos)) + (Bb p.fRetain 1)) (C6 p ((Am bs0 p.fTopic) ++ p.fBody)) := by
  simp only [Cw] at h15 h73 h81 h92
  rw [Ahv h3 h81]; ((simp only [C6, Fa, G6, E2, Dz, C5, D2, Ha, h3, h15, h73, h81, h92, if_true, if_false, zaa]; done))
 rw [e96]
 exact hj87 x85 (Am bs0 p.fTopic) ((((16 * p.fType) + (Bb p.fDup 8)) + (2 * p.fQos)) + (Bb p.fRetain 1)) _ lx85 (by omega) (s86.sel (.cons (.here) (.cons (.here) .nil)))
 refine Av h81 (A2 (De (Aa ((decide (p.fType = 6))) (fun h97 => ?_) fun h97 => ?_)))
 refine Aq h97 (Aq h97 (Bx (by omega) (by omega) ?_))
 have s98 := s2.nl (ty := 22) ⟨_, _, rfl, rfl⟩
 have e99 : Gl p = G7 ((16 * p.fType) + 2) (C6 p bs0) := by
  clear hj4 s0 s2 s98
  simp only [Cw] at h15 h73 h81 h97
  exact Z0 h3 h15 h73 h81 (by unfold Cv; (repeat' split) <;> omega)
 rw [e99]
 exact hj4 .nl bs0 ((16 * p.fType) + 2) _ rfl (by (simp only [Az, Au, Bh, zaj]; omega)) (s98.sel (.cons (.here) (.cons (.here) .nil)))
 refine Av h97 (A2 (Aa ((decide (p.fType = 8))) (fun h100 => ?_) fun h100 => ?_))
 refine Aq h100 (Aq h100 (Bx (by omega) (by omega) ?_))
 have s101 := s2.nl (ty := 22) ⟨_, _, rfl, rfl⟩
 have e102 : Gl p = G7 ((16 * p.fType) + 2) (C6 p bs0) := by
  clear hj4 s0 s2 s101
  simp only [Cw] at h15 h73 h81 h97 h100
  exact Z0 h3 h15 h73 h81 (by unfold Cv; (repeat' split) <;> omega)
 rw [e102]
 exact hj4 .nl bs0 ((16 * p.fType) + 2) _ rfl (by (simp only [Az, Au, Bh, zaj]; omega)) (s101.sel (.cons (.here) (.cons (.here) .nil)))
 refine Av h100 (A2 (Aa ((decide (p.fType = 10))) (fun h103 => ?_) fun h103 => ?_))
 refine Aq h103 (Bx (by omega) (by omega) ?_)
 have s104 := s2.nl (ty := 22) ⟨_, _, rfl, rfl⟩
 have e105 : Gl p = G7 ((16 * p.fType) + 2) (C6 p bs0) := by
  clear hj4 s0 s2 s104
  simp only [Cw] at h15 h73 h81 h97 h100 h103
  exact Z0 h3 h15 h73 h81 (by unfold Cv; (repeat' split) <;> omega)
 rw [e105]
 exact hj4 .nl bs0 ((16 * p.fType) + 2) _ rfl (by (simp only [Az, Au, Bh, zaj]; omega)) (s104.sel (.cons (.here) (.cons (.here) .nil)))
 refine Av h103 ?_
 have s106 := s2.nl (ty := 22) ⟨_, _, rfl, rfl⟩
 have e107 : Gl p = G7 (16 * p.fType) (C6 p bs0) := by
  clear hj4 s0 s2 s106
  simp only [Cw] at h15 h73 h81 h97 h100 h103
  exact Z0 h3 h15 h73 h81 (by unfold Cv; (repeat' split) <;> omega)
 rw [e107]
 exact hj4 .nl bs0 (16 * p.fType) _ rfl (by (simp only [Az, Au, Bh, zaj]; omega)) (s106.sel (.cons (.here) (.cons (.here) .nil)))
 refine Aq (nT h3) ?_
 have s108 := s2.nl (ty := 22) ⟨_, _, rfl, rfl⟩
 refine Ai (Di s108 .here) ?_
 have e : Gl p = bs0 := by
  simp only [Gl, G7, Ij, h3, if_true, if_false, zaa]
 rw [e]
 rfl
end
section
open Go
theorem AcO (n : Nat) (hn : 1048576 < n) (B : ByteArray) (a : Int) (hB : B.size ≤ 1099511627776) (ha : -1152921504606846976 ≤ a ∧ a ≤ 1152921504606846976) : Bz E0 (n + 1) 110 130 [Af B, .sc (.int .i64 a)] = some (.tup [.sc (.int .i64 (Bo B a).1), .sc (.int .i64 (Bo B a).2.1), .sc (.bool (Bo B a).2.2)]) := by
 rw [At, AiG, f130]
 refine Ce (G := (· = some (.tup [.sc (.int .i64 (Bo B a).1), .sc (.int .i64 (Bo B a).2.1), .sc (.bool (Bo B a).2.2)]))) ?_
 try simp only [Fc, Fb]
 have s0 : Sep [] [] := B5
 refine Dd (Aa ((decide (a < 0))) (fun h1 => ?_) fun h1 => ?_)
 have dh1 := of_decide_eq_true h1
 refine Ab h1 (Ab h1 (Ab h1 (Ab h1 (Ab h1 (Ef h1 (Aq rfl (Ai (Cd s0 rfl (Xn .nil) (Xp trivial)) ?_)))))))
 have e : Bo B a = (0, 0, false) := by
  clear s0
  simp only [Cw] at h1
  unfold Bo; rw [if_pos (by omega)]
 rw [e]
 have dh1 := of_decide_eq_false h1
 refine Ad h1 (Ad h1 (Ad h1 (Cn (Ad h1 (Nt (by omega) (by omega) (Ad h1 (Ec (Dq h1 (Aa ((decide ((((B.size : Nat) : Int) - 2) < a))) (fun h2 => ?_) fun h2 => ?_)))))))))
 have dh2 := of_decide_eq_true h2
 refine Aq h2 (Ai (Cd s0 rfl (Xn .nil) (Xp trivial)) ?_)
 have e : Bo B a = (0, 0, false) := by
  clear s0
  simp only [Cw] at h1 h2
  unfold Bo; rw [if_pos (by omega)]
 rw [e]
 have dh2 := of_decide_eq_false h2
 refine Av h2 ?_
 have w3 := D6 B a
 refine G0 (by omega) (by omega) fun _ => Fh (c := su (A7 B a)) rfl (Lg (by omega) (by omega) (AgP 256 rfl (by decide) (by omega) (by omega) (Bx (by omega) (by omega) ?_)))
 have w4 := D6 B (a + 1)
 refine G0 (by omega) (by omega) fun _ => Fh (c := su (A7 B (a + 1))) rfl (Lg (by omega) (by omega) (Amk (U0 8 _ _ (by omega) (by omega) (by omega) (by omega) (by omega) (by omega)) (Bx (by omega) (by omega) (Ai (Cd s0 rfl (Xn .nil) (Xp trivial)) ?_))))
 have e : Bo B a = ((((A7 B a) * 256) + (A7 B (a + 1))), (a + 2), true) := by
  clear s0
  simp only [Cw] at h1 h2
  unfold Bo; rw [if_neg (by omega)]
 rw [e]
theorem Qu (n : Nat) (hn : 1048576 < n) (B : ByteArray) (a : Int) (hB : B.size ≤ 1099511627776) (ha : -1152921504606846976 ≤ a ∧ a ≤ 1152921504606846976) : Bz E0 (n + 1) 110 88 [Af B, .sc (.int .i64 a)] = some (.tup [.sc (.int .i64 (Bo B a).1), .sc (.int .i64 (Bo B a).2.1), .sc (.bool (Bo B a).2.2)]) := by
 rw [At, AlT, f88]
 refine Ce (G := (· = some (.tup [.sc (.int .i64 (Bo B a).1), .sc (.int .i64 (Bo B a).2.1), .sc (.bool (Bo B a).2.2)]))) ?_
 try simp only [Fc, Fb]
 have s0 : Sep [] [] := B5
 refine Dd (Aa ((decide (a < 0))) (fun h1 => ?_) fun h1 => ?_)
 have dh1 := of_decide_eq_true h1
 refine Ab h1 (Ab h1 (Ab h1 (Ab h1 (Ab h1 (Ef h1 (Aq rfl (Ai (Cd s0 rfl (Xn .nil) (Xp trivial)) ?_)))))))
 have e : Bo B a = (0, 0, false) := by
  clear s0
  simp only [Cw] at h1
  unfold Bo; rw [if_pos (by omega)]
 rw [e]
 have dh1 := of_decide_eq_false h1
 refine Ad h1 (Ad h1 (Ad h1 (Cn (Ad h1 (Nt (by omega) (by omega) (Ad h1 (Ec (Dq h1 (Aa ((decide ((((B.size : Nat) : Int) - 2) < a))) (fun h2 => ?_) fun h2 => ?_)))))))))
 have dh2 := of_decide_eq_true h2
 refine Aq h2 (Ai (Cd s0 rfl (Xn .nil) (Xp trivial)) ?_)
 have e : Bo B a = (0, 0, false) := by
  clear s0
  simp only [Cw] at h1 h2
  unfold Bo; rw [if_pos (by omega)]
 rw [e]
 have dh2 := of_decide_eq_false h2
 refine Av h2 ?_
 have w3 := D6 B a
 refine G0 (by omega) (by omega) fun _ => Fh (c := su (A7 B a)) rfl (Lg (by omega) (by omega) (Pu (by omega) (by omega) (Bx (by omega) (by omega) ?_)))
 have w4 := D6 B (a + 1)
 refine G0 (by omega) (by omega) fun _ => Fh (c := su (A7 B (a + 1))) rfl (Lg (by omega) (by omega) (Bx (by omega) (by omega) (Bx (by omega) (by omega) (Ai (Cd s0 rfl (Xn .nil) (Xp trivial)) ?_))))
 have e : Bo B a = ((((A7 B a) * 256) + (A7 B (a + 1))), (a + 2), true) := by
  clear s0
  simp only [Cw] at h1 h2
  unfold Bo; rw [if_neg (by omega)]
 rw [e]
theorem Ajz (n : Nat) (hn : 1048576 < n) (B : ByteArray) (a : Int) (hB : B.size ≤ 1099511627776) (ha : -1152921504606846976 ≤ a ∧ a ≤ 1152921504606846976) : Bz E0 (n + 5) 131 146 [Af B, .sc (.int .i64 a)] = some (.tup [Af (Bi B a).1, .sc (.int .i64 (Bi B a).2.1), .sc (.bool (Bi B a).2.2)]) := by
 rw [At, AiU, f146]
 refine Ce (G := (· = some (.tup [Af (Bi B a).1, .sc (.int .i64 (Bi B a).2.1), .sc (.bool (Bi B a).2.2)]))) ?_
 try simp only [Fc, Fb]
 have s0 : Sep [] [] := B5
 obtain ⟨wq1, yq1, oq1, q1⟩ : ∃ w y o, Bo B a = (w, y, o) := ⟨_, _, _, rfl⟩
 have bq1 := Gj q1
 refine Ek s0 rfl (.cons .ro (.cons .sc .nil)) (by have h := AcO (n + 3) (by omega) B a (by omega) (by omega); rw [q1] at h; exact h) rfl (Bg (Bg (Bg Ed))) ?_
 rintro _ _ H ⟨_, rfl, ⟨_, rfl, ⟨_, rfl, ⟨rfl, rfl⟩⟩⟩⟩ s2
 simp only [zag] at s2
 refine Bp (v := si wq1) rfl (Bp (v := si yq1) rfl (Bp (v := sb oq1) rfl (B4 (Aa (oq1) (fun h3 => ?_) fun h3 => ?_))))
 refine Ad (nF h3) (Ad (nF h3) (Ec (Dq (nF h3) (Aa ((decide (60 < wq1))) (fun h4 => ?_) fun h4 => ?_))))
 have dh4 := of_decide_eq_true h4
 refine Ab h4 (Ab h4 (Ab h4 (Ab h4 (Ab h4 (Ab h4 (Ef h4 (Aq rfl (Ai (Cd s2 rfl (.nl (.sc (.sc .nil))) ⟨Be, (Fu trivial)⟩) ?_))))))))
 have e : Bi B a = (bs0, 0, false) := by
  clear s0 s2
  simp only [Cw] at h4
  unfold Bi; rw [q1]; show (if oq1 = false ∨ 60 < wq1 ∨ ((B.size : Nat) : Int) - yq1 < wq1 then _ else _) = _; rw [if_pos (by exact Or.inr (Or.inl (by assumption)))]
 rw [e]
 rfl
 have dh4 := of_decide_eq_false h4
 refine Ad h4 (Ad h4 (Ad h4 (Cn (Ad h4 (Ad h4 (Nt (by omega) (by omega) (Ad h4 (Ec (Dq h4 (Aa ((decide ((((B.size : Nat) : Int) - yq1) < wq1))) (fun h5 => ?_) fun h5 => ?_))))))))))
 have dh5 := of_decide_eq_true h5
 refine Aq h5 (Ai (Cd s2 rfl (.nl (.sc (.sc .nil))) ⟨Be, (Fu trivial)⟩) ?_)
 have e : Bi B a = (bs0, 0, false) := by
  clear s0 s2
  simp only [Cw] at h4 h5
  unfold Bi; rw [q1]; show (if oq1 = false ∨ 60 < wq1 ∨ ((B.size : Nat) : Int) - yq1 < wq1 then _ else _) = _; rw [if_pos (by exact Or.inr (Or.inr (by assumption)))]
 rw [e]
 rfl
 have dh5 := of_decide_eq_false h5
 refine Av h5 (Bx (by omega) (by omega) (G1 yq1 (yq1 + wq1) rfl rfl (by omega) (by omega) (by omega) ?_))
 have z6 := zaw (a := B) (b := yq1.toNat) (e := (yq1 + wq1).toNat)
 refine Bf (cs := [Af (B.extract yq1.toNat (yq1 + wq1).toNat)]) rfl (Cg s2 fun i7 H s8 => Cb s8 rfl (.sl (.here) rfl (.cons .ro .nil) .nil) (Nu n (by omega) (B.extract yq1.toNat (yq1 + wq1).toNat) (by omega)) (C2 (B.extract yq1.toNat (yq1 + wq1).toNat)) fun x9 H lx9 s10 => Bx (by omega) (by omega) (Ai (Cd s10 rfl (.own (.here) (.sc (.sc .nil))) ⟨(B6 (C2 (B.extract yq1.toNat (yq1 + wq1).toNat)) (by decide)), (Fu trivial)⟩) ?_))
 have e : Bi B a = ((B.extract yq1.toNat (yq1 + wq1).toNat), (yq1 + wq1), true) := by
  clear s0 s2 s8 s10
  simp only [Cw] at h4 h5
  unfold Bi; rw [q1]; show (if oq1 = false ∨ 60 < wq1 ∨ ((B.size : Nat) : Int) - yq1 < wq1 then _ else _) = _; rw [if_neg (by rintro (k | k | k) <;> first | omega | (simp_all; done))]
 rw [e]
 refine Ab (nT h3) (Ab (nT h3) (Ef (nT h3) (Ab rfl (Ab rfl (Ab rfl (Ab rfl (Ab rfl (Ab rfl (Ef rfl (Aq rfl (Ai (Cd s2 rfl (.nl (.sc (.sc .nil))) ⟨Be, (Fu trivial)⟩) ?_)))))))))))
 have e : Bi B a = (bs0, 0, false) := by
  clear s0 s2
  unfold Bi; rw [q1]; show (if oq1 = false ∨ 60 < wq1 ∨ ((B.size : Nat) : Int) - yq1 < wq1 then _ else _) = _; rw [if_pos (by exact Or.inl (by assumption))]
 rw [e]
 rfl
theorem Qt (n : Nat) (hn : 1048576 < n) (B : ByteArray) (a : Int) (hB : B.size ≤ 1099511627776) (ha : -1152921504606846976 ≤ a ∧ a ≤ 1152921504606846976) : Bz E0 (n + 2) 131 126 [Af B, .sc (.int .i64 a)] = some (.tup [Af (Bi B a).1, .sc (.int .i64 (Bi B a).2.1), .sc (.bool (Bi B a).2.2)]) := by
 rw [At, AiC, f126]
 refine Ce (G := (· = some (.tup [Af (Bi B a).1, .sc (.int .i64 (Bi B a).2.1), .sc (.bool (Bi B a).2.2)]))) ?_
 try simp only [Fc, Fb]
 have s0 : Sep [] [] := B5
 obtain ⟨wq1, yq1, oq1, q1⟩ : ∃ w y o, Bo B a = (w, y, o) := ⟨_, _, _, rfl⟩
 have bq1 := Gj q1
 refine Ek s0 rfl (.cons .ro (.cons .sc .nil)) (by have h := Qu n (by omega) B a (by omega) (by omega); rw [q1] at h; exact h) rfl (Bg (Bg (Bg Ed))) ?_
 rintro _ _ H ⟨_, rfl, ⟨_, rfl, ⟨_, rfl, ⟨rfl, rfl⟩⟩⟩⟩ s2
 simp only [zag] at s2
 refine Bp (v := si wq1) rfl (Bp (v := si yq1) rfl (Bp (v := sb oq1) rfl (B4 (Aa (oq1) (fun h3 => ?_) fun h3 => ?_))))
 refine Ad (nF h3) (Ad (nF h3) (Ec (Dq (nF h3) (Aa ((decide (60 < wq1))) (fun h4 => ?_) fun h4 => ?_))))
 have dh4 := of_decide_eq_true h4
 refine Ab h4 (Ab h4 (Ab h4 (Ab h4 (Ab h4 (Ab h4 (Ef h4 (Aq rfl (Ai (Cd s2 rfl (.nl (.sc (.sc .nil))) ⟨Be, (Fu trivial)⟩) ?_))))))))
 have e : Bi B a = (bs0, 0, false) := by
  clear s0 s2
  simp only [Cw] at h4
  unfold Bi; rw [q1]; show (if oq1 = false ∨ 60 < wq1 ∨ ((B.size : Nat) : Int) - yq1 < wq1 then _ else _) = _; rw [if_pos (by exact Or.inr (Or.inl (by assumption)))]
 rw [e]
 rfl
 have dh4 := of_decide_eq_false h4
 refine Ad h4 (Ad h4 (Ad h4 (Cn (Ad h4 (Ad h4 (Nt (by omega) (by omega) (Ad h4 (Ec (Dq h4 (Aa ((decide ((((B.size : Nat) : Int) - yq1) < wq1))) (fun h5 => ?_) fun h5 => ?_))))))))))
 have dh5 := of_decide_eq_true h5
 refine Aq h5 (Ai (Cd s2 rfl (.nl (.sc (.sc .nil))) ⟨Be, (Fu trivial)⟩) ?_)
 have e : Bi B a = (bs0, 0, false) := by
  clear s0 s2
  simp only [Cw] at h4 h5
  unfold Bi; rw [q1]; show (if oq1 = false ∨ 60 < wq1 ∨ ((B.size : Nat) : Int) - yq1 < wq1 then _ else _) = _; rw [if_pos (by exact Or.inr (Or.inr (by assumption)))]
 rw [e]
 rfl
 have dh5 := of_decide_eq_false h5
 refine Av h5 (Bx (by omega) (by omega) (G1 yq1 (yq1 + wq1) rfl rfl (by omega) (by omega) (by omega) ?_))
 have z6 := zaw (a := B) (b := yq1.toNat) (e := (yq1 + wq1).toNat)
 refine Jr s2 (by omega) fun x7 H lx7 s8 => Bx (by omega) (by omega) (Ai (Cd s8 rfl (.own (.here) (.sc (.sc .nil))) ⟨(B6 (C2 (B.extract yq1.toNat (yq1 + wq1).toNat)) (by decide)), (Fu trivial)⟩) ?_)
 have e : Bi B a = ((B.extract yq1.toNat (yq1 + wq1).toNat), (yq1 + wq1), true) := by
  clear s0 s2 s8
  simp only [Cw] at h4 h5
  unfold Bi; rw [q1]; show (if oq1 = false ∨ 60 < wq1 ∨ ((B.size : Nat) : Int) - yq1 < wq1 then _ else _) = _; rw [if_neg (by rintro (k | k | k) <;> first | omega | (simp_all; done))]
 rw [e]
 refine Ab (nT h3) (Ab (nT h3) (Ef (nT h3) (Ab rfl (Ab rfl (Ab rfl (Ab rfl (Ab rfl (Ab rfl (Ef rfl (Aq rfl (Ai (Cd s2 rfl (.nl (.sc (.sc .nil))) ⟨Be, (Fu trivial)⟩) ?_)))))))))))
 have e : Bi B a = (bs0, 0, false) := by
  clear s0 s2
  unfold Bi; rw [q1]; show (if oq1 = false ∨ 60 < wq1 ∨ ((B.size : Nat) : Int) - yq1 < wq1 then _ else _) = _; rw [if_pos (by exact Or.inl (by assumption))]
 rw [e]
 rfl
theorem Ls (n : Nat) (hn : 1048576 < n) (B : ByteArray) (a : Int) (hB : B.size ≤ 1099511627776) (ha : -1152921504606846976 ≤ a ∧ a ≤ 1152921504606846976) : Bz E0 (n + 5) 108 87 [Af B, .sc (.int .i64 a)] = some (.tup [.sc (.string (B3 B a).1), .sc (.int .i64 (B3 B a).2.1), .sc (.bool (B3 B a).2.2)]) := by
 rw [At, AlS, f87]
 refine Ce (G := (· = some (.tup [.sc (.string (B3 B a).1), .sc (.int .i64 (B3 B a).2.1), .sc (.bool (B3 B a).2.2)]))) ?_
 try simp only [Fc, Fb]
 have s0 : Sep [] [] := B5
 obtain ⟨vq1, yq1, oq1, q1⟩ : ∃ w y o, Bi B a = (w, y, o) := ⟨_, _, _, rfl⟩
 have bq1 := Fw q1
 refine Ek s0 rfl (.cons .ro (.cons .sc .nil)) (by have h := Qt (n + 2) (by omega) B a (by omega) (by omega); rw [q1] at h; exact h) rfl (Kj (ty := 22) rfl (C2 vq1) (Bg (Bg Ed))) ?_
 rintro _ _ H ⟨x2, _, _, lx2, rfl, rfl, ⟨_, rfl, ⟨_, rfl, ⟨rfl, rfl⟩⟩⟩⟩ s3
 simp only [zag, zau] at s3
 refine Bp (v := x2) rfl (Bp (v := si yq1) rfl (Bp (v := sb oq1) rfl (B4 (Aa (oq1) (fun h4 => ?_) fun h4 => ?_))))
 refine Ad (nF h4) (Ad (nF h4) (Nd s3 ⟨_, _, rfl, rfl, rfl, rfl⟩ (.here) (Ad (nF h4) (Ao (v := (.bool (Bd vq1))) s3 rfl (.cons .sc .nil) (Ip n (by omega) _ vq1) (Ad (nF h4) (B4 (Dq (nF h4) (Aa ((Bd vq1)) (fun h5 => ?_) fun h5 => ?_))))))))
 refine Av (nF h5) (Nd s3 ⟨_, _, rfl, rfl, rfl, rfl⟩ (.here) (Ai (Cd s3 rfl (Xn .nil) (Xp trivial)) ?_))
 have e : B3 B a = (vq1, yq1, true) := by
  unfold B3; rw [q1]; simp only [h4, h5, za5, zaS, zaH, zbn, if_true, if_false, zaa]
 rw [e]
 refine Aq (nT h5) (Ai (Cd s3 rfl (Xn .nil) (Xp trivial)) ?_)
 have e : B3 B a = (⟨#[]⟩, 0, false) := by
  unfold B3; rw [q1]; simp only [h4, h5, za5, zaS, zaH, zbn, if_true, if_false, zaa]
 rw [e]
 refine Ab (nT h4) (Ab (nT h4) (Ab (nT h4) (Ab (nT h4) (Ef (nT h4) (Aq rfl (Ai (Cd s3 rfl (Xn .nil) (Xp trivial)) ?_))))))
 have e : B3 B a = (⟨#[]⟩, 0, false) := by
  unfold B3; rw [q1]; simp only [h4, za5, zaS, zaH, zbn, if_true, if_false, zaa]
 rw [e]
theorem Yb (n : Nat) (hn : 1048576 < n) (B : ByteArray) (a : Int) (hB : B.size ≤ 1099511627776) (ha : 0 ≤ a) : ∀ (f m : Nat) (i z : Int) (H : Ac), f < m → i + f = 4 → 0 ≤ i → a + i ≤ ((B.size : Nat) : Int) → Gd (· = some (.tup [.sc (.int .i64 (D7 B a f i z).1), .sc (.int .i64 (D7 B a f i z).2.1), .sc (.int .i64 (D7 B a f i z).2.2)])) (Ri (PR (n + 1) AV) (n + 1) (fun x H => Bc As E0.tp 85 H x) m (Af B) (.sc (.int .i64 a)) (.sc (.int .i64 z)) (.sc (.int .i64 i)) H)
 | 0, m + 1, i, z, H, hm, hi, h0, hs => by
  have s0 : Sep H [] := B5
  rw [Ri]
  try simp only [Fc, Fb]
  have hk : decide (i < 4) = false := by simp; omega
  refine Dd (Av hk (Ai (Cd s0 rfl (Xn .nil) (Xp trivial)) ?_))
  have e : D7 B a 0 i z = (0, 0, 2) := by
   rw [D7]
  rw [e]
 | f + 1, m + 1, i, z, H, hm, hi, h0, hs => by
  have s0 : Sep H [] := B5
  rw [Ri]
  try simp only [Fc, Fb]
  have hk : decide (i < 4) = true := by simp; omega
  refine Dd (Aq hk (Bx (by omega) (by omega) (Cn (A2 (Aa ((decide ((a + i) = ((B.size : Nat) : Int)))) (fun h1 => ?_) fun h1 => ?_)))))
  have dh1 := of_decide_eq_true h1
  refine Aq h1 (Ai (Cd s0 rfl (Xn .nil) (Xp trivial)) ?_)
  have e : D7 B a (f + 1) i z = (0, 0, 1) := by
   clear s0
   rw [D7]
   (repeat' split) <;> first | rfl | (exfalso; omega)
  rw [e]
  have dh1 := of_decide_eq_false h1
  refine Av h1 (Bx (by omega) (by omega) ?_)
  have w2 := D6 B (a + i)
  refine G0 (by omega) (by omega) fun _ => Fh (c := .sc (.int .u8 (A7 B (a + i)))) rfl (Lg (by omega) (by omega) (Gz rfl (Pu (by omega) (by omega) (AgP (2 ^ (7 * i).toNat) rfl (by omega) (by have h := W4 (x := (bits .and .i64 (A7 B (a + i)) 127)) (i := i) (by rw [Pi (by omega) (by omega)]; omega) (by omega); omega) (by have h := W4 (x := (bits .and .i64 (A7 B (a + i)) 127)) (i := i) (by rw [Pi (by omega) (by omega)]; omega) (by omega); omega) (Amk rfl (Ec (Aa ((decide (127 < (A7 B (a + i))))) (fun h3 => ?_) fun h3 => ?_)))))))
  have dh3 := of_decide_eq_true h3
  refine Aq h3 (Bx (by omega) (by omega) ?_)
  have e : D7 B a (f + 1) i z = D7 B a f (i + 1) (bits .or .i64 z ((bits .and .i64 (A7 B (a + i)) 127) * 2 ^ (7 * i).toNat)) := by
   rw [D7, if_neg (by omega), if_neg (by omega)]
  rw [e]
  exact Yb n hn B a hB ha f m _ _ _ (by omega) (by omega) (by omega) (by omega)
  have dh3 := of_decide_eq_false h3
  refine Av h3 (Ec (Aa ((decide (0 < i))) (fun h4 => ?_) fun h4 => ?_))
  have dh4 := of_decide_eq_true h4
  refine Ad h4 (Ad h4 (A2 (Ef h4 (Aa ((decide ((A7 B (a + i)) = 0))) (fun h5 => ?_) fun h5 => ?_))))
  have dh5 := of_decide_eq_true h5
  refine Aq h5 (Ai (Cd s0 rfl (Xn .nil) (Xp trivial)) ?_)
  have e : D7 B a (f + 1) i z = (0, 0, 2) := by
   clear s0
   rw [D7]
   (repeat' split) <;> first | rfl | (exfalso; omega)
  rw [e]
  have dh5 := of_decide_eq_false h5
  refine Av h5 (Bx (by omega) (by omega) (Bx (by omega) (by omega) (Ai (Cd s0 rfl (Xn .nil) (Xp trivial)) ?_)))
  have e : D7 B a (f + 1) i z = ((bits .or .i64 z ((bits .and .i64 (A7 B (a + i)) 127) * 2 ^ (7 * i).toNat)), ((a + i) + 1), 0) := by
   clear s0
   rw [D7]
   (repeat' split) <;> first | rfl | (exfalso; omega)
  rw [e]
  have dh4 := of_decide_eq_false h4
  refine Ab h4 (Ab h4 (Dq h4 (Av rfl (Bx (by omega) (by omega) (Bx (by omega) (by omega) (Ai (Cd s0 rfl (Xn .nil) (Xp trivial)) ?_))))))
  have e : D7 B a (f + 1) i z = ((bits .or .i64 z ((bits .and .i64 (A7 B (a + i)) 127) * 2 ^ (7 * i).toNat)), ((a + i) + 1), 0) := by
   clear s0
   rw [D7]
   (repeat' split) <;> first | rfl | (exfalso; omega)
  rw [e]
theorem Aj0 (n : Nat) (hn : 1048576 < n) (B : ByteArray) (a : Int) (hB : B.size ≤ 1099511627776) (ha : -1152921504606846976 ≤ a ∧ a ≤ 1152921504606846976) : Bz E0 (n + 2) 85 68 [Af B, .sc (.int .i64 a)] = some (.tup [.sc (.int .i64 (C1 B a).1), .sc (.int .i64 (C1 B a).2.1), .sc (.int .i64 (C1 B a).2.2)]) := by
 rw [At, AlB, f68]
 refine Ce (G := (· = some (.tup [.sc (.int .i64 (C1 B a).1), .sc (.int .i64 (C1 B a).2.1), .sc (.int .i64 (C1 B a).2.2)]))) ?_
 try simp only [Fc, Fb]
 have s0 : Sep [] [] := B5
 refine Cn (Ao (v := (.bool (Bw a 0 ((B.size : Nat) : Int)))) s0 rfl (Pg .nil) (I7 n _ a 0 ((B.size : Nat) : Int)) (B4 (Aa ((Bw a 0 ((B.size : Nat) : Int))) (fun h1 => ?_) fun h1 => ?_)))
 refine Av (nF h1) ?_
 have e : C1 B a = D7 B a 4 0 0 := by
  clear s0
  simp only [Bw, zae, decide_eq_true_eq] at h1; unfold C1; rw [if_neg (by omega)]
 rw [e]
 have hv := h1; simp only [Bw, zae, decide_eq_true_eq] at hv; exact Yb n hn B a hB (by omega) 4 _ 0 0 _ (by omega) (by omega) (by omega) (by omega)
 refine Aq (nT h1) (Ai (Cd s0 rfl (Xn .nil) (Xp trivial)) ?_)
 have e : C1 B a = (0, 0, 2) := by
  clear s0
  simp only [Bw, Bool.and_eq_false_iff, decide_eq_false_iff_not] at h1; unfold C1; rw [if_pos (by omega)]
 rw [e]
theorem Yw (n : Nat) (hn : 1048576 < n) (B : ByteArray) (a : Int) (hB : B.size ≤ 1099511627776) (ha : 0 ≤ a) : ∀ (f m : Nat) (i z : Int) (H : Ac), f < m → i + f = 4 → 0 ≤ i → a + i ≤ ((B.size : Nat) : Int) → Gd (· = some (.tup [.sc (.int .i64 (D7 B a f i z).1), .sc (.int .i64 (D7 B a f i z).2.1), .sc (.int .i64 (D7 B a f i z).2.2)])) (Rg (PR (n + 1) AV) (n + 1) (fun x H => Bc As E0.tp 85 H x) m (Af B) (.sc (.int .i64 a)) (.sc (.int .i64 z)) (.sc (.int .i64 i)) H)
 | 0, m + 1, i, z, H, hm, hi, h0, hs => by
  have s0 : Sep H [] := B5
  rw [Rg]
  try simp only [Fc, Fb]
  have hk : decide (i < 4) = false := by simp; omega
  refine Dd (Av hk (Ai (Cd s0 rfl (Xn .nil) (Xp trivial)) ?_))
  have e : D7 B a 0 i z = (0, 0, 2) := by
   rw [D7]
  rw [e]
 | f + 1, m + 1, i, z, H, hm, hi, h0, hs => by
  have s0 : Sep H [] := B5
  rw [Rg]
  try simp only [Fc, Fb]
  have hk : decide (i < 4) = true := by simp; omega
  refine Dd (Aq hk (Bx (by omega) (by omega) (Cn (Ya (Aa ((decide (((B.size : Nat) : Int) ≤ (a + i)))) (fun h1 => ?_) fun h1 => ?_)))))
  have dh1 := of_decide_eq_true h1
  refine Aq h1 (Ai (Cd s0 rfl (Xn .nil) (Xp trivial)) ?_)
  have e : D7 B a (f + 1) i z = (0, 0, 1) := by
   rw [D7]
   (repeat' split) <;> (rfl)
  rw [e]
  have dh1 := of_decide_eq_false h1
  refine Av h1 (Bx (by omega) (by omega) ?_)
  have w2 := D6 B (a + i)
  refine G0 (by omega) (by omega) fun _ => Fh (c := .sc (.int .u8 (A7 B (a + i)))) rfl (Lg (by omega) (by omega) (Gz rfl (Pu (by omega) (by omega) (AgP (2 ^ (7 * i).toNat) rfl (by omega) (by have h := W4 (x := (bits .and .i64 (A7 B (a + i)) 127)) (i := i) (by rw [Pi (by omega) (by omega)]; omega) (by omega); omega) (by have h := W4 (x := (bits .and .i64 (A7 B (a + i)) 127)) (i := i) (by rw [Pi (by omega) (by omega)]; omega) (by omega); omega) (Amk rfl (Dd (Aa ((decide ((A7 B (a + i)) < 128))) (fun h3 => ?_) fun h3 => ?_)))))))
  have dh3 := of_decide_eq_true h3
  refine Aq h3 (Ec (Aa ((decide (0 < i))) (fun h4 => ?_) fun h4 => ?_))
  have dh4 := of_decide_eq_true h4
  refine Ad h4 (Ad h4 (A2 (Ef h4 (Aa ((decide ((A7 B (a + i)) = 0))) (fun h5 => ?_) fun h5 => ?_))))
  have dh5 := of_decide_eq_true h5
  refine Aq h5 (Ai (Cd s0 rfl (Xn .nil) (Xp trivial)) ?_)
  have e : D7 B a (f + 1) i z = (0, 0, 2) := by
   clear s0
   rw [D7]
   (repeat' split) <;> first | rfl | (exfalso; omega)
  rw [e]
  have dh5 := of_decide_eq_false h5
  refine Av h5 (Bx (by omega) (by omega) (Bx (by omega) (by omega) (Ai (Cd s0 rfl (Xn .nil) (Xp trivial)) ?_)))
  have e : D7 B a (f + 1) i z = ((bits .or .i64 z ((bits .and .i64 (A7 B (a + i)) 127) * 2 ^ (7 * i).toNat)), ((a + i) + 1), 0) := by
   clear s0
   rw [D7]
   (repeat' split) <;> first | rfl | (exfalso; omega)
  rw [e]
  have dh4 := of_decide_eq_false h4
  refine Ab h4 (Ab h4 (Dq h4 (Av rfl (Bx (by omega) (by omega) (Bx (by omega) (by omega) (Ai (Cd s0 rfl (Xn .nil) (Xp trivial)) ?_))))))
  have e : D7 B a (f + 1) i z = ((bits .or .i64 z ((bits .and .i64 (A7 B (a + i)) 127) * 2 ^ (7 * i).toNat)), ((a + i) + 1), 0) := by
   clear s0
   rw [D7]
   (repeat' split) <;> first | rfl | (exfalso; omega)
  rw [e]
  have dh3 := of_decide_eq_false h3
  refine Av h3 (Bx (by omega) (by omega) ?_)
  have e : D7 B a (f + 1) i z = D7 B a f (i + 1) (bits .or .i64 z ((bits .and .i64 (A7 B (a + i)) 127) * 2 ^ (7 * i).toNat)) := by
   rw [D7, if_neg (by omega), if_neg (by omega)]
  rw [e]
  exact Yw n hn B a hB ha f m _ _ _ (by omega) (by omega) (by omega) (by omega)
theorem AjV (n : Nat) (hn : 1048576 < n) (B : ByteArray) (a : Int) (hB : B.size ≤ 1099511627776) (ha : -1152921504606846976 ≤ a ∧ a ≤ 1152921504606846976) : Bz E0 (n + 2) 85 62 [Af B, .sc (.int .i64 a)] = some (.tup [.sc (.int .i64 (C1 B a).1), .sc (.int .i64 (C1 B a).2.1), .sc (.int .i64 (C1 B a).2.2)]) := by
 rw [At, Al5, f62]
 refine Ce (G := (· = some (.tup [.sc (.int .i64 (C1 B a).1), .sc (.int .i64 (C1 B a).2.1), .sc (.int .i64 (C1 B a).2.2)]))) ?_
 try simp only [Fc, Fb]
 have s0 : Sep [] [] := B5
 refine Dd (Aa ((decide (a < 0))) (fun h1 => ?_) fun h1 => ?_)
 have dh1 := of_decide_eq_true h1
 refine Ab h1 (Ab h1 (Ab h1 (Ab h1 (Ef h1 (Aq rfl (Ai (Cd s0 rfl (Xn .nil) (Xp trivial)) ?_))))))
 have e : C1 B a = (0, 0, 2) := by
  clear s0
  unfold C1; rw [if_pos (by omega)]
 rw [e]
 have dh1 := of_decide_eq_false h1
 refine Ad h1 (Ad h1 (Ad h1 (Cn (Ad h1 (Ec (Dq h1 (Aa ((decide (((B.size : Nat) : Int) < a))) (fun h2 => ?_) fun h2 => ?_)))))))
 have dh2 := of_decide_eq_true h2
 refine Aq h2 (Ai (Cd s0 rfl (Xn .nil) (Xp trivial)) ?_)
 have e : C1 B a = (0, 0, 2) := by
  clear s0
  unfold C1; rw [if_pos (by omega)]
 rw [e]
 have dh2 := of_decide_eq_false h2
 refine Av h2 ?_
 have e : C1 B a = D7 B a 4 0 0 := by
  clear s0
  unfold C1; rw [if_neg (by omega)]
 rw [e]
 exact Yw n hn B a hB (by omega) 4 _ 0 0 _ (by omega) (by omega) (by omega) (by omega)
theorem AbR (n : Nat) (hn : 1048576 < n) (f : Int) (hf : 0 ≤ f ∧ f < 256) : Bz E0 (n + 2) 4 67 [.sc (.int .i64 f)] = some (.sc (.bool (D1 f))) := by
 rw [At, AlA, f67]
 refine Ce (G := (· = some (sb (D1 f)))) ?_
 try simp only [Fc, Fb]
 have s0 : Sep [] [] := B5
 refine Ns (by omega) (by omega) (by decide) (Q2 (v := .sc (.int .i64 (f % 16))) (fun k => by show k (.sc (.int .i64 (Int.tmod (f) 16))) = _; rw [zaD (by omega)]) (A2 (Aa ((decide ((f / 16) = 3))) (fun h1 => ?_) fun h1 => ?_)))
 have dh1 := of_decide_eq_true h1
 refine Aq h1 (T8 2 rfl (by decide) (Gz rfl (Lh (Aa ((decide ((bits .and .i64 ((f % 16) / 2) 3) = 3))) (fun h2 => ?_) fun h2 => ?_))))
 have dh2 := of_decide_eq_true h2
 refine Ab (nF h2) (Ab (nF h2) (Ab (nF h2) (Dj (Dj (Dj (Ab (nF h2) (Dq (nF h2) (Ai rfl ?_))))))))
 have e : D1 f = false := by
  simp only [Cw] at h1 h2
  (simp only [D1, h1, h2, if_true, if_false, zaa]; rfl)
 rw [e]
 have dh2 := of_decide_eq_false h2
 refine Ad (nT h2) (Ad (nT h2) (Ec (Ad (nT h2) (Aa ((decide (0 < (bits .and .i64 ((f % 16) / 2) 3)))) (fun h3 => ?_) fun h3 => ?_))))
 have dh3 := of_decide_eq_true h3
 refine Ab h3 (Ab h3 (Ab h3 (Ad (nT h2) (Ef h3 (Ef (nT h2) (Ai rfl ?_))))))
 have e : D1 f = true := by
  simp only [Cw] at h1 h2 h3
  (simp only [D1, h1, h2, h3, if_true, if_false, zaa]; rfl)
 rw [e]
 have dh3 := of_decide_eq_false h3
 refine Ad h3 (Ad h3 (Gz rfl (Ad h3 (A2 (Ad (nT h2) (Dq h3 (Ef (nT h2) (Ai rfl ?_))))))))
 have e : D1 f = (decide ((bits .and .i64 (f % 16) 8) = 0)) := by
  simp only [Cw] at h1 h2 h3
  (simp only [D1, h1, h2, h3, if_true, if_false, zaa]; rfl)
 rw [e]
 have dh1 := of_decide_eq_false h1
 refine Av h1 (A2 (De (Aa ((decide ((f / 16) = 6))) (fun h4 => ?_) fun h4 => ?_)))
 have dh4 := of_decide_eq_true h4
 refine Aq h4 (Aq h4 (A2 (Ai rfl ?_)))
 have e : D1 f = (decide ((f % 16) = 2)) := by
  simp only [Cw] at h1 h4
  (simp only [D1, h1, h4, if_true, if_false, zaa]; rfl)
 rw [e]
 have dh4 := of_decide_eq_false h4
 refine Av h4 (A2 (Aa ((decide ((f / 16) = 8))) (fun h5 => ?_) fun h5 => ?_))
 have dh5 := of_decide_eq_true h5
 refine Aq h5 (Aq h5 (A2 (Ai rfl ?_)))
 have e : D1 f = (decide ((f % 16) = 2)) := by
  simp only [Cw] at h1 h4 h5
  (simp only [D1, h1, h4, h5, if_true, if_false, zaa]; rfl)
 rw [e]
 have dh5 := of_decide_eq_false h5
 refine Av h5 (A2 (Aa ((decide ((f / 16) = 10))) (fun h6 => ?_) fun h6 => ?_))
 have dh6 := of_decide_eq_true h6
 refine Aq h6 (A2 (Ai rfl ?_))
 have e : D1 f = (decide ((f % 16) = 2)) := by
  simp only [Cw] at h1 h4 h5 h6
  (simp only [D1, h1, h4, h5, h6, if_true, if_false, zaa]; rfl)
 rw [e]
 have dh6 := of_decide_eq_false h6
 refine Av h6 (Ao (v := (.bool (Bw (f / 16) 1 14))) s0 rfl (Pg .nil) (I7 n _ (f / 16) 1 14) (Aa ((Bw (f / 16) 1 14)) (fun h7 => ?_) fun h7 => ?_))
 refine Ad h7 (Ad h7 (A2 (Ef h7 (Ai rfl ?_))))
 have e : D1 f = (decide ((f % 16) = 0)) := by
  simp only [Cw] at h1 h4 h5 h6
  (simp only [D1, h1, h4, h5, h6, h7, if_true, if_false, zaa]; rfl)
 rw [e]
 refine Ab h7 (Ab h7 (Dq h7 (Ai rfl ?_)))
 have e : D1 f = false := by
  simp only [Cw] at h1 h4 h5 h6
  (simp only [D1, h1, h4, h5, h6, h7, if_true, if_false, zaa]; rfl)
 rw [e]
theorem Acf (n : Nat) (hn : 1048576 < n) (f : Int) (hf : 0 ≤ f ∧ f < 256) : Bz E0 (n + 1) 4 61 [.sc (.int .i64 f)] = some (.sc (.bool (Fk f))) := by
 rw [At, Al4, f61]
 refine Ce (G := (· = some (sb (Fk f)))) ?_
 try simp only [Fc, Fb]
 have s0 : Sep [] [] := B5
 refine Ns (by omega) (by omega) (by decide) (Q2 (v := .sc (.int .i64 (f % 16))) (fun k => by show k (.sc (.int .i64 (Int.tmod (f) 16))) = _; rw [zaD (by omega)]) (A2 (De (Aa ((decide ((f / 16) = 0))) (fun h1 => ?_) fun h1 => ?_))))
 have dh1 := of_decide_eq_true h1
 refine Aq h1 (Aq h1 (Ai rfl ?_))
 have e : Fk f = false := by
  simp only [Cw] at h1
  (simp only [Fk, h1, if_true, if_false, zaa]; rfl)
 rw [e]
 have dh1 := of_decide_eq_false h1
 refine Av h1 (A2 (Aa ((decide ((f / 16) = 15))) (fun h2 => ?_) fun h2 => ?_))
 have dh2 := of_decide_eq_true h2
 refine Aq h2 (Ai rfl ?_)
 have e : Fk f = false := by
  simp only [Cw] at h1 h2
  (simp only [Fk, h1, h2, if_true, if_false, zaa]; rfl)
 rw [e]
 have dh2 := of_decide_eq_false h2
 refine Av h2 (A2 (Aa ((decide ((f / 16) = 3))) (fun h3 => ?_) fun h3 => ?_))
 have dh3 := of_decide_eq_true h3
 refine Aq h3 (Ns (by omega) (by omega) (by decide) (Q2 (v := .sc (.int .i64 (((f % 16) / 2) % 4))) (fun k => by show k (.sc (.int .i64 (Int.tmod (((f % 16) / 2)) 4))) = _; rw [zaD (by omega)]) (Dd (Aa ((decide ((((f % 16) / 2) % 4) < 3))) (fun h4 => ?_) fun h4 => ?_))))
 have dh4 := of_decide_eq_true h4
 refine Ad h4 (Ad h4 (Ec (Ad h4 (Aa ((decide (0 < (((f % 16) / 2) % 4)))) (fun h5 => ?_) fun h5 => ?_))))
 have dh5 := of_decide_eq_true h5
 refine Ab h5 (Ab h5 (Ad h4 (Ef h5 (Ef h4 (Ai rfl ?_)))))
 have e : Fk f = true := by
  simp only [Cw] at h1 h2 h3 h4 h5
  (simp only [Fk, h1, h2, h3, h4, h5, if_true, if_false, zaa]; rfl)
 rw [e]
 have dh5 := of_decide_eq_false h5
 refine Ad h5 (Ad h5 (Dd (Ad h4 (Dq h5 (Ef h4 (Ai rfl ?_))))))
 have e : Fk f = (decide ((f % 16) < 8)) := by
  simp only [Cw] at h1 h2 h3 h4 h5
  (simp only [Fk, h1, h2, h3, h4, h5, if_true, if_false, zaa]; rfl)
 rw [e]
 have dh4 := of_decide_eq_false h4
 refine Ab h4 (Ab h4 (Ab h4 (Dj (Dj (Ab h4 (Dq h4 (Ai rfl ?_)))))))
 have e : Fk f = false := by
  simp only [Cw] at h1 h2 h3 h4
  (simp only [Fk, h1, h2, h3, h4, if_true, if_false, zaa]; rfl)
 rw [e]
 have dh3 := of_decide_eq_false h3
 refine Av h3 (A2 (De (Aa ((decide ((f / 16) = 6))) (fun h6 => ?_) fun h6 => ?_)))
 have dh6 := of_decide_eq_true h6
 refine Aq h6 (Aq h6 (A2 (Ai rfl ?_)))
 have e : Fk f = (decide ((f % 16) = 2)) := by
  simp only [Cw] at h1 h2 h3 h6
  (simp only [Fk, h1, h2, h3, h6, if_true, if_false, zaa]; rfl)
 rw [e]
 have dh6 := of_decide_eq_false h6
 refine Av h6 (A2 (Aa ((decide ((f / 16) = 8))) (fun h7 => ?_) fun h7 => ?_))
 have dh7 := of_decide_eq_true h7
 refine Aq h7 (Aq h7 (A2 (Ai rfl ?_)))
 have e : Fk f = (decide ((f % 16) = 2)) := by
  simp only [Cw] at h1 h2 h3 h6 h7
  (simp only [Fk, h1, h2, h3, h6, h7, if_true, if_false, zaa]; rfl)
 rw [e]
 have dh7 := of_decide_eq_false h7
 refine Av h7 (A2 (Aa ((decide ((f / 16) = 10))) (fun h8 => ?_) fun h8 => ?_))
 have dh8 := of_decide_eq_true h8
 refine Aq h8 (A2 (Ai rfl ?_))
 have e : Fk f = (decide ((f % 16) = 2)) := by
  simp only [Cw] at h1 h2 h3 h6 h7 h8
  (simp only [Fk, h1, h2, h3, h6, h7, h8, if_true, if_false, zaa]; rfl)
 rw [e]
 have dh8 := of_decide_eq_false h8
 refine Av h8 (A2 (Ai rfl ?_))
 have e : Fk f = (decide ((f % 16) = 0)) := by
  simp only [Cw] at h1 h2 h3 h6 h7 h8
  (simp only [Fk, h1, h2, h3, h6, h7, h8, if_true, if_false, zaa]; rfl)
 rw [e]
end
end Go.Proofs.YtlcpigdmekgajaaGreatDoor.Abs
