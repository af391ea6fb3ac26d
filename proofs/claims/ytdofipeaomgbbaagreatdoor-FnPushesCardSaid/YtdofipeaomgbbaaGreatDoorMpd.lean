/- What the proof needs, part 4: a sound evaluator over trees, the program's functions on it, and what they come to. -/
import Derived.Test.YtdofipeaomgbbaaGreatDoorMpc
set_option linter.unusedVariables false
set_option linter.unusedSimpArgs false
set_option maxRecDepth 100000
namespace Go.Proofs.YtdofipeaomgbbaaGreatDoor.Abs
open _root_.Option renaming bind_eq_some_iff → zaa, bind_some → zab, getD_some → za5
open _root_.List renaming getElem?_eq_some_iff → zac, replicate → zad, length_append → zae, getElem?_append_right → zaf, getElem?_append_left → zag, nil_append → zah, append_assoc → zaj, length_singleton → zal, append_nil → zam, length_cons → zao, mem_append_right → zaq, length_nil → zar, mem_append_left → zat, cons_append → zau, mem_cons → zav, mem_cons_of_mem → zax, map_cons → za0, flatten_append → za1, take_length → za3, getElem?_set_ne → za4, drop_zero → za6, mem_cons_self → za7, mem_append → za9, map_append → zaA, replicate_append_replicate → zaB, flatten_cons → zaD, all_eq_true → zaE, length_drop → zaF, nodup_cons → zaH, nodup_append → zaJ, mem_range'_1 → zaK, length_take → zaL, nodup_range' → zaP, take_append_drop → zaR, all_cons → zaT, range' → zaW, drop_of_length_le → zaX, getElem?_set_self → zaY, drop_drop → zbb, length_set → zbh, take_of_length_le → zbi, any_cons → zbt, length_map → zbz, map_nil → zb0, Perm → zb1, nodup_nil → zb3, headD_cons → zb9, drop_left' → zbA, tail_cons → zbC, take_zero → zbF
open _root_.Nat renaming le_refl → zai, zero_add → zaw, le_trans → za2, sub_self → zaI, add_assoc → zaO, min_eq_left → zaQ, add_mul → zaV, add_zero → zaZ, mul_le_mul_right → zbd, zero_le → zbu, one_mul → zbv, add_comm → zbD, succ_mul → zbG
open _root_.Bool renaming false_eq_true → zan, eq_iff_iff → zaM, false_or → zbp
open _root_.Int renaming natCast_zero → zbe, toNat_natCast → zbf
section
open Go
def Ew (a b : Br) : Bool := a.fTopic.toList == b.fTopic.toList && a.fBody.toList == b.fBody.toList && a.fQos == b.fQos && a.fRetain == b.fRetain
theorem Oc (n : Nat) (ty : Nat) (a : Br) (b : Br) : Cy E0 (n + 2) ty 26 [.agg (Ag a), .agg (Ag b)] = some (.sc (.bool (Ew a b))) := by
 rw [Az, AhJ, f26]
 try simp only [Ct, Cf, Bk, A2, A9, A4, C8, C7, Ea, At, Bi, Pr.gT, Pr.gF, Pr.hT, Pr.hF, Pr.kT, Pr.kF, Bz, Bm, C0, Bq, Dv, Cp, B8, Ba, Be, Dj, Cg, Df, Da]
 refine Jv (Ej _) fun iB1 eB1 B1 => Jv (Ej _) fun iB2 eB2 B2 => ?_
 replace B1 := Ir B1 [⟨Ag b, true, true⟩]
 refine Ai (Bo (c := ss a.fTopic) B1 (Bd rfl) rfl (Ai (Bo (c := ss b.fTopic) B2 (Bd rfl) rfl (Av (v := sb (a.fTopic.toList == b.fTopic.toList)) (fun k => rfl) ?_))))
 apply A3 ((a.fTopic.toList == b.fTopic.toList) && (a.fBody.toList == b.fBody.toList))
 intro b3 q3
 refine Ad ((a.fTopic.toList == b.fTopic.toList)) (fun h3 => ?_) fun h3 => ?_
 exact Ao h3 (Ai (Ao h3 (Bo (c := Bj a.fBody) B1 (Bd rfl) rfl (Ao h3 (Ai (Ao h3 (Bo (c := Bj b.fBody) B2 (Bd rfl) rfl (Ao h3 (De rfl (A6 (Ff _ _ _) (A6 (Ff _ _ _) Dl)) (Wd (n + 0) _ a.fBody b.fBody) (Ca h3 (He q3 h3) rfl))))))))))
 exact Ap h3 (Ap h3 (Ap h3 (Ap h3 (Ap h3 (B9 h3 (Hd q3 h3) rfl)))))
 intro b3 q3
 apply A3 (b3 && (a.fQos == b.fQos))
 intro b4 q4
 refine Ad (b3) (fun h4 => ?_) fun h4 => ?_
 exact Ao h4 (Ai (Ao h4 (Bo (c := si a.fQos) B1 (Bd rfl) rfl (Ao h4 (Ai (Ao h4 (Bo (c := si b.fQos) B2 (Bd rfl) rfl (Ao h4 (Av (v := sb (a.fQos == b.fQos)) (fun k => rfl) (Ca h4 (He q4 h4) rfl))))))))))
 exact Ap h4 (Ap h4 (Ap h4 (Ap h4 (Ap h4 (B9 h4 (Hd q4 h4) rfl)))))
 intro b4 q4
 apply A3 (b4 && (a.fRetain == b.fRetain))
 intro b5 q5
 refine Ad (b4) (fun h5 => ?_) fun h5 => ?_
 exact Ao h5 (Ai (Ao h5 (Bo (c := sb a.fRetain) B1 (Bd rfl) rfl (Ao h5 (Ai (Ao h5 (Bo (c := sb b.fRetain) B2 (Bd rfl) rfl (Ao h5 (Kq (v := sb (a.fRetain == b.fRetain)) (fun k => rfl) (Ca h5 (He q5 h5) rfl))))))))))
 exact Ap h5 (Ap h5 (Ap h5 (Ap h5 (Ap h5 (B9 h5 (Hd q5 h5) rfl)))))
 intro b5 q5
 exact Dp (by first | (simp_all [Ge, Ew]; done) | (rw [zaM]; simp [Ge, Ew] at *; omega))
def Na (a b : List Br) : Bool := if a.length = b.length then Hk Ew a b else false
def K6 (l q : List Br) : Bool := if q.length ≤ l.length then Hk Ew (l.drop (l.length - q.length)) q else false
theorem Yl (n : Nat) (hn : 1048576 < n) (ty : Nat) (l q : List Br) (hl : l.length ≤ 1048576) (hq : q.length ≤ 1048576) : Cy E0 (n + 4) ty 127 [Aj Ag l, Aj Ag q, .fn 26 [] []] = some (.sc (.bool (Na l q))) := by
 rw [Az, Af5, f127]
 simp only [Bm, A4, At]
 rw [Mk, Mk, Agt, D4, Na]
 by_cases h : l.length = q.length
 rw [if_neg (by simpa using h), if_pos h]
 have key := Qb (n := n + 3) (tb := 4) (g := 26) Ag Ew (fun x H => A0 An E0.tp ty H x) (fun _ _ _ => rfl) G5 rfl Dw (by decide) Ej rfl (fun m b f a c i H => N6 (PR (n + 3) AV) (n + 3) (fun x H => A0 An E0.tp ty H x) m b f a c i H) (fun m b f a c i H => rfl) l q (fun x y _ _ => Oc (n + 1) _ x y) h hl l q [] [] (n + 3) [] rfl rfl rfl (by omega)
 simp only [zar, zbe] at key
 rw [Mk, key]
 rfl
 rw [if_pos (by simpa using h), if_neg h]
 rfl
theorem Tr (n : Nat) (hn : 1048576 < n) (ty : Nat) (l q : List Br) (hl : l.length ≤ 1048576) (hq : q.length ≤ 1048576) : Cy E0 (n + 5) ty 110 [Aj Ag l, Aj Ag q] = some (.sc (.bool (Na l q))) := by
 rw [Az, Afs, f110]
 refine De rfl (A6 (Ff _ _ _) (A6 (Ff _ _ _) (A6 (fun _ => rfl) Dl))) (Yl n hn _ l q hl hq) ?_
 rfl
theorem AbN (n : Nat) (hn : 1048576 < n) (ty : Nat) (l q : List Br) (hl : l.length ≤ 1048576) (hq : q.length ≤ 1048576) : Cy E0 (n + 6) ty 79 [Aj Ag l, Aj Ag q] = some (.sc (.bool (K6 l q))) := by
 rw [Az, Aiq, f79]
 simp only [Bm, A4, At, Bi, Pr.gT, Pr.gF, Pr.hT, Pr.hF, Pr.kT, Pr.kF, Cp, Bz]
 rw [Mk, Mk, Ue, K6]
 by_cases h : q.length ≤ l.length
 have e : decide ((q.length : Int) ≤ (l.length : Int)) = true := by simpa using h
 have hi : ((l.length : Int) - (q.length : Int)) = ((l.length - q.length : Nat) : Int) := by omega
 rw [if_pos h]
 exact Ao e (Ao e (Ao e (Dh (Ao e (Ao e (Dh (Ao e (Av (v := .sc (.int .i64 ((l.length - q.length : Nat) : Int))) (fun k => by rw [Qr _ _ _ (by omega) (by omega), hi]) (Ao e ((S2 Dw _ _ (by omega) _).trans (Ao e (Ao e (De rfl (A6 (Ff _ _ _) (A6 (Ff _ _ _) Dl)) (Tr n hn _ (l.drop (l.length - q.length)) q (by rw [zaF]; omega) hq) (P2 e (Dp (by rw [Na, if_pos (by rw [zaF]; omega)]))))))))))))))))
 have e : decide ((q.length : Int) ≤ (l.length : Int)) = false := by simpa using h
 rw [if_neg h]
 exact Ap e (Ap e (Ap e (Ap e (Ap e (Ap e (Ap e (Ap e (Ap e (Q0 e (Dp rfl))))))))))
theorem Ae0 {s : ByteArray} (h : s.size ≤ 1048576) : Hz s := za2 h (by decide)
theorem Zy (n : Nat) (hn : 1048576 < n) (ty : Nat) (s : ByteArray) (hs : s.size ≤ 1048576) : Cy E0 (n + 5) ty 92 [.sc (.string s)] = some (.sc (.bool (Fk s))) := by
 rw [Az, Ai0, f92]
 try simp only [Ct, Cf, Bk, A2, A9, A4, C8, C7, Ea, At, Bi, Pr.gT, Pr.gF, Pr.hT, Pr.hF, Pr.kT, Pr.kF, Bz, Bm, C0, Bq, Dv, Cp, B8, Ba, Be, Dj, Cg, Df, Da]
 refine De rfl (A6 (Cv _ _) Dl) (Uz (n + 0) (by omega) _ s) ?_
 apply A3 ((D8 s) && (!(s.toList == (⟨#[]⟩ : ByteArray).toList)))
 intro b1 q1
 refine Ad ((D8 s)) (fun h1 => ?_) fun h1 => ?_
 exact Ao h1 (Ao h1 (Av (v := sb (!(s.toList == (⟨#[]⟩ : ByteArray).toList))) (fun k => rfl) (Ca h1 (He q1 h1) rfl)))
 exact Ap h1 (Ap h1 (B9 h1 (Hd q1 h1) rfl))
 intro b1 q1
 apply A3 (b1 && (!(O2 s 43)))
 intro b2 q2
 refine Ad (b1) (fun h2 => ?_) fun h2 => ?_
 exact Ao h2 (Ao h2 (De rfl (A6 (Cv _ _) (A6 (Cv _ _) Dl)) (Akc (n + 3) (by omega) _ s hs) (Ao h2 (Gg (Ca h2 (He q2 h2) rfl)))))
 exact Ap h2 (Ap h2 (Ap h2 (B9 h2 (Hd q2 h2) rfl)))
 intro b2 q2
 apply A3 (b2 && (!(O2 s 35)))
 intro b3 q3
 refine Ad (b2) (fun h3 => ?_) fun h3 => ?_
 exact Ao h3 (Ao h3 (De rfl (A6 (Cv _ _) (A6 (Cv _ _) Dl)) (Akb (n + 3) (by omega) _ s hs) (Ao h3 (Gg (Ca h3 (He q3 h3) rfl)))))
 exact Ap h3 (Ap h3 (Ap h3 (B9 h3 (Hd q3 h3) rfl)))
 intro b3 q3
 apply A3 (b3 && (decide (((Ei s).length : Int) ≤ 6)))
 intro b4 q4
 refine Ad (b3) (fun h4 => ?_) fun h4 => ?_
 exact Ao h4 (Ao h4 (Aaz rfl (A6 (Cv _ _) Dl) (Xp (n + 3) (by omega) s hs) fun N5 X5 z5 => Ao h4 (AeT (Ao h4 (Av (v := sb (decide (((Ei s).length : Int) ≤ 6))) (fun k => rfl) (Ca h4 (He q4 h4) rfl))))))
 exact Ap h4 (Ap h4 (Ap h4 (Ap h4 (B9 h4 (Hd q4 h4) rfl))))
 intro b4 q4
 exact AeS (by subst_vars; unfold Fk; first | rfl | (unfold vPH; cases D8 s <;> cases O2 s 43 <;> cases O2 s 35 <;> simp))
theorem Ze (n : Nat) (hn : 1048576 < n) (ty : Nat) (s : ByteArray) (hs : s.size ≤ 1048576) : Cy E0 (n + 5) ty 57 [.sc (.string s)] = some (.sc (.bool (Fk s))) := by
 rw [Az, Aia, f57]
 try simp only [Ct, Cf, Bk, A2, A9, A4, C8, C7, Ea, At, Bi, Pr.gT, Pr.gF, Pr.hT, Pr.hF, Pr.kT, Pr.kF, Bz, Bm, C0, Bq, Dv, Cp, B8, Ba, Be, Dj, Cg, Df, Da]
 refine Zk rfl (A6 (Cv _ _) Dl) (Ua _ s (Ae0 hs)) ?_
 apply A3 ((D8 s) && (!(s.toList == (⟨#[]⟩ : ByteArray).toList)))
 intro b1 q1
 refine Ad ((D8 s)) (fun h1 => ?_) fun h1 => ?_
 exact Ao h1 (Ao h1 (Av (v := sb (!(s.toList == (⟨#[]⟩ : ByteArray).toList))) (fun k => rfl) (Ca h1 (He q1 h1) rfl)))
 exact Ap h1 (Ap h1 (B9 h1 (Hd q1 h1) rfl))
 intro b1 q1
 apply A3 (b1 && (!(vPH s)))
 intro b2 q2
 refine Ad (b1) (fun h2 => ?_) fun h2 => ?_
 exact Ao h2 (Ao h2 (Zk rfl (A6 (Cv _ _) (A6 (Cv _ _) Dl)) (AaS _ s hs) (Ao h2 (Gg (Ca h2 (He q2 h2) rfl)))))
 exact Ap h2 (Ap h2 (Ap h2 (B9 h2 (Hd q2 h2) rfl)))
 intro b2 q2
 apply A3 (b2 && (decide (((Ei s).length : Int) ≤ 6)))
 intro b3 q3
 refine Ad (b2) (fun h3 => ?_) fun h3 => ?_
 exact Ao h3 (Ao h3 (Aaz rfl (A6 (Cv _ _) Dl) (Ws (n + 3) s hs) fun N4 X4 z4 => Ao h3 (AeT (Ao h3 (Av (v := sb (decide (((Ei s).length : Int) ≤ 6))) (fun k => rfl) (Ca h3 (He q3 h3) rfl))))))
 exact Ap h3 (Ap h3 (Ap h3 (Ap h3 (B9 h3 (Hd q3 h3) rfl))))
 intro b3 q3
 exact AeS (by subst_vars; unfold Fk; first | rfl | (unfold vPH; cases D8 s <;> cases O2 s 43 <;> cases O2 s 35 <;> simp))
def Dk (m : Br) : Bool := Fk m.fTopic && decide ((m.fBody.size : Int) ≤ 40) && Ge m.fQos 0 2
theorem AiC (n : Nat) (ty : Nat) (x : Int) : Cy E0 (n + 2) ty 56 [.sc (.int .i64 x)] = some (.sc (.bool (Ge x 0 2))) := by
 rw [Az, AhZ, f56]
 try simp only [Ct, Cf, Bk, A2, A9, A4, C8, C7, Ea, At, Bi, Pr.gT, Pr.gF, Pr.hT, Pr.hF, Pr.kT, Pr.kF, Bz, Bm, C0, Bq, Dv, Cp, B8, Ba, Be, Dj, Cg, Df, Da]
 exact De rfl (A6 (Cv _ _) (A6 (Cv _ _) (A6 (Cv _ _) Dl))) (O5 (n + 0) _ x 0 2) (Dp (by first | (simp_all [Ge, Ew, K6, Fk, Dk]; done) | (rw [zaM]; simp [Ge, Ew, K6, Fk, Dk] at *; omega)))
theorem S5 (n : Nat) (hn : 1048576 < n) (ty : Nat) (m : Br) (hs : m.fTopic.size ≤ 1048576) : Cy E0 (n + 6) ty 51 [.agg (Ag m)] = some (.sc (.bool (Dk m))) := by
 rw [Az, AhW, f51]
 try simp only [Ct, Cf, Bk, A2, A9, A4, C8, C7, Ea, At, Bi, Pr.gT, Pr.gF, Pr.hT, Pr.hF, Pr.kT, Pr.kF, Bz, Bm, C0, Bq, Dv, Cp, B8, Ba, Be, Dj, Cg, Df, Da]
 refine Jv (Ej _) fun iB1 eB1 B1 => Ai (Bo (c := ss m.fTopic) B1 (Bd rfl) rfl (De rfl (A6 (Cv _ _) Dl) (Zy (n + 0) (by omega) _ m.fTopic (by assumption)) ?_))
 apply A3 ((Fk m.fTopic) && (decide ((m.fBody.size : Int) ≤ 40)))
 intro b2 q2
 refine Ad ((Fk m.fTopic)) (fun h2 => ?_) fun h2 => ?_
 exact Ao h2 (Ai (Ao h2 (Bo (c := Bj m.fBody) B1 (Bd rfl) rfl (Ao h2 (Dh (Ao h2 (Av (v := sb (decide ((m.fBody.size : Int) ≤ 40))) (fun k => rfl) (Ca h2 (He q2 h2) rfl))))))))
 exact Ap h2 (Ap h2 (Ap h2 (Ap h2 (B9 h2 (Hd q2 h2) rfl))))
 intro b2 q2
 apply A3 (b2 && (Ge m.fQos 0 2))
 intro b3 q3
 refine Ad (b2) (fun h3 => ?_) fun h3 => ?_
 exact Ao h3 (Ai (Ao h3 (Bo (c := si m.fQos) B1 (Bd rfl) rfl (Ao h3 (De rfl (A6 (Cv _ _) (A6 (Cv _ _) (A6 (Cv _ _) Dl))) (Mj (n + 4) _ m.fQos 0 2) (Ca h3 (He q3 h3) rfl))))))
 exact Ap h3 (Ap h3 (Ap h3 (B9 h3 (Hd q3 h3) rfl)))
 intro b3 q3
 exact Dp (by subst_vars; first | rfl | (simp only [Dk]; done) | (simp only [Dk]; ac_rfl))
theorem Rz (n : Nat) (hn : 1048576 < n) (ty : Nat) (m : Br) (hs : m.fTopic.size ≤ 1048576) : Cy E0 (n + 6) ty 46 [.agg (Ag m)] = some (.sc (.bool (Dk m))) := by
 rw [Az, AhR, f46]
 try simp only [Ct, Cf, Bk, A2, A9, A4, C8, C7, Ea, At, Bi, Pr.gT, Pr.gF, Pr.hT, Pr.hF, Pr.kT, Pr.kF, Bz, Bm, C0, Bq, Dv, Cp, B8, Ba, Be, Dj, Cg, Df, Da]
 refine Jv (Ej _) fun iB1 eB1 B1 => Ai (Bo (c := ss m.fTopic) B1 (Bd rfl) rfl (De rfl (A6 (Cv _ _) Dl) (Ze (n + 0) (by omega) _ m.fTopic (by assumption)) ?_))
 apply A3 ((Fk m.fTopic) && (decide ((m.fBody.size : Int) ≤ 40)))
 intro b2 q2
 refine Ad ((Fk m.fTopic)) (fun h2 => ?_) fun h2 => ?_
 exact Ao h2 (Ai (Ao h2 (Bo (c := Bj m.fBody) B1 (Bd rfl) rfl (Ao h2 (Dh (Ao h2 (Av (v := sb (decide ((m.fBody.size : Int) ≤ 40))) (fun k => rfl) (Ca h2 (He q2 h2) rfl))))))))
 exact Ap h2 (Ap h2 (Ap h2 (Ap h2 (B9 h2 (Hd q2 h2) rfl))))
 intro b2 q2
 apply A3 (b2 && (Ge m.fQos 0 2))
 intro b3 q3
 refine Ad (b2) (fun h3 => ?_) fun h3 => ?_
 exact Ao h3 (Ai (Ao h3 (Bo (c := si m.fQos) B1 (Bd rfl) rfl (Ao h3 (De rfl (A6 (Cv _ _) Dl) (AiC (n + 3) _ m.fQos) (Ca h3 (He q3 h3) rfl))))))
 exact Ap h3 (Ap h3 (Ap h3 (B9 h3 (Hd q3 h3) rfl)))
 intro b3 q3
 exact Dp (by subst_vars; first | rfl | (simp only [Dk]; done) | (simp only [Dk]; ac_rfl))
def Ed (l : List Br) : Bool := l.all Dk && decide ((l.length : Int) ≤ 6)
theorem X6 {α : Type} (p : α → Bool) (e : Bool) (go : List α → List α → Bool) (h0 : ∀ pre, go pre [] = e) (h1 : ∀ pre x r, go pre (x :: r) = (p x && go (pre ++ [x]) r)) : ∀ (r pre : List α), go pre r = (r.all p && e)
 | [], pre => by rw [h0]; simp
 | x :: r, pre => by rw [h1, X6 p e go h0 h1 r, zaT, Bool.and_assoc]
def Vl (l : List Br) : List Br → List Br → Bool
 | pre, [] => decide ((l.length : Int) ≤ 6)
 | pre, x :: r => Dk x && Vl l (pre ++ [x]) r
theorem S7 (n : Nat) (hn : 1048576 < n) (ty : Nat) (l : List Br) (hlen : l.length ≤ 1048576) (hsl : ∀ x ∈ l, x.fTopic.size ≤ 1048576) : ∀ (r pre : List Br) (m : Nat) (H : Aa), l = pre ++ r → r.length < m → Ro (PR (n + 6) AV) (n + 6) (fun x H => A0 An E0.tp ty H x) m (Aj Ag l) (.sc (.int .i64 pre.length)) H = some (.sc (.bool (Vl l pre r)))
 | [], pre, m + 1, H, hl, hm => by
  have hlt : decide ((pre.length : Int) < (l.length : Int)) = false := by
   rw [hl]
   simp
  show (PR (n + 6) AV).len _ _ = _
  simp only [Ct, Cf, Bk, A2, A9, A4, C8, C7, Ea, At, Bi, Pr.gT, Pr.gF, Pr.hT, Pr.hF, Pr.kT, Pr.kF, Bz, Bm, C0, Bq, Dv, Cp, B8, Ba, Be, Dj, Cg, Df, Da]
  exact Dh (Av (v := .sc (.bool (decide ((pre.length : Int) < (l.length : Int))))) (fun k => rfl) (E7 hlt (Dh (Av (v := .sc (.bool (decide ((l.length : Int) ≤ 6)))) (fun k => rfl) (Dp (by first | (subst_vars; simp only [Vl]; simp_all; done) | (subst_vars; unfold Vl; simp_all)))))))
 | x :: r, pre, m + 1, H, hl, hm => by
  have hpl : pre.length < l.length := by rw [hl]; simp
  have hlt : decide ((pre.length : Int) < (l.length : Int)) = true := by simpa using hpl
  have hmem : x ∈ l := by rw [hl]; simp
  have hix : IntKind.i64.wrap ((pre.length : Int) + 1) = (((pre ++ [x]).length : Nat) : Int) := by
   rw [Fl _ (by omega) (by omega), zae, zal]
   rfl
  try have hs : x.fTopic.size ≤ 1048576 := hsl x (by assumption)
  show (PR (n + 6) AV).len _ _ = _
  simp only [Ct, Cf, Bk, A2, A9, A4, C8, C7, Ea, At, Bi, Pr.gT, Pr.gF, Pr.hT, Pr.hF, Pr.kT, Pr.kF, Bz, Bm, C0, Bq, Dv, Cp, B8, Ba, Be, Dj, Cg, Df, Da]
  refine Dh (Av (v := sb (decide ((pre.length : Int) < (l.length : Int)))) (fun k => rfl) (Ey hlt (Hi Dw (by decide) hl (Jz (ds := Ag x) (Bd rfl) rfl (De rfl (A6 (E1 _ (Ej _)) Dl) (S5 (n + 0) (by omega) _ x (by assumption)) (Gg (Ad ((Dk x)) (fun h1 => ?_) fun h1 => ?_)))))))
  ·refine E7 (nF h1) (Av (v := si (IntKind.i64.wrap ((pre.length : Int) + 1))) (fun k => rfl) ?_)
   rw [hix]
   refine (S7 n hn ty l hlen hsl r (pre ++ [x]) m _  (by rw [hl]; simp) (by simpa using hm)).trans (congrArg (fun b => some (AV.sc (Value.bool b))) ?_)
   first | (subst_vars; simp only [Vl]; simp_all; done) | (subst_vars; unfold Vl; simp_all)
  ·exact Ey (nT h1) (Dp (by first | (subst_vars; simp only [Vl]; simp_all; done) | (subst_vars; unfold Vl; simp_all)))
def Vk : List Br → List Br → Bool
 | pre, [] => true
 | pre, x :: r => Dk x && Vk (pre ++ [x]) r
theorem R0 (n : Nat) (hn : 1048576 < n) (ty : Nat) (l : List Br) (hlen : l.length ≤ 1048576) (hsl : ∀ x ∈ l, x.fTopic.size ≤ 1048576) : ∀ (r pre : List Br) (m : Nat) (H : Aa), l = pre ++ r → r.length < m → Rs (PR (n + 6) AV) (n + 6) (fun x H => A0 An E0.tp ty H x) m (Aj Ag l) (.sc (.int .i64 (l.length : Int))) (.sc (.int .i64 pre.length)) H = some (.sc (.bool (Vk pre r)))
 | [], pre, m + 1, H, hl, hm => by
  have hlt : decide ((pre.length : Int) < (l.length : Int)) = false := by
   rw [hl]
   simp
  show (PR (n + 6) AV).bin _ _ _ _ = _
  simp only [Ct, Cf, Bk, A2, A9, A4, C8, C7, Ea, At, Bi, Pr.gT, Pr.gF, Pr.hT, Pr.hF, Pr.kT, Pr.kF, Bz, Bm, C0, Bq, Dv, Cp, B8, Ba, Be, Dj, Cg, Df, Da]
  exact Av (v := .sc (.bool (decide ((pre.length : Int) < (l.length : Int))))) (fun k => rfl) (E7 hlt (Dp (by first | (subst_vars; simp only [Vk]; simp_all; done) | (subst_vars; unfold Vk; simp_all))))
 | x :: r, pre, m + 1, H, hl, hm => by
  have hpl : pre.length < l.length := by rw [hl]; simp
  have hlt : decide ((pre.length : Int) < (l.length : Int)) = true := by simpa using hpl
  have hmem : x ∈ l := by rw [hl]; simp
  have hix : IntKind.i64.wrap ((pre.length : Int) + 1) = (((pre ++ [x]).length : Nat) : Int) := by
   rw [Fl _ (by omega) (by omega), zae, zal]
   rfl
  try have hs : x.fTopic.size ≤ 1048576 := hsl x (by assumption)
  show (PR (n + 6) AV).bin _ _ _ _ = _
  simp only [Ct, Cf, Bk, A2, A9, A4, C8, C7, Ea, At, Bi, Pr.gT, Pr.gF, Pr.hT, Pr.hF, Pr.kT, Pr.kF, Bz, Bm, C0, Bq, Dv, Cp, B8, Ba, Be, Dj, Cg, Df, Da]
  refine Av (v := sb (decide ((pre.length : Int) < (l.length : Int)))) (fun k => rfl) (Ey hlt (Hi Dw (by decide) hl (Jz (ds := Ag x) (Bd rfl) rfl (Pm rfl (Dw _) (Lm (Ej _)) fun iB1 B1 => F6 (ds := Ag x) B1 (Bd rfl) rfl (De rfl (A6 (E1 _ (Ej _)) Dl) (Rz (n + 0) (by omega) _ x (by assumption)) (Gg (Ad ((Dk x)) (fun h2 => ?_) fun h2 => ?_)))))))
  ·refine E7 (nF h2) (Av (v := si (IntKind.i64.wrap ((pre.length : Int) + 1))) (fun k => rfl) ?_)
   rw [hix]
   refine (R0 n hn ty l hlen hsl r (pre ++ [x]) m _  (by rw [hl]; simp) (by simpa using hm)).trans (congrArg (fun b => some (AV.sc (Value.bool b))) ?_)
   first | (subst_vars; simp only [Vk]; simp_all; done) | (subst_vars; unfold Vk; simp_all)
  ·exact Ey (nT h2) (Dp (by first | (subst_vars; simp only [Vk]; simp_all; done) | (subst_vars; unfold Vk; simp_all)))
theorem S8 (n : Nat) (hn : 1048576 < n) (ty : Nat) (l : List Br) (hlen : l.length ≤ 1048576) (hsl : ∀ x ∈ l, x.fTopic.size ≤ 1048576) : Cy E0 (n + 7) ty 53 [Aj Ag l] = some (.sc (.bool (Ed l))) := by
 rw [Az, AhY, f53]
 have key := S7 n hn ty l hlen hsl l [] (n + 6) [] rfl (by omega)
 rw [X6 Dk (decide ((l.length : Int) ≤ 6)) (Vl l) (fun _ => rfl) (fun _ _ _ => rfl) l []] at key
 exact key
theorem AbO (n : Nat) (hn : 1048576 < n) (ty : Nat) (l : List Br) (hlen : l.length ≤ 1048576) (hsl : ∀ x ∈ l, x.fTopic.size ≤ 1048576) : Cy E0 (n + 7) ty 91 [Aj Ag l] = some (.sc (.bool (l.all Dk))) := by
 rw [Az, Aiz, f91]
 simp only [Bm]
 refine Dh ?_
 have key := R0 n hn ty l hlen hsl l [] (n + 6) [] rfl (by omega)
 rw [X6 Dk true Vk (fun _ => rfl) (fun _ _ _ => rfl) l [], Bool.and_true] at key
 exact key
theorem R2 (n : Nat) (hn : 1048576 < n) (ty : Nat) (l : List Br) (hlen : l.length ≤ 1048576) (hsl : ∀ x ∈ l, x.fTopic.size ≤ 1048576) : Cy E0 (n + 8) ty 49 [Aj Ag l] = some (.sc (.bool (Ed l))) := by
 rw [Az, AhU, f49]
 try simp only [Ct, Cf, Bk, A2, A9, A4, C8, C7, Ea, At, Bi, Pr.gT, Pr.gF, Pr.hT, Pr.hF, Pr.kT, Pr.kF, Bz, Bm, C0, Bq, Dv, Cp, B8, Ba, Be, Dj, Cg, Df, Da]
 refine Dh (Av (v := sb (decide ((l.length : Int) ≤ 6))) (fun k => rfl) ?_)
 apply A3 ((decide ((l.length : Int) ≤ 6)) && (l.all Dk))
 intro b1 q1
 refine Ad ((decide ((l.length : Int) ≤ 6))) (fun h1 => ?_) fun h1 => ?_
 exact Ao h1 (Ao h1 (De rfl (A6 (Ff _ _ _) Dl) (AbO (n + 0) (by omega) _ l (by assumption) (by assumption)) (Ca h1 (He q1 h1) rfl)))
 exact Ap h1 (Ap h1 (B9 h1 (Hd q1 h1) rfl))
 intro b1 q1
 exact Dp (by subst_vars; unfold Ed; rw [Bool.and_comm])
theorem Pu (l : List Br) (b0 : Fp Bc l ≤ 1048576) : l.length ≤ 1048576 ∧ ∀ x ∈ l, x.fTopic.size ≤ 1048576 := by
 have h1 := Ks Bc l
 refine ⟨by omega, fun x hx => ?_⟩
 have h2 := O6 (wt := Bc) hx
 have h3 : Bc x = x.fTopic.size + (x.fBody.size + 0) := rfl
 omega
def Xy (x : Ah) : Bool := if x.fM.fQos == 1 then x.fSt == 1 else (x.fM.fQos == 2 && (x.fSt == 2 || x.fSt == 3))
theorem AiD (n : Nat) (ty : Nat) (x : Ah) : Cy E0 (n + 1) ty 52 [.agg (Aq x)] = some (.sc (.bool (Xy x))) := by
 rw [Az, AhX, f52]
 try simp only [Ct, Cf, Bk, A2, A9, A4, C8, C7, Ea, At, Bi, Pr.gT, Pr.gF, Pr.hT, Pr.hF, Pr.kT, Pr.kF, Bz, Bm, C0, Bq, Dv, Cp, B8, Ba, Be, Dj, Cg, Df, Da]
 refine Jv (Fg _) fun iB1 eB1 B1 => Ai (Ai (Bo (c := si x.fM.fQos) B1 (Bd rfl) rfl (Av (v := sb (x.fM.fQos == 1)) (fun k => rfl) (Ad ((x.fM.fQos == 1)) (fun h2 => ?_) fun h2 => ?_))))
 exact Ey h2 (Ai (Bo (c := .sc (.int .i64 x.fSt)) B1 (Bd rfl) rfl (Av (v := .sc (.bool (x.fSt == 1))) (fun k => rfl) (Dp (by subst_vars; unfold Xy; simp_all)))))
 refine E7 h2 (Ai (Ai (Bo (c := si x.fM.fQos) B1 (Bd rfl) rfl (Av (v := sb (x.fM.fQos == 2)) (fun k => rfl) ?_))))
 apply A3 ((x.fM.fQos == 2) && ((x.fSt == 2) || (x.fSt == 3)))
 intro b3 q3
 refine Ad ((x.fM.fQos == 2)) (fun h3 => ?_) fun h3 => ?_
 refine Ao h3 (Ai (Ao h3 (Bo (c := si x.fSt) B1 (Bd rfl) rfl (Ao h3 (Av (v := sb (x.fSt == 2)) (fun k => rfl) (Ao h3 ?_))))))
 apply A3 ((x.fSt == 2) || (x.fSt == 3))
 intro b4 q4
 refine Ad ((x.fSt == 2)) (fun h4 => ?_) fun h4 => ?_
 exact C5 h4 (C5 h4 (C5 h4 (Ao h3 (Ca h4 (mOT q4 h4) rfl))))
 exact Cz h4 (Ai (Cz h4 (Bo (c := si x.fSt) B1 (Bd rfl) rfl (Cz h4 (Av (v := sb (x.fSt == 3)) (fun k => rfl) (Ao h3 (B9 h4 (mOF q4 h4) rfl)))))))
 intro b4 q4
 exact Ca h3 (by subst q4; exact He q3 h3) rfl
 exact Ap h3 (Ap h3 (Ap h3 (Ap h3 (P3 (P3 (P3 (Ap h3 (B9 h3 (Hd q3 h3) rfl))))))))
 intro b3 q3
 exact Dp (by subst_vars; unfold Xy; simp_all)
theorem Ahh (n : Nat) (ty : Nat) (x : Int) : Cy E0 (n + 2) ty 44 [.sc (.int .i64 x)] = some (.sc (.bool (Ge x 1 65535))) := by
 rw [Az, AhP, f44]
 try simp only [Ct, Cf, Bk, A2, A9, A4, C8, C7, Ea, At, Bi, Pr.gT, Pr.gF, Pr.hT, Pr.hF, Pr.kT, Pr.kF, Bz, Bm, C0, Bq, Dv, Cp, B8, Ba, Be, Dj, Cg, Df, Da]
 exact De rfl (A6 (Cv _ _) (A6 (Cv _ _) (A6 (Cv _ _) Dl))) (O5 (n + 0) _ x 1 65535) (Dp (by first | (simp_all [Ge, Ew, K6, Fk, Dk, Ed, Xy]; done) | (rw [zaM]; simp [Ge, Ew, K6, Fk, Dk, Ed, Xy] at *; omega)))
theorem Agh (n : Nat) (ty : Nat) (x : Int) : Cy E0 (n + 2) ty 48 [.sc (.int .i64 x)] = some (.sc (.bool (Ge x 0 65535))) := by
 rw [Az, AhT, f48]
 try simp only [Ct, Cf, Bk, A2, A9, A4, C8, C7, Ea, At, Bi, Pr.gT, Pr.gF, Pr.hT, Pr.hF, Pr.kT, Pr.kF, Bz, Bm, C0, Bq, Dv, Cp, B8, Ba, Be, Dj, Cg, Df, Da]
 exact De rfl (A6 (Cv _ _) (A6 (Cv _ _) (A6 (Cv _ _) Dl))) (O5 (n + 0) _ x 0 65535) (Dp (by first | (simp_all [Ge, Ew, K6, Fk, Dk, Ed, Xy]; done) | (rw [zaM]; simp [Ge, Ew, K6, Fk, Dk, Ed, Xy] at *; omega)))
def I9 (pre : List Ah) (x : Ah) : Bool := pre.any fun y => y.fId == x.fId
def AdZ : List Ah → List Ah → Bool
 | pre, [] => true
 | pre, x :: r => (Ge x.fId 1 65535 && Dk x.fM && Xy x && !(I9 pre x)) && AdZ (pre ++ [x]) r
def F5 (o : Bs) : Bool := AdZ [] o.fFl && (Ge o.fLast 0 65535 && decide ((o.fFl.length : Int) ≤ 3) && Ed o.fQ)
theorem Vf (o : Bs) (b0 : D6 o ≤ 1048576) : (o.fFl.length ≤ 1048576 ∧ ∀ x ∈ o.fFl, x.fM.fTopic.size ≤ 1048576) ∧ (o.fQ.length ≤ 1048576 ∧ ∀ x ∈ o.fQ, x.fTopic.size ≤ 1048576) := by
 have e : D6 o = Fp Au o.fFl + (Fp Bc o.fQ + 0) := rfl
 refine ⟨?_, Pu _ (by omega)⟩
 have h1 := Ks Au o.fFl
 refine ⟨by omega, fun x hx => ?_⟩
 have h2 := O6 (wt := Au) hx
 have h3 : Au x = x.fM.fTopic.size + (x.fM.fBody.size + 0) + 0 := rfl
 omega
theorem Uy (n : Nat) (ty : Nat) (o : Bs) (hlen : o.fFl.length ≤ 1048576) (x : Ah) (g0 : AV → AV → Aa → Option AV) (kk : AV → Aa → Option AV) (i1 : Nat) (H : Aa) (B : H[i1]? = some ⟨A5 o, true, true⟩) (pre r : List Ah) (hl : o.fFl = pre ++ x :: r) : ∀ (s p2 : List Ah) (m : Nat), pre = p2 ++ s → s.length < m →
  Rl (PR n AV) n g0 kk m (.ptr i1 0) (si pre.length) (si p2.length) H = if I9 s x then kk bF H else g0 (.ptr i1 0) (si (IntKind.i64.wrap ((pre.length : Int) + 1))) H
 | [], p2, m + 1, he, hm => by
  rw [zam] at he
  subst he
  show (PR n AV).bin _ _ _ _ = _
  simp only [A4, At, Bk, A2, Bq]
  rw [Eb, D4, if_neg (by simp)]
  rfl
 | y :: s, p2, m + 1, he, hm => by
  have hlt : p2.length < pre.length := by rw [he]; simp
  have hpl : pre.length < o.fFl.length := by rw [hl]; simp
  show (PR n AV).bin _ _ _ _ = _
  simp only [A4, At, Bk, A2, Bq]
  rw [Eb, D4, if_pos (by simpa using hlt)]
  refine Ai (Bo (c := Aj Aq o.fFl) B (Bd rfl) rfl (Hi (pre := p2) (x := y) (t := s ++ x :: r) Bf (by decide) (by rw [hl, he]; simp) (Hs (Hj (c := .sc (.int .i64 y.fId)) rfl (Ai (Bo (c := Aj Aq o.fFl) B (Bd rfl) rfl (Hi (pre := pre) (x := x) (t := r) Bf (by decide) hl (Hs (Hj (c := .sc (.int .i64 x.fId)) rfl (Av (v := .sc (.bool (y.fId == x.fId))) (fun k => rfl) ?_))))))))))
  have ih := Uy n ty o hlen x g0 kk i1 H B pre r hl s (p2 ++ [y]) m (by rw [he]; simp) (by simpa using hm)
  rw [zae, zal] at ih
  have hany : I9 (y :: s) x = (y.fId == x.fId || I9 s x) := rfl
  rw [hany]
  cases hid : (y.fId == x.fId)
  refine E7 rfl ?_
  rw [Fc _ _ (by omega), ih]
  rfl
  exact Ey rfl rfl
theorem Aax (p : Ah → Bool) : ∀ (pre r : List Ah) (x : Ah) (i : Nat), p x = true → Ja p (pre ++ x :: r) i = if pre.any p then Ja p pre i else ((i + pre.length : Nat) : Int)
 | [], r, x, i, h => by simp [Ja, h]
 | y :: pre, r, x, i, h => by
  rw [zau, Ja, Aax p pre r x (i + 1) h, Ja, zbt]
  cases hy : p y
  simp only [zan, if_false, zbp, zao]
  rw [show i + 1 + pre.length = i + (pre.length + 1) by omega]
  simp
theorem Aei (p : Ah → Bool) : ∀ (pre : List Ah) (i : Nat), pre.any p = true → Ja p pre i < ((i + pre.length : Nat) : Int)
 | [], i, h => by simp at h
 | y :: pre, i, h => by
  rw [Ja]
  cases hy : p y
  rw [zbt, hy, zbp] at h
  have := Aei p pre (i + 1) h
  simp only [zan, if_false, zao]
  omega
  simp only [if_true, zao]
  omega
theorem Aej (o : Bs) (pre r : List Ah) (x : Ah) (hl : o.fFl = pre ++ x :: r) : (Ja (fun y : Ah => y.fId == x.fId) o.fFl 0 != (pre.length : Int)) = I9 pre x := by
 rw [hl, Aax _ pre r x 0 (by simp)]
 unfold I9
 cases h : pre.any fun y => y.fId == x.fId
 simp
 have := Aei _ pre 0 h
 simp only [if_true]
 rw [bne_iff_ne.2]
 simp at this
 omega
theorem AbL (n : Nat) (ty : Nat) (x : Ah) (z : Int) : Cy E0 (n + 1) ty 90 [.agg (Aq x), .rp [.sc (.int .i64 z)]] = some (.sc (.bool (x.fId == z))) := by
 rw [Az, Aiy, f90]
 simp only [Ct, Bk, A2, A4]
 refine Jv (Fg _) fun i e hi => Ai (Bo (c := si x.fId) hi (Bd rfl) rfl (Hj (c := si z) rfl ?_))
 rw [Ac6]
 rfl
theorem Vg (n : Nat) (hn : 1048576 < n) (ty : Nat) (l : List Ah) (z : Int) (hl : l.length ≤ 1048576) : Cy E0 (n + 2) ty 89 [Aj Aq l, .fn 90 [] [.rp [.sc (.int .i64 z)]]] = some (.sc (.int .i64 (Ja (fun y : Ah => y.fId == z) l 0))) := by
 rw [Az, Aix, f89]
 simp only [Bm]
 rw [Mk]
 have key := R3 (n := n + 1) (tb := 4) (g := 90) (caps := [.rp [si z]]) Aq (fun y : Ah => y.fId == z) (fun x H => A0 An E0.tp ty H x) Bf (by decide) Fg rfl (fun H => rfl) (fun m a b c i H => Rr (PR (n + 1) AV) (n + 1) (fun x H => A0 An E0.tp ty H x) m a b c i H) (fun m a b c i H => rfl) l (fun x _ => AbL n _ x z) hl [] l [] (n + 1) rfl (by omega)
 simp only [zar, zbe] at key
 rw [key]
 rfl
theorem AbK (n : Nat) (hn : 1048576 < n) (ty : Nat) (l : List Ah) (z : Int) (hl : l.length ≤ 1048576) : Cy E0 (n + 3) ty 45 [Aj Aq l, .sc (.int .i64 z)] = some (.sc (.int .i64 (Ja (fun y : Ah => y.fId == z) l 0))) := by
 rw [Az, AhQ, f45]
 simp only [Ct]
 refine AiS rfl fun i2 e2 hi2 => De rfl (A6 (Ff _ _ _) (A6 (Ahr hi2 rfl) Dl)) (Vg n hn _ l z hl) ?_
 rfl
theorem AgF (x : Ah) (hv : Dk x.fM = true) : Xy x = !((x.fM.fQos == 0) || (!((x.fM.fQos == 1) == (x.fSt == 1)) || !(Ge x.fSt 1 3))) := by
 have hq : 0 ≤ x.fM.fQos ∧ x.fM.fQos ≤ 2 := by
  unfold Dk Ge at hv
  simp at hv
  exact hv.2
 unfold Xy Ge
 obtain h | h | h : x.fM.fQos = 0 ∨ x.fM.fQos = 1 ∨ x.fM.fQos = 2 := by omega
 simp [h]
 rw [h, zaM]
 simp
 intro h1
 omega
 rw [h, zaM]
 simp
 omega
def Ob (o : Bs) : List Ah → List Ah → Bool
 | pre, [] => Ge o.fLast 0 65535 && decide ((o.fFl.length : Int) ≤ 3) && Ed o.fQ
 | pre, x :: r => (Ge x.fId 1 65535 && Dk x.fM && Xy x && !(I9 pre x)) && Ob o (pre ++ [x]) r
theorem Qp (n : Nat) (hn : 1048576 < n) (ty : Nat) (o : Bs) (hlen : o.fFl.length ≤ 1048576) (hsl : ∀ x ∈ o.fFl, x.fM.fTopic.size ≤ 1048576) (hqn : o.fQ.length ≤ 1048576) (hqs : ∀ x ∈ o.fQ, x.fTopic.size ≤ 1048576) (i1 : Nat) : ∀ (r pre : List Ah) (m : Nat) (H : Aa) (B : H[i1]? = some ⟨A5 o, true, true⟩), o.fFl = pre ++ r → r.length < m → Nm (PR (n + 8) AV) (n + 8) (fun x H => A0 An E0.tp ty H x) m (.ptr i1 0) (.sc (.int .i64 pre.length)) H = some (.sc (.bool (Ob o pre r)))
 | [], pre, m + 1, H, B, hl, hm => by
  have hlt : decide ((pre.length : Int) < (o.fFl.length : Int)) = false := by
   rw [hl]
   simp
  show (PR (n + 8) AV).fadr _ _ _ = _
  simp only [Ct, Cf, Bk, A2, A9, A4, C8, C7, Ea, At, Bi, Pr.gT, Pr.gF, Pr.hT, Pr.hF, Pr.kT, Pr.kF, Bz, Bm, C0, Bq, Dv, Cp, B8, Ba, Be, Dj, Cg, Df, Da]
  refine Ai (Bo (c := Aj Aq o.fFl) B (Bd rfl) rfl (Dh (Av (v := sb (decide ((pre.length : Int) < (o.fFl.length : Int)))) (fun k => rfl) (E7 hlt (Ai (Bo (c := si o.fLast) B (Bd rfl) rfl (De rfl (A6 (Cv _ _) (A6 (Cv _ _) (A6 (Cv _ _) Dl))) (Mj (n + 7) _ o.fLast 0 65535) ?_)))))))
  apply A3 ((Ge o.fLast 0 65535) && (decide ((o.fFl.length : Int) ≤ 3)))
  intro b1 q1
  refine Ad ((Ge o.fLast 0 65535)) (fun h1 => ?_) fun h1 => ?_
  exact Ao h1 (Ai (Ao h1 (Bo (c := Aj Aq o.fFl) B (Bd rfl) rfl (Ao h1 (Dh (Ao h1 (Av (v := sb (decide ((o.fFl.length : Int) ≤ 3))) (fun k => rfl) (Ca h1 (He q1 h1) rfl))))))))
  exact Ap h1 (Ap h1 (Ap h1 (Ap h1 (B9 h1 (Hd q1 h1) rfl))))
  intro b1 q1
  apply A3 (b1 && (Ed o.fQ))
  intro b2 q2
  refine Ad (b1) (fun h2 => ?_) fun h2 => ?_
  exact Ao h2 (Ai (Ao h2 (Bo (c := Aj Ag o.fQ) B (Bd rfl) rfl (Ao h2 (De rfl (A6 (Ff _ _ _) Dl) (S8 (n + 1) (by omega) _ o.fQ (by assumption) (by assumption)) (Ca h2 (He q2 h2) rfl))))))
  exact Ap h2 (Ap h2 (Ap h2 (B9 h2 (Hd q2 h2) rfl)))
  intro b2 q2
  exact Dp (by (try clear ih); (try clear hlt); (try clear hix); (try clear hm); (try clear hmem); (try clear hpl); (try clear hsl); (try clear hlen); (try clear hqn); (try clear hqs); (try clear hs); (try clear B); (try clear B1); (try clear B2); (try clear hl); subst_vars; rw [Ob]; first | done | (cases h1 : Ge x.fId 1 65535 <;> cases h2 : Dk x.fM <;> cases h3 : Xy x <;> cases h4 : I9 pre x <;> simp [h1, h2, h3, h4] at *))
 | x :: r, pre, m + 1, H, B, hl, hm => by
  have hpl : pre.length < o.fFl.length := by rw [hl]; simp
  have hlt : decide ((pre.length : Int) < (o.fFl.length : Int)) = true := by simpa using hpl
  have hmem : x ∈ o.fFl := by rw [hl]; simp
  have hix : IntKind.i64.wrap ((pre.length : Int) + 1) = (((pre ++ [x]).length : Nat) : Int) := by
   rw [Fl _ (by omega) (by omega), zae, zal]
   rfl
  try have hs : x.fM.fTopic.size ≤ 1048576 := hsl x (by assumption)
  show (PR (n + 8) AV).fadr _ _ _ = _
  simp only [Ct, Cf, Bk, A2, A9, A4, C8, C7, Ea, At, Bi, Pr.gT, Pr.gF, Pr.hT, Pr.hF, Pr.kT, Pr.kF, Bz, Bm, C0, Bq, Dv, Cp, B8, Ba, Be, Dj, Cg, Df, Da]
  refine Ai (Bo (c := Aj Aq o.fFl) B (Bd rfl) rfl (Dh (Av (v := sb (decide ((pre.length : Int) < (o.fFl.length : Int)))) (fun k => rfl) (Ey hlt (Ai (Bo (c := Aj Aq o.fFl) B (Bd rfl) rfl (Hi Bf (by decide) hl (Hs (Hj (c := si x.fId) rfl (De rfl (A6 (Cv _ _) (A6 (Cv _ _) (A6 (Cv _ _) Dl))) (Mj (n + 7) _ x.fId 1 65535) (Gg ?_)))))))))))
  apply A3 ((!(Ge x.fId 1 65535)) || (!(Dk x.fM)))
  intro b1 q1
  refine Ad ((Ge x.fId 1 65535)) (fun h1 => ?_) fun h1 => ?_
  exact Cz (nF h1) (Ai (Cz (nF h1) (Bo (c := Aj Aq o.fFl) B (Bd rfl) rfl (Cz (nF h1) (Cz (nF h1) (Hi Bf (by decide) hl (Cz (nF h1) (Hs (Cz (nF h1) (Jz (ds := Ag x.fM) (Bd rfl) rfl (Cz (nF h1) (De rfl (A6 (E1 _ (Ej _)) Dl) (S5 (n + 2) (by omega) _ x.fM (by assumption)) (Cz (nF h1) (Gg (B9 (nF h1) (mOF q1 (nF h1)) rfl)))))))))))))))
  exact C5 (nT h1) (C5 (nT h1) (C5 (nT h1) (C5 (nT h1) (C5 (nT h1) (C5 (nT h1) (C5 (nT h1) (C5 (nT h1) (Ca (nT h1) (mOT q1 (nT h1)) rfl))))))))
  intro b1 q1
  apply A3 (b1 || (!(Xy x)))
  intro b2 q2
  refine Ad (b1) (fun h2 => ?_) fun h2 => ?_
  exact C5 h2 (C5 h2 (C5 h2 (C5 h2 (C5 h2 (C5 h2 (C5 h2 (Ca h2 (mOT q2 h2) rfl)))))))
  exact Cz h2 (Ai (Cz h2 (Bo (c := Aj Aq o.fFl) B (Bd rfl) rfl (Cz h2 (Cz h2 (Hi Bf (by decide) hl (Cz h2 (Jz (ds := Aq x) (Bd rfl) rfl (Cz h2 (De rfl (A6 (E1 _ (Fg _)) Dl) (AiD (n + 7) _ x) (Cz h2 (Gg (B9 h2 (mOF q2 h2) rfl)))))))))))))
  intro b2 q2
  refine Ad (b2) (fun h3 => ?_) fun h3 => ?_
  ·exact Ey h3 (Dp (by (try clear ih); (try clear hlt); (try clear hix); (try clear hm); (try clear hmem); (try clear hpl); (try clear hsl); (try clear hlen); (try clear hqn); (try clear hqs); (try clear hs); (try clear B); (try clear B1); (try clear B2); (try clear hl); subst_vars; rw [Ob]; first | done | (cases h1 : Ge x.fId 1 65535 <;> cases h2 : Dk x.fM <;> cases h3 : Xy x <;> cases h4 : I9 pre x <;> simp [h1, h2, h3, h4] at *)))
  refine E7 h3 ?_
  have key := fun g0 kk => Uy (n + 8) ty o hlen x g0 kk i1 H B pre r hl pre [] (n + 8) rfl (by omega)
  simp only [zar, zbe] at key
  rw [key]
  clear key
  cases hpre : I9 pre x
  ·simp only [zan, if_false]
   rw [hix]
   refine (Qp n hn ty o hlen hsl hqn hqs i1 r (pre ++ [x]) m _ B (by rw [hl]; simp) (by simpa using hm)).trans (congrArg (fun b => some (AV.sc (Value.bool b))) ?_)
   (try clear ih); (try clear hlt); (try clear hix); (try clear hm); (try clear hmem); (try clear hpl); (try clear hsl); (try clear hlen); (try clear hqn); (try clear hqs); (try clear hs); (try clear B); (try clear B1); (try clear B2); (try clear hl); subst_vars; rw [Ob]; first | done | (cases h1 : Ge x.fId 1 65535 <;> cases h2 : Dk x.fM <;> cases h3 : Xy x <;> cases h4 : I9 pre x <;> simp [h1, h2, h3, h4] at *)
  ·simp only [if_true]
   exact Dp (by (try clear ih); (try clear hlt); (try clear hix); (try clear hm); (try clear hmem); (try clear hpl); (try clear hsl); (try clear hlen); (try clear hqn); (try clear hqs); (try clear hs); (try clear B); (try clear B1); (try clear B2); (try clear hl); subst_vars; rw [Ob]; first | done | (cases h1 : Ge x.fId 1 65535 <;> cases h2 : Dk x.fM <;> cases h3 : Xy x <;> cases h4 : I9 pre x <;> simp [h1, h2, h3, h4] at *))
theorem Qd (n : Nat) (hn : 1048576 < n) (ty : Nat) (o : Bs) (hlen : o.fFl.length ≤ 1048576) (hsl : ∀ x ∈ o.fFl, x.fM.fTopic.size ≤ 1048576) (hqn : o.fQ.length ≤ 1048576) (hqs : ∀ x ∈ o.fQ, x.fTopic.size ≤ 1048576) (i1 : Nat) : ∀ (r pre : List Ah) (m : Nat) (H : Aa) (B : H[i1]? = some ⟨A5 o, true, true⟩), o.fFl = pre ++ r → r.length < m → Rk (PR (n + 9) AV) (n + 9) (fun x H => A0 An E0.tp ty H x) m (.ptr i1 0) (Aj Aq o.fFl) (.sc (.int .i64 (o.fFl.length : Int))) (.sc (.int .i64 pre.length)) H = some (.sc (.bool (Ob o pre r)))
 | [], pre, m + 1, H, B, hl, hm => by
  have hlt : decide ((pre.length : Int) < (o.fFl.length : Int)) = false := by
   rw [hl]
   simp
  show (PR (n + 9) AV).bin _ _ _ _ = _
  simp only [Ct, Cf, Bk, A2, A9, A4, C8, C7, Ea, At, Bi, Pr.gT, Pr.gF, Pr.hT, Pr.hF, Pr.kT, Pr.kF, Bz, Bm, C0, Bq, Dv, Cp, B8, Ba, Be, Dj, Cg, Df, Da]
  refine Av (v := sb (decide ((pre.length : Int) < (o.fFl.length : Int)))) (fun k => rfl) (E7 hlt (Ai (Bo (c := si o.fLast) B (Bd rfl) rfl (De rfl (A6 (Cv _ _) Dl) (Agh (n + 7) _ o.fLast) ?_))))
  apply A3 ((Ge o.fLast 0 65535) && (decide ((o.fFl.length : Int) ≤ 3)))
  intro b1 q1
  refine Ad ((Ge o.fLast 0 65535)) (fun h1 => ?_) fun h1 => ?_
  exact Ao h1 (Ai (Ao h1 (Bo (c := Aj Aq o.fFl) B (Bd rfl) rfl (Ao h1 (Dh (Ao h1 (Av (v := sb (decide ((o.fFl.length : Int) ≤ 3))) (fun k => rfl) (Ca h1 (He q1 h1) rfl))))))))
  exact Ap h1 (Ap h1 (Ap h1 (Ap h1 (B9 h1 (Hd q1 h1) rfl))))
  intro b1 q1
  apply A3 (b1 && (Ed o.fQ))
  intro b2 q2
  refine Ad (b1) (fun h2 => ?_) fun h2 => ?_
  exact Ao h2 (Ai (Ao h2 (Bo (c := Aj Ag o.fQ) B (Bd rfl) rfl (Ao h2 (De rfl (A6 (Ff _ _ _) Dl) (R2 (n + 1) (by omega) _ o.fQ (by assumption) (by assumption)) (Ca h2 (He q2 h2) rfl))))))
  exact Ap h2 (Ap h2 (Ap h2 (B9 h2 (Hd q2 h2) rfl)))
  intro b2 q2
  exact Dp (by (try clear ih); (try clear hlt); (try clear hix); (try clear hm); (try clear hmem); (try clear hpl); (try clear hsl); (try clear hlen); (try clear hqn); (try clear hqs); (try clear hs); (try clear B); (try clear B1); (try clear B2); (try clear hl); subst_vars; rw [Ob]; first | done | (cases h2 : Dk x.fM <;> (try rw [AgF x h2]) <;> cases h1 : Ge x.fId 1 65535 <;> cases h4 : I9 pre x <;> cases h5 : (x.fM.fQos == 0) <;> cases h6 : ((x.fM.fQos == 1) == (x.fSt == 1)) <;> cases h7 : Ge x.fSt 1 3 <;> simp [h1, h2, h4, h5, h6, h7] at * <;> contradiction))
 | x :: r, pre, m + 1, H, B, hl, hm => by
  have hpl : pre.length < o.fFl.length := by rw [hl]; simp
  have hlt : decide ((pre.length : Int) < (o.fFl.length : Int)) = true := by simpa using hpl
  have hmem : x ∈ o.fFl := by rw [hl]; simp
  have hix : IntKind.i64.wrap ((pre.length : Int) + 1) = (((pre ++ [x]).length : Nat) : Int) := by
   rw [Fl _ (by omega) (by omega), zae, zal]
   rfl
  try have hs : x.fM.fTopic.size ≤ 1048576 := hsl x (by assumption)
  try have hidx := Aej o pre r x hl
  show (PR (n + 9) AV).bin _ _ _ _ = _
  simp only [Ct, Cf, Bk, A2, A9, A4, C8, C7, Ea, At, Bi, Pr.gT, Pr.gF, Pr.hT, Pr.hF, Pr.kT, Pr.kF, Bz, Bm, C0, Bq, Dv, Cp, B8, Ba, Be, Dj, Cg, Df, Da]
  refine Av (v := sb (decide ((pre.length : Int) < (o.fFl.length : Int)))) (fun k => rfl) (Ey hlt (Hi Bf (by decide) hl (Jz (ds := Aq x) (Bd rfl) rfl (Pm rfl (Bf _) (Lm (Fg _)) fun iB1 B1 => ?_))))
  replace B := Ir B [⟨Aq x, true, true⟩]
  refine Ai (Bo (c := si x.fId) B1 (Bd rfl) rfl (De rfl (A6 (Cv _ _) Dl) (Ahh (n + 7) _ x.fId) (Gg ?_)))
  apply A3 ((!(Ge x.fId 1 65535)) || ((Ja (fun y : Ah => y.fId == x.fId) o.fFl 0) != (pre.length : Int)))
  intro b2 q2
  refine Ad ((Ge x.fId 1 65535)) (fun h2 => ?_) fun h2 => ?_
  exact Cz (nF h2) (Ai (Cz (nF h2) (Bo (c := Aj Aq o.fFl) B (Bd rfl) rfl (Cz (nF h2) (Ai (Cz (nF h2) (Bo (c := si x.fId) B1 (Bd rfl) rfl (Cz (nF h2) (De rfl (A6 (Ff _ _ _) (A6 (Cv _ _) Dl)) (AbK (n + 6) (by omega) _ o.fFl x.fId hlen) (Cz (nF h2) (Cz (nF h2) (Av (v := sb ((Ja (fun y : Ah => y.fId == x.fId) o.fFl 0) != (pre.length : Int))) (fun k => rfl) (B9 (nF h2) (mOF q2 (nF h2)) rfl)))))))))))))
  exact C5 (nT h2) (C5 (nT h2) (C5 (nT h2) (C5 (nT h2) (C5 (nT h2) (C5 (nT h2) (C5 (nT h2) (Ca (nT h2) (mOT q2 (nT h2)) rfl)))))))
  intro b2 q2
  apply A3 (b2 || (!(Dk x.fM)))
  intro b3 q3
  refine Ad (b2) (fun h3 => ?_) fun h3 => ?_
  exact C5 h3 (C5 h3 (C5 h3 (C5 h3 (Ca h3 (mOT q3 h3) rfl))))
  exact Cz h3 (Ai (Cz h3 (F6 (ds := Ag x.fM) B1 (Bd rfl) rfl (Cz h3 (De rfl (A6 (E1 _ (Ej _)) Dl) (Rz (n + 3) (by omega) _ x.fM (by assumption)) (Cz h3 (Gg (B9 h3 (mOF q3 h3) rfl))))))))
  intro b3 q3
  refine Ad (b3) (fun h4 => ?_) fun h4 => ?_
  ·exact Ey h4 (Dp (by (try clear ih); (try clear hlt); (try clear hix); (try clear hm); (try clear hmem); (try clear hpl); (try clear hsl); (try clear hlen); (try clear hqn); (try clear hqs); (try clear hs); (try clear B); (try clear B1); (try clear B2); (try clear hl); subst_vars; rw [Ob]; first | done | (cases h2 : Dk x.fM <;> (try rw [AgF x h2]) <;> cases h1 : Ge x.fId 1 65535 <;> cases h4 : I9 pre x <;> cases h5 : (x.fM.fQos == 0) <;> cases h6 : ((x.fM.fQos == 1) == (x.fSt == 1)) <;> cases h7 : Ge x.fSt 1 3 <;> simp [h1, h2, h4, h5, h6, h7] at * <;> contradiction)))
  refine E7 h4 (Ai (Ai (Bo (c := si x.fM.fQos) B1 (Bd rfl) rfl (Av (v := sb (x.fM.fQos == 0)) (fun k => rfl) ?_))))
  apply A3 ((x.fM.fQos == 0) || (!((x.fM.fQos == 1) == (x.fSt == 1))))
  intro b5 q5
  refine Ad ((x.fM.fQos == 0)) (fun h5 => ?_) fun h5 => ?_
  exact C5 h5 (C5 h5 (C5 h5 (C5 h5 (C5 h5 (C5 h5 (C5 h5 (C5 h5 (Ca h5 (mOT q5 h5) rfl))))))))
  exact Cz h5 (Ai (Cz h5 (Ai (Cz h5 (Bo (c := si x.fM.fQos) B1 (Bd rfl) rfl (Cz h5 (Av (v := sb (x.fM.fQos == 1)) (fun k => rfl) (Cz h5 (Ai (Cz h5 (Bo (c := si x.fSt) B1 (Bd rfl) rfl (Cz h5 (Av (v := sb (x.fSt == 1)) (fun k => rfl) (Cz h5 (Kq (v := sb (!((x.fM.fQos == 1) == (x.fSt == 1)))) (fun k => rfl) (B9 h5 (mOF q5 h5) rfl))))))))))))))))
  intro b5 q5
  apply A3 (b5 || (!(Ge x.fSt 1 3)))
  intro b6 q6
  refine Ad (b5) (fun h6 => ?_) fun h6 => ?_
  exact C5 h6 (C5 h6 (C5 h6 (C5 h6 (Ca h6 (mOT q6 h6) rfl))))
  exact Cz h6 (Ai (Cz h6 (Bo (c := si x.fSt) B1 (Bd rfl) rfl (Cz h6 (De rfl (A6 (Cv _ _) (A6 (Cv _ _) (A6 (Cv _ _) Dl))) (O5 (n + 8) _ x.fSt 1 3) (Cz h6 (Gg (B9 h6 (mOF q6 h6) rfl))))))))
  intro b6 q6
  refine Ad (b6) (fun h7 => ?_) fun h7 => ?_
  ·exact Ey h7 (Dp (by (try clear ih); (try clear hlt); (try clear hix); (try clear hm); (try clear hmem); (try clear hpl); (try clear hsl); (try clear hlen); (try clear hqn); (try clear hqs); (try clear hs); (try clear B); (try clear B1); (try clear B2); (try clear hl); subst_vars; rw [Ob]; first | done | (cases h2 : Dk x.fM <;> (try rw [AgF x h2]) <;> cases h1 : Ge x.fId 1 65535 <;> cases h4 : I9 pre x <;> cases h5 : (x.fM.fQos == 0) <;> cases h6 : ((x.fM.fQos == 1) == (x.fSt == 1)) <;> cases h7 : Ge x.fSt 1 3 <;> simp [h1, h2, h4, h5, h6, h7] at * <;> contradiction)))
  ·refine E7 h7 (Av (v := si (IntKind.i64.wrap ((pre.length : Int) + 1))) (fun k => rfl) ?_)
   rw [hix]
   refine (Qd n hn ty o hlen hsl hqn hqs i1 r (pre ++ [x]) m _ B (by rw [hl]; simp) (by simpa using hm)).trans (congrArg (fun b => some (AV.sc (Value.bool b))) ?_)
   (try clear ih); (try clear hlt); (try clear hix); (try clear hm); (try clear hmem); (try clear hpl); (try clear hsl); (try clear hlen); (try clear hqn); (try clear hqs); (try clear hs); (try clear B); (try clear B1); (try clear B2); (try clear hl); subst_vars; rw [Ob]; first | done | (cases h2 : Dk x.fM <;> (try rw [AgF x h2]) <;> cases h1 : Ge x.fId 1 65535 <;> cases h4 : I9 pre x <;> cases h5 : (x.fM.fQos == 0) <;> cases h6 : ((x.fM.fQos == 1) == (x.fSt == 1)) <;> cases h7 : Ge x.fSt 1 3 <;> simp [h1, h2, h4, h5, h6, h7] at * <;> contradiction)
theorem Vj (o : Bs) : ∀ (r pre : List Ah), Ob o pre r = (AdZ pre r && (Ge o.fLast 0 65535 && decide ((o.fFl.length : Int) ≤ 3) && Ed o.fQ))
 | [], pre => by rw [Ob, AdZ, Bool.true_and]
 | x :: r, pre => by
  rw [Ob, AdZ, Vj o r]
  simp only [Bool.and_assoc]
def Wy : Br := ⟨⟨#[]⟩, ⟨#[]⟩, 0, false⟩
theorem AgK {α β : Type} {r : Option β} {w : Nat} {enc : α → List AV} {l : List α} {d : α} {K : AV → Option β} (hw : ∀ x, (enc x).length = w) (h0 : 0 < w) (hl : 0 < l.length) (h : K (.rp (enc (l.headD d) ++ (l.tail.map enc).flatten)) = r) : Eu w (Aj enc l) (.sc (.int .i64 0)) (fun t => K t) = r := by
 refine AgJ hw h0 hl fun x t e => ?_
 subst e
 exact h
theorem Oy (n : Nat) (hn : 1048576 < n) (ty : Nat) (o : Bs) (b0 : D6 o ≤ 1048576) : Cy E0 (n + 10) ty 11 [.agg (A5 o)] = some (.sc (.bool (F5 o))) := by
 obtain ⟨⟨h1, h2⟩, h3, h4⟩ := Vf o b0
 rw [Az, AhA, f11]
 simp only [Ct]
 refine Jv (Gs _) fun i e hi => ?_
 have key := Qp (n + 1) (by omega) ty o h1 h2 h3 h4 i o.fFl [] (n + 9) _ hi rfl (by omega)
 rw [Vj] at key
 exact key
theorem Wt (n : Nat) (hn : 1048576 < n) (ty : Nat) (o : Bs) (b0 : D6 o ≤ 1048576) : Cy E0 (n + 10) ty 10 [.agg (A5 o)] = some (.sc (.bool (F5 o))) := by
 obtain ⟨⟨h1, h2⟩, h3, h4⟩ := Vf o b0
 rw [Az, Ah9, f10]
 simp only [Ct, Bk, A2, Bm]
 refine Jv (Gs _) fun i e hi => Ai (Bo (c := Aj Aq o.fFl) hi (Bd rfl) rfl (Dh ?_))
 have key := Qd n hn ty o h1 h2 h3 h4 i o.fFl [] (n + 9) _ hi rfl (by omega)
 rw [Vj] at key
 exact key
theorem S3 (n : Nat) (hn : 1048576 < n) (o : Bs) (k0 : Qi o) (b0 : D6 o ≤ 1048576) : Cy E0 (n + 11) 4 39 [.agg (A5 o)] = some (.sc (.bool ((F5 o && decide ((o.fQ.length : Int) > 0)) && ((o.fQ.headD Wy).fQos == 0 || decide ((o.fFl.length : Int) < 3))))) := by
 rw [Az, AhM, f39]
 try simp only [Ct, Cf, Bk, A2, A9, A4, C8, C7, Ea, At, Bi, Pr.gT, Pr.gF, Pr.hT, Pr.hF, Pr.kT, Pr.kF, Bz, Bm, C0, Bq, Dv, Cp, B8, Ba, Be, Dj, Cg, Df, Da]
 have hwo := b0
 refine Jv (Gs _) fun iB1 eB1 B1 => F6 (ds := A5 o) B1 (Bd rfl) rfl (De rfl (A6 (E1 _ (Gs _)) Dl) (Oy (n + 0) (by omega) _ o hwo) ?_)
 apply A3 ((F5 o) && (decide ((o.fQ.length : Int) > 0)))
 intro b2 q2
 refine Ad ((F5 o)) (fun h2 => ?_) fun h2 => ?_
 exact Ao h2 (Ai (Ao h2 (Bo (c := Aj Ag o.fQ) B1 (Bd rfl) rfl (Ao h2 (Dh (Ao h2 (Av (v := sb (decide ((o.fQ.length : Int) > 0))) (fun k => rfl) (Ca h2 (He q2 h2) rfl))))))))
 exact Ap h2 (Ap h2 (Ap h2 (Ap h2 (B9 h2 (Hd q2 h2) rfl))))
 intro b2 q2
 apply A3 (b2 && ((((o.fQ.headD Wy).fQos) == 0) || (decide ((o.fFl.length : Int) < 3))))
 intro b3 q3
 refine Ad (b2) (fun h3 => ?_) fun h3 => ?_
 ·refine Ao h3 (Ai (Ao h3 (Bo (c := Aj Ag o.fQ) B1 (Bd rfl) rfl (Ao h3 (AgK (d := Wy) Dw (by decide) (by first | (simp_all; done) | (simp at *; omega)) (Ao h3 (Hs (Ao h3 (Hj (c := .sc (.int .i64 ((o.fQ.headD Wy).fQos))) rfl (Ao h3 (Av (v := .sc (.bool (((o.fQ.headD Wy).fQos) == 0))) (fun k => rfl) (Ao h3 ?_))))))))))))
  apply A3 ((((o.fQ.headD Wy).fQos) == 0) || (decide ((o.fFl.length : Int) < 3)))
  intro b4 q4
  refine Ad ((((o.fQ.headD Wy).fQos) == 0)) (fun h4 => ?_) fun h4 => ?_
  exact C5 h4 (C5 h4 (C5 h4 (C5 h4 (Ao h3 (Ca h4 (mOT q4 h4) rfl)))))
  exact Cz h4 (Ai (Cz h4 (Bo (c := Aj Aq o.fFl) B1 (Bd rfl) rfl (Cz h4 (Dh (Cz h4 (Av (v := sb (decide ((o.fFl.length : Int) < 3))) (fun k => rfl) (Ao h3 (B9 h4 (mOF q4 h4) rfl)))))))))
  intro b4 q4
  exact Ca h3 (by subst q4; exact He q3 h3) rfl
 exact Ap h3 (Ap h3 (Ap h3 (Ap h3 (Ap h3 (Ap h3 (Ap h3 (P3 (P3 (P3 (P3 (Ap h3 (B9 h3 (Hd q3 h3) rfl))))))))))))
 intro b3 q3
 exact Dp (by subst_vars; rfl)
end
section
open Go
variable {β : Type} {n : Nat} {r : Option β}
theorem Tx (s : ByteArray) (hs : s.size ≤ 140737488355328) (H : Aa) (K : KO β) : Ha 1 1 .nl (Bj s) H K = K (.sl H.length 0 s.size 1) (H ++ [⟨Bb s, true, true⟩]) := by
 have e1 : Cw H 1 (Bj s) = some (Bb s) := by
  show (if (Bb s).length = s.size * 1 then some (Bb s) else none) = _
  rw [if_pos (by rw [Ep]; omega)]
 have e2 : Cw H 1 .nl = some [] := rfl
 have e3 : Gn (Bj s) = some s.size := rfl
 simp only [Ha, Gn, e1, e2, L8, zab, e3]
 rw [if_pos (by omega), if_pos (U4 s)]
 simp only [Fi, zaw, zah]
theorem Uq {H : Aa} {id d : Nat} {s : ByteArray} (h : H[id]? = some ⟨Bb s, true, true⟩) : Bx An E0.tp H (d + 2) 22 (.sl id 0 s.size 1) = some (Bj s, [id]) := by
 rw [Ft]
 have ha : Fh H id = true := by simp only [Fh, h]
 have hr : Aw H id 0 (s.size * 1) = some (Bb s) := by
  have hl := Ep s
  simp only [Aw, h, if_true, zaw, Nat.mul_one, hl, zai, za6]
  rw [← hl, za3]
 obtain ⟨i, j, h1, h2, h3, h4⟩ := M9
 simp only [h1, h2, zab, h3, if_true, ha, hr]
 have ho := Vs (ti := An) (tp := E0.tp) (H := H) (d := d) (zad s.size j.cty).flatten (bv s) (by rw [Ahs]; simp [h4])
 rw [Jn, ho, zab, ← Jn]
theorem Aes (n : Nat) (hn : 1 < n) (s : ByteArray) (hs : s.size ≤ 1048576) : Cy E0 (n + 1) 22 88 [.ro 1 [Bj s]] = some (Bj s) := by
 rw [Az, Aiw, f88]
 simp only [Bm]
 refine Dh ?_
 obtain ⟨m, rfl⟩ : ∃ m, n = m + 2 := ⟨n - 2, by omega⟩
 rw [Pf]
 simp only [A4, At, Bq, A2, Cg]
 refine Av (v := bT) (fun k => rfl) (Ey rfl ?_)
 have e1 : ∀ K : AV → Option AV, Eu 1 (.ro 1 [Bj s]) (.sc (.int .i64 0)) K = K (.rp [Bj s]) := fun K => Q4 1 1 [Bj s] 0 K (by decide) (by simp)
 rw [e1, Nr, Tx s (by omega)]
 refine Av (v := si 1) (fun k => rfl) ?_
 rw [Pf]
 simp only [A4, At]
 refine Av (v := bF) (fun k => rfl) (E7 rfl ?_)
 rw [A0, Uq (d := 6) (s := s) rfl]
 rfl
theorem Ag0 {H : Aa} {id d : Nat} {m : Br} (h : H[id]? = some ⟨Bb m.fBody, true, true⟩) : Cc (Bx An E0.tp H (d + 2)) G6 [.sc (.string m.fTopic), .sl id 0 m.fBody.size 1, .sc (.int .i64 m.fQos), .sc (.bool m.fRetain)] = some (Ag m, [id]) := by
 have hb := Uq (d := d) h
 simp only [G6, Cc, Hf, hb, zab, zah, zam]
 rfl
theorem Sm {H : Aa} {id : Nat} {m : Br} (h : H[id]? = some ⟨Bb m.fBody, true, true⟩) : A0 An E0.tp 33 H (.agg [.sc (.string m.fTopic), .sl id 0 m.fBody.size 1, .sc (.int .i64 m.fQos), .sc (.bool m.fRetain)]) = some (.agg (Ag m)) := by
 obtain ⟨i, hi, hc⟩ := Ni
 rw [A0, Ek, hi, zab, hc, Ag0 (d := 5) h]
 rfl
end
section
open Go
variable {β : Type} {n : Nat} {r : Option β}
theorem Q5 (n : Nat) (m : Br) (hs : m.fBody.size ≤ 1048576) : Cy E0 (n + 1) 33 101 [.agg (Ag m)] = some (.agg (Ag m)) := by
 rw [Az, Afi, f101]
 simp only [Ct, Cf, Bk, A2, Cg, Be, A9, Iw]
 rw [Lc _ _ _ (Ej m)]
 simp only [zar, zah, zao, zaw]
 have hH : ([⟨Ag m, true, true⟩] ++ [⟨G5, true, true⟩] : Aa)[0]? = some ⟨Ag m, true, true⟩ := rfl
 refine Ai (Bo (c := ss m.fTopic) hH (Bd rfl) rfl (Ai (Bo (c := Bj m.fBody) hH (Bd rfl) rfl (Ai (Bo (c := si m.fQos) hH (Bd rfl) rfl (Ai (Bo (c := sb m.fRetain) hH (Bd rfl) rfl ?_)))))))
 rw [Tx _ (by omega)]
 refine Nv (cs := [ss m.fTopic, .sl 2 0 m.fBody.size 1, si m.fQos, sb m.fRetain]) rfl ?_
 rw [Fv 4 1 0 _ ⟨G5, true, true⟩ [.sc (.string m.fTopic), .sl 2 0 m.fBody.size 1, .sc (.int .i64 m.fQos), .sc (.bool m.fRetain)] _ _ rfl rfl rfl (by decide) rfl]
 exact F6 (ds := [ss m.fTopic, .sl 2 0 m.fBody.size 1, si m.fQos, sb m.fRetain]) (cs := [ss m.fTopic, .sl 2 0 m.fBody.size 1, si m.fQos, sb m.fRetain]) rfl (zai _) rfl (Sm rfl)
theorem Rg (n : Nat) (hn : 1 < n) (m : Br) (hs : m.fBody.size ≤ 1048576) : Cy E0 (n + 2) 33 99 [.agg (Ag m)] = some (.agg (Ag m)) := by
 rw [Az, Ai3, f99]
 simp only [Ct, Cf, Bk, A2, Cg, Be, A9, Ba, Iw]
 rw [Lc _ _ _ (Ej m)]
 simp only [zar, zah, zao, zaw]
 have hH : ([⟨Ag m, true, true⟩] ++ [⟨G5, true, true⟩] : Aa)[0]? = some ⟨Ag m, true, true⟩ := rfl
 refine Ai (Bo (c := Bj m.fBody) hH (Bd rfl) rfl (Nv (cs := [Bj m.fBody]) rfl ?_))
 simp only [Fi]
 rw [E8 (vs := [.ro 1 [Bj m.fBody]]) rfl rfl (Aes n hn m.fBody hs)]
 obtain ⟨i, j, h1, h2, h3, h4⟩ := M9
 have hi : ∀ N, Bh An E0.tp N 22 (Bj m.fBody) = (.sl N 0 m.fBody.size 1, [⟨Bb m.fBody, true, true⟩]) := by
  intro N
  show Bh An E0.tp N 22 (.ro m.fBody.size (Bb m.fBody)) = _
  simp only [Bh, h1, zab, h2, za5, h3, Jn, Oe]
 rw [hi]
 simp only
 refine Ai ?_
 rw [Fv 1 0 (0 + 1) _ ⟨Ag m, true, true⟩ [.sl 3 0 m.fBody.size 1] _ _ rfl rfl rfl (Bd rfl) rfl]
 refine F6 (ds := [ss m.fTopic, .sl 3 0 m.fBody.size 1, si m.fQos, sb m.fRetain]) (cs := [ss m.fTopic, .sl 3 0 m.fBody.size 1, si m.fQos, sb m.fRetain]) rfl (zai _) rfl ?_
 rw [Fv 4 1 0 _ ⟨G5, true, true⟩ [.sc (.string m.fTopic), .sl 3 0 m.fBody.size 1, .sc (.int .i64 m.fQos), .sc (.bool m.fRetain)] _ _ rfl rfl rfl (by decide) rfl]
 exact F6 (ds := [ss m.fTopic, .sl 3 0 m.fBody.size 1, si m.fQos, sb m.fRetain]) (cs := [ss m.fTopic, .sl 3 0 m.fBody.size 1, si m.fQos, sb m.fRetain]) rfl (zai _) rfl (Sm rfl)
theorem Mx {d w te g bytes k : Nat} {cty : List Nat} {H X0 : Aa} {x : AV} {cells cs z : List AV} {args vs : List AV} {K : KO β} (hx : OwnS d H w cty x k cells) (hh : Fy g = false) (hv : args.mapM (Dn (H ++ X0) 8) = some vs) (ht : Cy E0 n te g vs = some (.agg cs))
  (hte : ∃ i, An te = some i ∧ i.cty = cty) (hok : El (Gp An E0.tp d) cty cs) (hfl : cs.all Ie = true) (hw : cs.length = w) (hz : z.length = w) (hb : (k + 1) * bytes ≤ 140737488355328) (h : ∀ x' H', OwnS d H' w cty x' (k + 1) (cells ++ cs) → K x' H' = r) :
  ((PR n β).call te (.fn g [] []) args (H ++ X0) fun t G => (Er z [(0, w, t)]).bind fun ct => Fi 1 w ct true G fun y G => Ha w bytes x y G K) = r := by
 obtain ⟨i, hi, rfl⟩ := hte
 rw [E8 hh hv ht, Gi, hi, za5]
 simp only
 have hlen := Jh (ti := An) (tp := E0.tp) (H ++ X0).length i.cty cs
 have hleaf := Jp (ti := An) (tp := E0.tp) cs (H ++ X0).length i.cty hfl
 have hf : Er z [(0, w, .agg (Bu An E0.tp (H ++ X0).length i.cty cs).1)] = some (Bu An E0.tp (H ++ X0).length i.cty cs).1 := by
  have hc : Cq (.agg (Bu An E0.tp (H ++ X0).length i.cty cs).1) = some (Bu An E0.tp (H ++ X0).length i.cty cs).1 := by
   show (if _ then _ else none) = _
   rw [if_pos hleaf]
  have hs : Cd z 0 (Bu An E0.tp (H ++ X0).length i.cty cs).1 = (Bu An E0.tp (H ++ X0).length i.cty cs).1 := by
   unfold Cd
   rw [zbF, zah, zaX (by rw [hlen, hw, hz]; omega), zam]
  show ((Cq (.agg _)).bind fun cs => if cs.length = w then (if 0 + w ≤ z.length then Er (Cd z 0 cs) [] else none) else none) = _
  rw [hc, zab, if_pos (by rw [hlen, hw]), if_pos (by omega), hs]
  rfl
 rw [hf, zab]
 have key := Aaa (H := H) (X := X0 ++ (Bu An E0.tp (H ++ X0).length i.cty cs).2) (bytes := bytes) (er := (Bu An E0.tp (H ++ X0).length i.cty cs).1) (ec := cs) (eids := zaW (H ++ X0).length (Bu An E0.tp (H ++ X0).length i.cty cs).2.length) (K := K) (r := r) hx (by rw [hlen, hw]) hleaf (by
   have := Aa9 (d := d) (H := H ++ X0) hok
   rwa [zaj] at this) zaP (fun j hj => by
   rw [zaK] at hj
   have := hj.1
   simp at this
   omega) hb h
 rw [← zaj] at key
 exact key
theorem Wv (n : Nat) (hn : 1048576 < n) (l : List Br) (hl : l.length ≤ 1048576) (hs : ∀ x ∈ l, x.fBody.size ≤ 1048576) : ∀ (t pre : List Br) (m : Nat) (x : AV) (H : Aa), l = pre ++ t → t.length < m → OwnS 7 H 4 G6 x pre.length (pre.map Ag).flatten →
  Lg (PR (n + 2) AV) (n + 2) (fun x H => A0 An E0.tp 25 H x) m (Aj Ag l) x (si pre.length) H = some (Aj Ag l)
 | [], pre, m + 1, x, H, he, hm, hx => by
  rw [zam] at he
  subst he
  rw [Lg]
  simp only [Bm, A4, At]
  rw [Mk, Eb, D4, if_neg (by simp)]
  obtain ⟨ids, ho, hno⟩ := Q6 (d := 7) (tyS := 25) Ju hx
  rw [A0, ho, zab, if_pos hno]
 | y :: t, pre, m + 1, x, H, he, hm, hx => by
  have hlt : pre.length < l.length := by rw [he]; simp
  have hy : y ∈ l := by rw [he]; simp
  rw [Lg]
  simp only [Bm, A4, At, Bq, A2, Be, Ba, Cg]
  rw [Mk, Eb, D4, if_pos (by simpa using hlt)]
  have hel := fun k => L0 (β := AV) Dw (by decide) pre y t k
  rw [← he] at hel
  rw [hel, Qh 4 _ _ _ _ (Dw y)]
  have hst := fun K h => Mx (β := AV) (n := n + 2) (X0 := []) (bytes := 56) (z := G5) (K := K) (r := some (Aj Ag l)) hx rfl (A6 (E1 _ (Ej y)) Dl) (Q5 (n + 1) y (hs y hy)) Ni (Hm 5 y) (Ej y) (Dw y) rfl (by omega) h
  simp only [zam] at hst
  refine hst _ fun x' H' hx' => ?_
  rw [Fc _ _ (by omega)]
  have ih := Wv n hn l hl hs t (pre ++ [y]) m x' H' (by rw [he]; simp) (by simpa using hm) (by
   rw [zae, zal, zaA, za1]
   simpa using hx')
  rw [zae, zal] at ih
  exact ih
theorem Og (n : Nat) (hn : 1048576 < n) (l : List Br) (hl : l.length ≤ 1048576) (hs : ∀ x ∈ l, x.fBody.size ≤ 1048576) : Cy E0 (n + 3) 25 100 [Aj Ag l] = some (Aj Ag l) := by
 rw [Az, Afh, f100]
 exact Wv n hn l hl hs l [] (n + 2) .nl [] rfl (by omega) (OwnS.nil _ _ _ _)
theorem Nc (n : Nat) (hn : 1048576 < n) (l : List Br) (hl : l.length ≤ 1048576) (hs : ∀ x ∈ l, x.fBody.size ≤ 1048576) : ∀ (t pre : List Br) (m : Nat) (x : AV) (H : Aa), l = pre ++ t → t.length < m → OwnS 7 H 4 G6 x pre.length (pre.map Ag).flatten →
  Np (PR (n + 2) AV) (n + 2) (fun x H => A0 An E0.tp 25 H x) m x (Aj Ag l) (si l.length) (si pre.length) H = some (Aj Ag l)
 | [], pre, m + 1, x, H, he, hm, hx => by
  rw [zam] at he
  subst he
  rw [Np]
  simp only [Bm, A4, At]
  rw [Eb, D4, if_neg (by simp)]
  obtain ⟨ids, ho, hno⟩ := Q6 (d := 7) (tyS := 25) Ju hx
  rw [A0, ho, zab, if_pos hno]
 | y :: t, pre, m + 1, x, H, he, hm, hx => by
  have hlt : pre.length < l.length := by rw [he]; simp
  have hy : y ∈ l := by rw [he]; simp
  rw [Np]
  simp only [Bm, A4, At, Bq, A2, Be, Ba, Cg, Cf, A9]
  rw [Eb, D4, if_pos (by simpa using hlt)]
  have hel := fun k => L0 (β := AV) Dw (by decide) pre y t k
  rw [← he] at hel
  rw [hel, Qh 4 _ _ _ _ (Dw y)]
  refine Pm rfl (Dw _) (Lm (Ej _)) fun i hi => Ok hi (Dw _) (Mx (β := AV) (n := n + 2) (X0 := [⟨Ag y, true, true⟩]) (bytes := 56) (z := G5) (r := some (Aj Ag l)) hx rfl (A6 (E1 _ (Ej y)) Dl) (Rg n (by omega) y (hs y hy)) Ni (Hm 5 y) (Ej y) (Dw y) rfl (by omega) fun x' H' hx' => ?_)
  rw [Fc _ _ (by omega)]
  have ih := Nc n hn l hl hs t (pre ++ [y]) m x' H' (by rw [he]; simp) (by simpa using hm) (by
   rw [zae, zal, zaA, za1]
   simpa using hx')
  rw [zae, zal] at ih
  exact ih
theorem Pa (n : Nat) (hn : 1048576 < n) (l : List Br) (hl : l.length ≤ 1048576) (hs : ∀ x ∈ l, x.fBody.size ≤ 1048576) : Cy E0 (n + 3) 25 98 [Aj Ag l] = some (Aj Ag l) := by
 rw [Az, Ai2, f98]
 simp only [Bm]
 exact Dh (Nc n hn l hl hs l [] (n + 2) .nl [] rfl (by omega) (OwnS.nil _ _ _ _))
end
section
open Go
def OwnSI (d : Nat) (H : Aa) (w : Nat) (cty : List Nat) (x : AV) (k : Nat) (cells : List AV) (ids : List Nat) : Prop :=
 (x = .nl ∧ k = 0 ∧ cells = [] ∧ ids = []) ∨ ∃ id raw is, ids = id :: is ∧ x = .sl id 0 k w ∧ H[id]? = some ⟨raw, true, true⟩ ∧ raw.length = k * w ∧ OwnC d H (zad k cty).flatten raw cells is ∧ (id :: is).Nodup
theorem OwnSI.nil (d : Nat) (H : Aa) (w : Nat) (cty : List Nat) : OwnSI d H w cty .nl 0 [] [] := .inl ⟨rfl, rfl, rfl, rfl⟩
theorem OwnSI.lt {d : Nat} {H : Aa} {w : Nat} {cty : List Nat} {x : AV} {k : Nat} {cells : List AV} {ids : List Nat} (h : OwnSI d H w cty x k cells ids) : ∀ i ∈ ids, i < H.length := by
 rcases h with ⟨_, _, _, rfl⟩ | ⟨id, raw, is, rfl, _, h2, _, h4, _⟩
 ·intro i hi
  cases hi
 ·intro i hi
  rcases zav.1 hi with rfl | hi
  ·exact (zac.1 h2).1
  ·exact h4.lt i hi
theorem OwnSI.nodup {d : Nat} {H : Aa} {w : Nat} {cty : List Nat} {x : AV} {k : Nat} {cells : List AV} {ids : List Nat} (h : OwnSI d H w cty x k cells ids) : ids.Nodup := by
 rcases h with ⟨_, _, _, rfl⟩ | ⟨id, raw, is, rfl, _, h2, _, h4, h5⟩
 ·exact zb3
 ·exact h5
theorem OwnSI.frame {d : Nat} {H H' : Aa} {w : Nat} {cty : List Nat} {x : AV} {k : Nat} {cells : List AV} {ids : List Nat} (h : OwnSI d H w cty x k cells ids) (hs : ∀ i ∈ ids, H'[i]? = H[i]?) : OwnSI d H' w cty x k cells ids := by
 rcases h with h | ⟨id, raw, is, rfl, h1, h2, h3, h4, h5⟩
 ·exact .inl h
 ·exact .inr ⟨id, raw, is, rfl, h1, by rw [hs id za7]; exact h2, h3, h4.frame fun i hi => hs i (zax _ hi), h5⟩
theorem OwnSI.grow {d : Nat} {H : Aa} {w : Nat} {cty : List Nat} {x : AV} {k : Nat} {cells : List AV} {ids : List Nat} (h : OwnSI d H w cty x k cells ids) (X : List Gm) : OwnSI d (H ++ X) w cty x k cells ids :=
 h.frame fun i hi => zag (h.lt i hi)
theorem OwnSI.res {H : Aa} {d w tyS k : Nat} {cty : List Nat} {x : AV} {cells : List AV} {ids : List Nat} (h : OwnSI d H w cty x k cells ids) (hty : ∃ i j, An tyS = some i ∧ An i.elem = some j ∧ j.size = w ∧ j.cty = cty) : Bx An E0.tp H (d + 1) tyS x = some (.ro k cells, ids) := by
 rcases h with ⟨rfl, rfl, rfl, rfl⟩ | ⟨id, raw, is, rfl, rfl, h2, h3, h4, h5⟩
 ·rfl
 ·obtain ⟨i, j, e1, e2, rfl, rfl⟩ := hty
  rw [Ft]
  have ha : Fh H id = true := by simp only [Fh, h2]
  have hr : Aw H id 0 (k * j.size) = some raw := by
   simp only [Aw, h2, if_true, zaw, h3, zai, za6]
   rw [← h3, za3]
  have h4' : Cc (Bx An E0.tp H d) (zad k j.cty).flatten raw = some (cells, is) := h4
  simp only [e1, e2, zab, if_true, ha, hr, h4']
variable {β : Type} {n : Nat} {r : Option β}
theorem Acv {d : Nat} {H X : Aa} {w bytes : Nat} {cty : List Nat} {x : AV} {k : Nat} {cells er ec : List AV} {ids eids : List Nat} {K : KO β} (hx : OwnSI d H w cty x k cells ids) (hw : er.length = w) (hl : er.all Al = true)
  (he : OwnC d (H ++ X) cty er ec eids) (hn : eids.Nodup) (hge : ∀ i ∈ eids, H.length ≤ i) (hb : (k + 1) * bytes ≤ 140737488355328)
  (h : ∀ x' H' ids', OwnSI d H' w cty x' (k + 1) (cells ++ ec) ids' → (∀ i ∈ ids', i ∈ ids ∨ H.length ≤ i) → (∀ i, i < H.length → i ∉ ids → H'[i]? = H[i]?) → H.length ≤ H'.length → K x' H' = r) :
  Fi 1 w er true (H ++ X) (fun y G => Ha w bytes x y G K) = r := by
 have hy : ∀ G : Aa, Cw (G ++ [⟨er, true, true⟩]) w (.sl G.length 0 1 w) = some er := by
  intro G
  simp only [Cw, if_true, zbv, Aw, Iy G _ [], zaw, hw, zai, za6]
  rw [← hw, za3]
 rcases hx with ⟨rfl, rfl, rfl, rfl⟩ | ⟨id, raw, is, rfl, rfl, h2, h3, h4, h5⟩
 ·simp only [Fi, Ha, Gn, zab, hy]
  rw [show Cw (H ++ X ++ [⟨er, true, true⟩]) w .nl = some [] from rfl]
  simp only [zab, L8]
  rw [if_pos hb, if_pos hl]
  refine h _ _ (_ :: eids) (.inr ⟨_, er, eids, rfl, rfl, ?_, by simp [hw], ?_, ?_⟩) (fun i hi => .inr ?_) (fun i hi _ => ?_) (by simp)
  ·rw [zaf (zai _), zaI]
   rfl
  ·simp only [zaw, List.replicate_one, zaD, List.flatten_nil, zam, zah]
   exact (he.grow _).grow _
  ·rw [zaH]
   refine ⟨fun hm => ?_, hn⟩
   have := he.lt _ hm
   simp at this
   omega
  ·rcases zav.1 hi with rfl | hi
   ·simp [zaO]
   ·exact hge i hi
  ·rw [zaj, zaj, zag hi]
 ·have hid : id < H.length := (zac.1 h2).1
  have hg : (H ++ X ++ [(⟨er, true, true⟩ : Gm)])[id]? = some ⟨raw, true, true⟩ := by
   rw [zaj, zag hid]
   exact h2
  have hcx : Cw (H ++ X ++ [⟨er, true, true⟩]) w (.sl id 0 k w) = some raw := by
   simp only [Cw, if_true, Aw, hg, zaw, h3, zai, za6]
   rw [← h3, za3]
  simp only [Fi, Ha, Gn, zab, hy, hcx, L8, hg, if_true]
  rw [if_pos hb, if_pos hl]
  have hn5 := zaH.1 h5
  have hne : ∀ i ∈ is, i ≠ id := fun i hi e => hn5.1 (e ▸ hi)
  have hne2 : ∀ i ∈ eids, i ≠ id := fun i hi e => by
   have := hge i hi
   omega
  refine h _ _ (_ :: (is ++ eids)) (.inr ⟨_, raw ++ er, is ++ eids, rfl, rfl, ?_, by simp [h3, hw, zbG], ?_, ?_⟩) (fun i hi => ?_) (fun i hi hni => ?_) (by simp; omega)
  ·rw [zaf (zai _), zaI]
   rfl
  ·have e : (zad (k + 1) cty).flatten = (zad k cty).flatten ++ cty := by
    rw [List.replicate_succ', za1]
    simp
   rw [e]
   refine OwnC.append ?_ ?_
   ·refine OwnC.grow (OwnC.frame (H := H ++ X ++ [⟨er, true, true⟩]) ((h4.grow X).grow _) fun i hi => ?_) _
    rw [za4 (fun e => hne i hi e.symm)]
   ·refine OwnC.grow (OwnC.frame (H := H ++ X ++ [⟨er, true, true⟩]) (he.grow _) fun i hi => ?_) _
    rw [za4 (fun e => hne2 i hi e.symm)]
  ·rw [zaH]
   refine ⟨fun hm => ?_, ?_⟩
   ·rcases za9.1 hm with hm | hm
    ·have := h4.lt _ hm
     simp at this
     omega
    ·have := he.lt _ hm
     simp at this
     omega
   ·rw [zaJ]
    refine ⟨hn5.2, hn, fun a ha b hb e => ?_⟩
    have h1 := h4.lt a ha
    have h2 := hge b hb
    omega
  ·rcases zav.1 hi with rfl | hi
   ·right
    simp [zaO]
   ·rcases za9.1 hi with hi | hi
    ·exact .inl (zax _ hi)
    ·exact .inr (hge i hi)
  ·have : i ≠ id := fun e => hni (e ▸ za7)
   rw [zag (by simp; omega), za4 (fun e => this e.symm), zaj, zag hi]
theorem AdY {w : Nat} {z ys : List AV} (hz : z.length = w) (hy : ys.length = w) (hl : ys.all Al = true) : Er z [(0, w, .agg ys)] = some ys := by
 have hc : Cq (.agg ys) = some ys := by
  show (if ys.all Al then some ys else none) = _
  rw [if_pos hl]
 have hs : Cd z 0 ys = ys := by
  unfold Cd
  rw [zbF, zah, zaX (by rw [hy, hz]; omega), zam]
 show ((Cq (.agg ys)).bind fun cs => if cs.length = w then (if 0 + w ≤ z.length then Er (Cd z 0 cs) [] else none) else none) = _
 rw [hc, zab, if_pos hy, if_pos (by omega), hs]
 rfl
end
section
open Go
variable {β : Type} {n : Nat} {r : Option β}
theorem AgI {α : Type} {w : Nat} {enc : α → List AV} {l pre t : List α} {x : α} {K : AV → Option β} (hw : ∀ x, (enc x).length = w) (h0 : 0 < w) (hl : l = pre ++ x :: t) (h : K (.rp (enc x ++ (t.map enc).flatten)) = r) : Eu w (Aj enc l) (.sc (.int .i64 (pre.length : Int))) (fun t => K t) = r := by
 subst hl
 exact (L0 (β := β) hw h0 pre x t (fun t => K t)).trans h
theorem Aen (N : Nat) (s : ByteArray) : Bh An E0.tp N 22 (Bj s) = (.sl N 0 s.size 1, [⟨Bb s, true, true⟩]) := by
 obtain ⟨i, j, h1, h2, h3, h4⟩ := M9
 show Bh An E0.tp N 22 (.ro s.size (Bb s)) = _
 simp only [Bh, h1, zab, h2, za5, h3, Jn, Oe]
theorem Aeo (N : Nat) (m : Br) : Bu An E0.tp N G6 (Ag m) = ([.sc (.string m.fTopic), .sl N 0 m.fBody.size 1, .sc (.int .i64 m.fQos), .sc (.bool m.fRetain)], [⟨Bb m.fBody, true, true⟩]) := by
 have h := Aen N m.fBody
 show Bu An E0.tp N [9, 22, 3, 4] [.sc (.string m.fTopic), Bj m.fBody, .sc (.int .i64 m.fQos), .sc (.bool m.fRetain)] = _
 simp only [Bu, zb9, zbC, G9, zar, zaZ, h, zah, zam]
theorem Kg (N : Nat) (f : Ah) : Bu An E0.tp N F1 (Aq f) = ([.sc (.int .i64 f.fId), .sc (.string f.fM.fTopic), .sl N 0 f.fM.fBody.size 1, .sc (.int .i64 f.fM.fQos), .sc (.bool f.fM.fRetain), .sc (.int .i64 f.fSt)], [⟨Bb f.fM.fBody, true, true⟩]) := by
 have h := Aen N f.fM.fBody
 show Bu An E0.tp N [3, 9, 22, 3, 4, 3] [.sc (.int .i64 f.fId), .sc (.string f.fM.fTopic), Bj f.fM.fBody, .sc (.int .i64 f.fM.fQos), .sc (.bool f.fM.fRetain), .sc (.int .i64 f.fSt)] = _
 simp only [Bu, zb9, zbC, G9, zar, zaZ, h, zah, zam]
theorem Qc {te g k : Nat} {H X0 : Aa} {x : AV} {cells : List AV} {ids : List Nat} {args : List AV} {f : Ah} {K : KO β} (hx : OwnSI 6 H 6 F1 x k cells ids) (hh : Fy g = false) (hv : args.mapM (Dn (H ++ X0) 8) = some [.agg (Ag f.fM)]) (ht : Cy E0 n te g [.agg (Ag f.fM)] = some (.agg (Ag f.fM)))
  (hte : ∃ i, An te = some i ∧ i.cty = G6) (hb : (k + 1) * 72 ≤ 140737488355328)
  (h : ∀ x' H' ids', OwnSI 6 H' 6 F1 x' (k + 1) (cells ++ Aq f) ids' → (∀ i ∈ ids', i ∈ ids ∨ H.length ≤ i) → (∀ i, i < H.length → i ∉ ids → H'[i]? = H[i]?) → H.length ≤ H'.length → K x' H' = r) :
  ((PR n β).call te (.fn g [] []) args (H ++ X0) fun t G => (Er Tj [(0, 1, si f.fId), (1, 4, t), (5, 1, si f.fSt)]).bind fun c => (Er Tj [(0, 6, .agg c)]).bind fun ct => Fi 1 6 ct true G fun y G => Ha 6 72 x y G K) = r := by
 obtain ⟨i, hi, hc⟩ := hte
 rw [E8 hh hv ht, Gi, hi, za5, hc, Aeo]
 simp only
 have hf : Er Tj [(0, 1, si f.fId), (1, 4, .agg [ss f.fM.fTopic, .sl (H ++ X0).length 0 f.fM.fBody.size 1, si f.fM.fQos, sb f.fM.fRetain]), (5, 1, si f.fSt)] = some [si f.fId, ss f.fM.fTopic, .sl (H ++ X0).length 0 f.fM.fBody.size 1, si f.fM.fQos, sb f.fM.fRetain, si f.fSt] := rfl
 rw [hf, zab, AdY (w := 6) rfl rfl rfl, zab]
 have key := Acv (H := H) (X := X0 ++ [⟨Bb f.fM.fBody, true, true⟩]) (bytes := 72) (er := (Bu An E0.tp (H ++ X0).length F1 (Aq f)).1) (ec := Aq f) (eids := zaW (H ++ X0).length (Bu An E0.tp (H ++ X0).length F1 (Aq f)).2.length) (K := K) (r := r) hx (by rw [Kg]; rfl) (by rw [Kg]; rfl) (by
   have := Aa9 (d := 6) (H := H ++ X0) (M4 4 f)
   rw [Kg] at this ⊢
   rwa [zaj] at this) zaP (fun j hj => by
   rw [zaK] at hj
   have := hj.1
   simp at this
   omega) hb h
 rw [Kg, ← zaj] at key
 exact key
structure OutI (H : Aa) (io i2 i1 : Nat) (o : Bs) (x q : AV) (k : Nat) (cells : List AV) (ids qids : List Nat) : Prop where
 ho : H[io]? = some ⟨[si o.fLast, x, q], true, true⟩
 hs : OwnSI 6 H 6 F1 x k cells ids
 hq : Bx An E0.tp H 7 25 q = some (Aj Ag o.fQ, qids)
 qn : qids.Nodup
 hz : ∃ z2, H[i2]? = some ⟨z2, true, true⟩ ∧ z2.length = 3
 src : H[i1]? = some ⟨A5 o, true, true⟩
 ne : io ≠ i2
 ne1 : i1 ≠ io
 ne2 : i1 ≠ i2
 o1 : io ∉ ids
 o2 : io ∉ qids
 z1 : i2 ∉ ids
 z2 : i2 ∉ qids
 s1 : i1 ∉ ids
 dj : ∀ i ∈ qids, i ∉ ids
theorem OutI.lt {H : Aa} {io i2 i1 : Nat} {o : Bs} {x q : AV} {k : Nat} {cells : List AV} {ids qids : List Nat} (h : OutI H io i2 i1 o x q k cells ids qids) : io < H.length ∧ i2 < H.length ∧ i1 < H.length ∧ ∀ i ∈ qids, i < H.length := by
 obtain ⟨z2, hz, _⟩ := h.hz
 exact ⟨(zac.1 h.ho).1, (zac.1 hz).1, (zac.1 h.src).1, Kk 7 _ _ _ h.hq⟩
theorem OutI.put {H H' : Aa} {io i2 i1 : Nat} {o : Bs} {x x' q : AV} {k : Nat} {cells ec : List AV} {ids ids' qids : List Nat} {K : Aa → Option β} (h : OutI H io i2 i1 o x q k cells ids qids)
  (h1 : OwnSI 6 H' 6 F1 x' (k + 1) (cells ++ ec) ids') (h2 : ∀ i ∈ ids', i ∈ ids ∨ H.length ≤ i) (h3 : ∀ i, i < H.length → i ∉ ids → H'[i]? = H[i]?) (hk : ∀ H'', OutI H'' io i2 i1 o x' q (k + 1) (cells ++ ec) ids' qids → K H'' = r) :
  D5 1 (.ptr io (0 + 1)) x' H' K = r := by
 obtain ⟨l1, l2, l3, l4⟩ := h.lt
 have hlf : Cq x' = some [x'] := by
  rcases h1 with ⟨_, h0, _⟩ | ⟨id, raw, is, _, rfl, _⟩
  omega
  rfl
 have ho : H'[io]? = some ⟨[.sc (.int .i64 o.fLast), x, q], true, true⟩ := by rw [h3 io l1 h.o1]; exact h.ho
 have hio : io < H'.length := (zac.1 ho).1
 rw [Fv 1 io (0 + 1) x' _ [x'] H' K ho hlf rfl (Bd rfl) rfl]
 have hni : io ∉ ids' := fun hm => by
  rcases h2 io hm with h' | h'
  exact h.o1 h'
  omega
 refine hk _ ⟨?_, ?_, ?_, h.qn, ?_, ?_, h.ne, h.ne1, h.ne2, hni, h.o2, ?_, h.z2, ?_, ?_⟩
 rw [zaY hio]
 rfl
 refine h1.frame fun i hi => ?_
 rw [za4 (fun (e : io = i) => hni (e ▸ hi))]
 refine Di 7 _ _ _ h.hq fun i hi => ?_
 rw [za4 (fun (e : io = i) => h.o2 (e ▸ hi)), h3 i (l4 i hi) (h.dj i hi)]
 obtain ⟨z2, hz, hl⟩ := h.hz
 exact ⟨z2, by rw [za4 h.ne, h3 i2 l2 h.z1]; exact hz, hl⟩
 rw [za4 (fun e => h.ne1 e.symm), h3 i1 l3 h.s1]
 exact h.src
 intro hm
 rcases h2 i2 hm with h' | h'
 exact h.z1 h'
 omega
 intro hm
 rcases h2 i1 hm with h' | h'
 exact h.s1 h'
 omega
 intro i hi hm
 rcases h2 i hm with h' | h'
 exact h.dj i hi h'
 have := l4 i hi
 omega
theorem OutI.fin {H : Aa} {io i2 i1 : Nat} {o : Bs} {x q : AV} {ids qids : List Nat} (h : OutI H io i2 i1 o x q o.fFl.length (o.fFl.map Aq).flatten ids qids) :
  (Cx true 3 (.ptr io 0) H fun t => D5 3 (.ptr i2 0) t H fun H => Cx true 3 (.ptr i2 0) H fun r0 => A0 An E0.tp 27 H r0) = some (.agg (A5 o)) := by
 obtain ⟨l1, l2, l3, l4⟩ := h.lt
 obtain ⟨z2, hz, hzl⟩ := h.hz
 have hx : Al x = true := by
  rcases h.hs with ⟨rfl, _⟩ | ⟨id, raw, is, _, rfl, _⟩ <;> rfl
 have hq : Al q = true := by
  have := h.hq
  cases q with
  | sc v => cases this
  | nl => rfl
  | sl => rfl
  | agg cs =>
   rw [Ek] at this
   simp only [zaa] at this
   obtain ⟨_, _, _, _, h3⟩ := this
   cases h3
  | tup cs =>
   rw [F4] at this
   simp only [zaa] at this
   obtain ⟨_, _, _, _, h3⟩ := this
   cases h3
  | _ => simp [Bx] at this
 refine F6 (ds := [si o.fLast, x, q]) h.ho (Bd rfl) rfl ?_
 have hc : Cq (.agg [si o.fLast, x, q]) = some [si o.fLast, x, q] := by
  show (if (true && (Al x && (Al q && true))) = true then _ else none) = _
  rw [hx, hq]
  rfl
 rw [Fv 3 i2 0 _ ⟨z2, true, true⟩ [.sc (.int .i64 o.fLast), x, q] H _ hz hc rfl (by show 0 + 3 ≤ z2.length; omega) rfl]
 have hs : Cd z2 0 [si o.fLast, x, q] = [si o.fLast, x, q] := by
  unfold Cd
  rw [zbF, zah, zaX (by rw [hzl]; exact zai _), zam]
 simp only [hs]
 refine F6 (ds := [.sc (.int .i64 o.fLast), x, q]) (cs := [.sc (.int .i64 o.fLast), x, q]) (by rw [zaY l2]) (Bd rfl) rfl ?_
 have e1 := (h.hs.frame (H' := H.set i2 ⟨[.sc (.int .i64 o.fLast), x, q], true, true⟩) fun i hi => by rw [za4 (fun (e : i2 = i) => h.z1 (e ▸ hi))]).res P1
 have e2 := Di (H' := H.set i2 ⟨[.sc (.int .i64 o.fLast), x, q], true, true⟩) 7 _ _ _ h.hq fun i hi => by rw [za4 (fun (e : i2 = i) => h.z2 (e ▸ hi))]
 obtain ⟨i, hi, hcy⟩ := Xv
 rw [A0, Ek, hi, zab, hcy]
 simp only [Gj, Cc, Hf, e1, e2, zab, zah, zam]
 rw [if_pos]
 rfl
 rw [zaJ]
 exact ⟨h.hs.nodup, h.qn, fun a ha b hb e => h.dj b hb (e ▸ ha)⟩
def Ms (o : Bs) : Prop := (o.fFl.length ≤ 1048576 ∧ ∀ x ∈ o.fFl, x.fM.fBody.size ≤ 1048576) ∧ (o.fQ.length ≤ 1048576 ∧ ∀ x ∈ o.fQ, x.fBody.size ≤ 1048576)
theorem R9 (n : Nat) (hn : 1048576 < n) (o : Bs) (hs : Ms o) (io i2 i1 : Nat) (q : AV) (qids : List Nat) : ∀ (t pre : List Ah) (m : Nat) (x : AV) (H : Aa) (ids : List Nat), o.fFl = pre ++ t → t.length < m → OutI H io i2 i1 o x q pre.length (pre.map Aq).flatten ids qids →
  Pe (PR (n + 3) AV) (n + 3) (fun x H => A0 An E0.tp 27 H x) m (.ptr i1 0) (.ptr i2 0) (.ptr io 0) (si pre.length) H = some (.agg (A5 o))
 | [], pre, m + 1, x, H, ids, he, hm, hi => by
  rw [zam] at he
  show (PR (n + 3) AV).fadr _ _ _ = _
  simp only [Bk, A2, Bm, A4, At, A9]
  refine Ai (Bo (c := Aj Aq o.fFl) hi.src (Bd rfl) rfl (Dh ?_))
  rw [Eb, D4, if_neg (by rw [he]; simp)]
  subst he
  exact hi.fin
 | y :: t, pre, m + 1, x, H, ids, he, hm, hi => by
  have hlt : pre.length < o.fFl.length := by rw [he]; simp
  have hy : y.fM.fBody.size ≤ 1048576 := hs.1.2 y (by rw [he]; simp)
  have hlen := hs.1.1
  show (PR (n + 3) AV).fadr _ _ _ = _
  simp only [Bk, A2, Bm, A4, At, A9, Bq, Be, Ba, Cg]
  refine Ai (Bo (c := Aj Aq o.fFl) hi.src (Bd rfl) rfl (Dh ?_))
  rw [Eb, D4, if_pos (by simpa using hlt)]
  refine Ai (Bo (c := x) hi.ho (Bd rfl) rfl (Ai (Bo (c := Aj Aq o.fFl) hi.src (Bd rfl) rfl (AgI Bf (by decide) he (Hs (Hj (c := si y.fId) rfl (Ai (Bo (c := Aj Aq o.fFl) hi.src (Bd rfl) rfl (AgI Bf (by decide) he (Hs (Jz (ds := Ag y.fM) (Bd rfl) rfl (Ai (Bo (c := Aj Aq o.fFl) hi.src (Bd rfl) rfl (AgI Bf (by decide) he (Hs (Hj (c := si y.fSt) rfl ?_))))))))))))))))
  have hst := fun K h => Qc (β := AV) (n := n + 3) (X0 := []) (f := y) (K := K) (r := some (.agg (A5 o))) hi.hs rfl (A6 (E1 _ (Ej _)) Dl) (Q5 (n + 2) y.fM hy) Ni (by omega) h
  simp only [zam] at hst
  refine hst _ fun x' H' ids' h1 h2 h3 h4 => Ai (hi.put h1 h2 h3 fun H'' hi' => ?_)
  rw [Fc _ _ (by omega)]
  have ih := R9 n hn o hs io i2 i1 q qids t (pre ++ [y]) m x' H'' ids' (by rw [he]; simp) (by simpa using hm) (by
   rw [zae, zal, zaA, za1]
   simpa using hi')
  rw [zae, zal] at ih
  exact ih
theorem Lf (n : Nat) (hn : 1048576 < n) (o : Bs) (hs : Ms o) (io i2 i1 : Nat) (q : AV) (qids : List Nat) : ∀ (t pre : List Ah) (m : Nat) (x : AV) (H : Aa) (ids : List Nat), o.fFl = pre ++ t → t.length < m → OutI H io i2 i1 o x q pre.length (pre.map Aq).flatten ids qids →
  Pd (PR (n + 3) AV) (n + 3) (fun x H => A0 An E0.tp 27 H x) m (.ptr i2 0) (.ptr io 0) (Aj Aq o.fFl) (si o.fFl.length) (si pre.length) H = some (.agg (A5 o))
 | [], pre, m + 1, x, H, ids, he, hm, hi => by
  rw [zam] at he
  show (PR (n + 3) AV).bin _ _ _ _ = _
  simp only [Bk, A2, Bm, A4, At, A9]
  rw [Eb, D4, if_neg (by rw [he]; simp)]
  subst he
  exact hi.fin
 | y :: t, pre, m + 1, x, H, ids, he, hm, hi => by
  have hlt : pre.length < o.fFl.length := by rw [he]; simp
  have hy : y.fM.fBody.size ≤ 1048576 := hs.1.2 y (by rw [he]; simp)
  have hlen := hs.1.1
  obtain ⟨l1, l2, l3, l4⟩ := hi.lt
  show (PR (n + 3) AV).bin _ _ _ _ = _
  simp only [Bk, A2, Bm, A4, At, A9, Bq, Be, Ba, Cg, Cf]
  rw [Eb, D4, if_pos (by simpa using hlt)]
  refine AgI Bf (by decide) he (Jz (ds := Aq y) (Bd rfl) rfl (Pm rfl (Bf _) (Lm (Fg _)) fun i5 h5 => Ai (Bo (c := x) (Ir hi.ho _) (Bd rfl) rfl (Ai (Bo (c := si y.fId) h5 (Bd rfl) rfl (Ai (F6 (ds := Ag y.fM) h5 (Bd rfl) rfl (Ai (Bo (c := si y.fSt) h5 (Bd rfl) rfl (Qc (β := AV) (n := n + 3) (X0 := [⟨Aq y, true, true⟩]) (f := y) (r := some (.agg (A5 o))) hi.hs rfl (A6 (E1 _ (Ej _)) Dl) (Rg (n + 1) (by omega) y.fM hy) Ni (by omega) fun x' H' ids' h1 h2 h3 h4 => Ai (hi.put h1 h2 h3 fun H'' hi' => ?_)))))))))))
  rw [Fc _ _ (by omega)]
  have ih := Lf n hn o hs io i2 i1 q qids t (pre ++ [y]) m x' H'' ids' (by rw [he]; simp) (by simpa using hm) (by
   rw [zae, zal, zaA, za1]
   simpa using hi')
  rw [zae, zal] at ih
  exact ih
theorem Ae3 (o : Bs) (A : AV × List Gm) (hA : Bh An E0.tp 2 25 (Aj Ag o.fQ) = A) : OutI (([⟨A5 o, true, true⟩, ⟨Cs, true, true⟩] ++ A.2 ++ [⟨Cs, true, true⟩] : Aa).set (2 + A.2.length) ⟨[.sc (.int .i64 o.fLast), .nl, A.1], true, true⟩) (2 + A.2.length) 1 0 o .nl A.1 0 [] [] (zaW 2 A.2.length) := by
 have hlen : ([⟨A5 o, true, true⟩, ⟨Cs, true, true⟩] ++ A.2 : Aa).length = 2 + A.2.length := by simp; omega
 have e : ([⟨A5 o, true, true⟩, ⟨Cs, true, true⟩] ++ A.2 ++ [⟨Cs, true, true⟩] : Aa).set (2 + A.2.length) ⟨[si o.fLast, .nl, A.1], true, true⟩ = [⟨A5 o, true, true⟩, ⟨Cs, true, true⟩] ++ A.2 ++ [⟨[si o.fLast, .nl, A.1], true, true⟩] := by
  rw [← hlen]
  exact Zv _ _ _ []
 rw [e]
 refine ⟨?_, OwnSI.nil _ _ _ _, ?_, zaP, ⟨Cs, rfl, rfl⟩, rfl, by omega, by omega, by decide, by simp, ?_, by simp, ?_, by simp, by simp⟩
 rw [← hlen]
 exact Iy _ _ []
 rw [← hA]
 refine Fu 7 _ _ 2 (Gy (d := 6) Dw Ju (Hm 4) o.fQ) ?_
 rw [hA]
 exact K9 [(⟨A5 o, true, true⟩ : Gm), ⟨Cs, true, true⟩] A.2 _
 rw [zaK]; omega
 rw [zaK]; omega
theorem Ae4 (o : Bs) (A : AV × List Gm) (hA : Bh An E0.tp 3 25 (Aj Ag o.fQ) = A) : OutI (([⟨A5 o, true, true⟩, ⟨Cs, true, true⟩, ⟨Cs, true, true⟩] ++ A.2 : Aa).set 2 ⟨[.sc (.int .i64 o.fLast), .nl, A.1], true, true⟩) 2 1 0 o .nl A.1 0 [] [] (zaW 3 A.2.length) := by
 refine ⟨rfl, OwnSI.nil _ _ _ _, ?_, zaP, ⟨Cs, rfl, rfl⟩, rfl, by decide, by decide, by decide, by simp, ?_, by simp, ?_, by simp, by simp⟩
 rw [← hA]
 refine Fu 7 _ _ 3 (Gy (d := 6) Dw Ju (Hm 4) o.fQ) ?_
 rw [hA]
 exact Jk [(⟨A5 o, true, true⟩ : Gm), ⟨Cs, true, true⟩, (⟨[si o.fLast, .nl, A.1], true, true⟩ : Gm)] A.2
 rw [zaK]; omega
 rw [zaK]; omega
theorem M2 (N : Nat) (o : Bs) : Al (Bh An E0.tp N 25 (Aj Ag o.fQ)).1 = true := rfl
theorem Oi (n : Nat) (hn : 1048576 < n) (o : Bs) (hs : Ms o) : Cy E0 (n + 4) 27 64 [.agg (A5 o)] = some (.agg (A5 o)) := by
 rw [Az, Aie, f64]
 simp only [Ct, Cf, Bk, A2, Z5, Be, A9, Iw]
 rw [Lc _ _ _ (Gs o)]
 simp only [zar, zah, zao, zaw]
 have hz : ([⟨[i0, .nl, .nl], true, true⟩] : Aa) = [⟨Cs, true, true⟩] := rfl
 rw [hz]
 have hH : ([⟨A5 o, true, true⟩] ++ [⟨Cs, true, true⟩] : Aa)[0]? = some ⟨A5 o, true, true⟩ := rfl
 refine Ai (Bo (c := si o.fLast) hH (Bd rfl) rfl (Ai (Bo (c := Aj Ag o.fQ) hH (Bd rfl) rfl (Oq ?_ ?_))))
 rw [E8 (vs := [Aj Ag o.fQ]) rfl (A6 (Ff _ _ _) Dl) (Og n hn o.fQ hs.2.1 hs.2.2)]
 have hl := M2 2 o
 generalize hA : Bh An E0.tp 2 25 (Aj Ag o.fQ) = A at hl
 have hA' : Bh An E0.tp ([⟨A5 o, true, true⟩] ++ [⟨Cs, true, true⟩] : Aa).length 25 (Aj Ag o.fQ) = A := hA
 rw [hA']
 have hc1 : Cq A.1 = some [A.1] := by
  generalize A.1 = y at hl
  cases y <;> first | (simp [Al] at hl; done) | (simp only [Cq, hl, if_true]) | rfl
 refine Nv (cs := [.sc (.int .i64 o.fLast), .nl, A.1]) (by simp only [Er, hc1]; rfl) ?_
 have hlen : ([⟨A5 o, true, true⟩] ++ [⟨Cs, true, true⟩] ++ A.2 : Aa).length = 2 + A.2.length := by simp; omega
 have hg : ([⟨A5 o, true, true⟩] ++ [⟨Cs, true, true⟩] ++ A.2 ++ [⟨Cs, true, true⟩] : Aa)[2 + A.2.length]? = some ⟨Cs, true, true⟩ := by
  rw [← hlen]
  exact Iy _ _ []
 have hc : Cq (.agg [si o.fLast, .nl, A.1]) = some [si o.fLast, .nl, A.1] := by
  show (if (true && (true && (Al A.1 && true))) = true then _ else none) = _
  rw [hl]
  rfl
 rw [hlen, Fv 3 (2 + A.2.length) 0 _ ⟨Cs, true, true⟩ [.sc (.int .i64 o.fLast), .nl, A.1] _ _ hg hc rfl (Bd rfl) rfl]
 exact R9 n hn o hs (2 + A.2.length) 1 0 A.1 _ o.fFl [] (n + 3) .nl _ [] rfl (by have := hs.1.1; omega) (Ae3 o A hA)
 rw [E8 (vs := [Aj Ag o.fQ]) rfl (A6 (Ff _ _ _) Dl) (Og n hn o.fQ hs.2.1 hs.2.2)]
 have hl := M2 3 o
 generalize hA : Bh An E0.tp 3 25 (Aj Ag o.fQ) = A at hl
 have hA' : Bh An E0.tp ([⟨A5 o, true, true⟩] ++ [⟨Cs, true, true⟩] ++ [⟨Cs, true, true⟩] : Aa).length 25 (Aj Ag o.fQ) = A := hA
 rw [hA']
 have hc1 : Cq A.1 = some [A.1] := by
  generalize A.1 = y at hl
  cases y <;> first | (simp [Al] at hl; done) | (simp only [Cq, hl, if_true]) | rfl
 refine Nv (cs := [.sc (.int .i64 o.fLast), .nl, A.1]) (by simp only [Er, hc1]; rfl) ?_
 have hc : Cq (.agg [si o.fLast, .nl, A.1]) = some [si o.fLast, .nl, A.1] := by
  show (if (true && (true && (Al A.1 && true))) = true then _ else none) = _
  rw [hl]
  rfl
 rw [show ([⟨A5 o, true, true⟩] ++ [⟨Cs, true, true⟩] : Aa).length = 2 from rfl]
 rw [Fv 3 2 0 _ ⟨Cs, true, true⟩ [.sc (.int .i64 o.fLast), .nl, A.1] _ _ rfl hc rfl (Bd rfl) rfl]
 exact R9 n hn o hs 2 1 0 A.1 _ o.fFl [] (n + 3) .nl _ [] rfl (by have := hs.1.1; omega) (Ae4 o A hA)
theorem Wj (n : Nat) (hn : 1048576 < n) (o : Bs) (hs : Ms o) : Cy E0 (n + 4) 27 62 [.agg (A5 o)] = some (.agg (A5 o)) := by
 rw [Az, Aid, f62]
 simp only [Ct, Cf, Bk, A2, Z5, Be, A9, Bm, Iw]
 rw [Lc _ _ _ (Gs o)]
 simp only [zar, zah, zao, zaw]
 have hz : ([⟨[i0, .nl, .nl], true, true⟩] : Aa) = [⟨Cs, true, true⟩] := rfl
 rw [hz]
 have hH : ([⟨A5 o, true, true⟩] ++ [⟨Cs, true, true⟩] : Aa)[0]? = some ⟨A5 o, true, true⟩ := rfl
 refine Ai (Bo (c := si o.fLast) hH (Bd rfl) rfl (Ai (Bo (c := Aj Ag o.fQ) hH (Bd rfl) rfl (Oq ?_ ?_))))
 rw [E8 (vs := [Aj Ag o.fQ]) rfl (A6 (Ff _ _ _) Dl) (Pa n hn o.fQ hs.2.1 hs.2.2)]
 have hl := M2 2 o
 generalize hA : Bh An E0.tp 2 25 (Aj Ag o.fQ) = A at hl
 have hA' : Bh An E0.tp ([⟨A5 o, true, true⟩] ++ [⟨Cs, true, true⟩] : Aa).length 25 (Aj Ag o.fQ) = A := hA
 rw [hA']
 have hc1 : Cq A.1 = some [A.1] := by
  generalize A.1 = y at hl
  cases y <;> first | (simp [Al] at hl; done) | (simp only [Cq, hl, if_true]) | rfl
 refine Nv (cs := [.sc (.int .i64 o.fLast), .nl, A.1]) (by simp only [Er, hc1]; rfl) ?_
 have hlen : ([⟨A5 o, true, true⟩] ++ [⟨Cs, true, true⟩] ++ A.2 : Aa).length = 2 + A.2.length := by simp; omega
 have hg : ([⟨A5 o, true, true⟩] ++ [⟨Cs, true, true⟩] ++ A.2 ++ [⟨Cs, true, true⟩] : Aa)[2 + A.2.length]? = some ⟨Cs, true, true⟩ := by
  rw [← hlen]
  exact Iy _ _ []
 have hc : Cq (.agg [si o.fLast, .nl, A.1]) = some [si o.fLast, .nl, A.1] := by
  show (if (true && (true && (Al A.1 && true))) = true then _ else none) = _
  rw [hl]
  rfl
 rw [hlen, Fv 3 (2 + A.2.length) 0 _ ⟨Cs, true, true⟩ [.sc (.int .i64 o.fLast), .nl, A.1] _ _ hg hc rfl (Bd rfl) rfl]
 have hI := Ae3 o A hA
 exact Ai (Bo (c := Aj Aq o.fFl) hI.src (Bd rfl) rfl (Dh (Lf n hn o hs (2 + A.2.length) 1 0 A.1 _ o.fFl [] (n + 3) .nl _ [] rfl (by have := hs.1.1; omega) hI)))
 rw [E8 (vs := [Aj Ag o.fQ]) rfl (A6 (Ff _ _ _) Dl) (Pa n hn o.fQ hs.2.1 hs.2.2)]
 have hl := M2 3 o
 generalize hA : Bh An E0.tp 3 25 (Aj Ag o.fQ) = A at hl
 have hA' : Bh An E0.tp ([⟨A5 o, true, true⟩] ++ [⟨Cs, true, true⟩] ++ [⟨Cs, true, true⟩] : Aa).length 25 (Aj Ag o.fQ) = A := hA
 rw [hA']
 have hc1 : Cq A.1 = some [A.1] := by
  generalize A.1 = y at hl
  cases y <;> first | (simp [Al] at hl; done) | (simp only [Cq, hl, if_true]) | rfl
 refine Nv (cs := [.sc (.int .i64 o.fLast), .nl, A.1]) (by simp only [Er, hc1]; rfl) ?_
 have hc : Cq (.agg [si o.fLast, .nl, A.1]) = some [si o.fLast, .nl, A.1] := by
  show (if (true && (true && (Al A.1 && true))) = true then _ else none) = _
  rw [hl]
  rfl
 rw [show ([⟨A5 o, true, true⟩] ++ [⟨Cs, true, true⟩] : Aa).length = 2 from rfl]
 rw [Fv 3 2 0 _ ⟨Cs, true, true⟩ [.sc (.int .i64 o.fLast), .nl, A.1] _ _ rfl hc rfl (Bd rfl) rfl]
 have hI := Ae4 o A hA
 exact Ai (Bo (c := Aj Aq o.fFl) hI.src (Bd rfl) rfl (Dh (Lf n hn o hs 2 1 0 A.1 _ o.fFl [] (n + 3) .nl _ [] rfl (by have := hs.1.1; omega) hI)))
end
section
open Go
variable {α : Type}
theorem Acc {wt : α → Nat} (sm : α → Prop) (hs : ∀ x, wt x ≤ 1048576 → sm x) (l : List α) (h : Fp wt l ≤ 1048576) : l.length ≤ 1048576 ∧ ∀ y ∈ l, sm y := by
 have h1 := Ks wt l
 refine ⟨by omega, fun y hy => hs y ?_⟩
 have h2 := O6 (wt := wt) hy
 omega
def Qo (x : Br) : Prop := x.fBody.size ≤ 1048576 ∧ True
theorem Nt (x : Br) (h : Bc x ≤ 1048576) : Qo x := by
 have h0 := h
 unfold Bc at h0
 exact ⟨by omega, trivial⟩
def Mr (x : Ah) : Prop := x.fM.fBody.size ≤ 1048576 ∧ True
theorem Ux (x : Ah) (h : Au x ≤ 1048576) : Mr x := by
 have h0 := h
 unfold Au Bc at h0
 exact ⟨by omega, trivial⟩
def Akr (x : Bs) : Prop := (x.fFl.length ≤ 1048576 ∧ ∀ y ∈ x.fFl, Mr y) ∧ (x.fQ.length ≤ 1048576 ∧ ∀ y ∈ x.fQ, Qo y) ∧ True
theorem Zw (x : Bs) (h : D6 x ≤ 1048576) : Akr x := by
 have e0 := Ks Au x.fFl
 have e1 := Ks Bc x.fQ
 have h0 := h
 unfold D6 at h0
 exact ⟨Acc Mr Ux _ (by omega), Acc Qo Nt _ (by omega), trivial⟩
def AiQ (x : B5) : Prop := (x.fO.fFl.length ≤ 1048576 ∧ ∀ y ∈ x.fO.fFl, Mr y) ∧ (x.fO.fQ.length ≤ 1048576 ∧ ∀ y ∈ x.fO.fQ, Qo y) ∧ x.fIn.length ≤ 1048576 ∧ True
theorem AgD (x : B5) (h : J3 x ≤ 1048576) : AiQ x := by
 have e0 := Ks Au x.fO.fFl
 have e1 := Ks Bc x.fO.fQ
 have h0 := h
 unfold J3 D6 at h0
 exact ⟨Acc Mr Ux _ (by omega), Acc Qo Nt _ (by omega), by omega, trivial⟩
end
section
open Go
def Akh : Br := ⟨⟨#[]⟩, ⟨#[]⟩, 0, false⟩
def Ar (l : List Br) : Br := l.headD Akh
def Ahm (l : List Br) : Bool := !l.isEmpty
theorem Xt {ty : Nat} {H : Aa} {ts : List Nat} {raw cells : List AV} {ids : List Nat} (hts : E0.tp ty = some ts) (h : Cc (Bx An E0.tp H 7) ts raw = some (cells, ids)) (hn : ids.Nodup) : A0 An E0.tp ty H (.tup raw) = some (.tup cells) := by
 rw [A0, F4, hts, zab, h, zab, zab, if_pos hn]
theorem Akl {H : Aa} {t0 t1 t2 : Nat} {x0 x1 : AV} {v : Value} {a b : AV × List Nat} (h0 : Bx An E0.tp H 7 t0 x0 = some a) (h1 : Bx An E0.tp H 7 t1 x1 = some b) : Cc (Bx An E0.tp H 7) [t0, t1, t2] [x0, x1, .sc v] = some ([a.1, b.1, .sc v], a.2 ++ b.2) := by
 simp only [Cc, h0, h1, Hf, zab, zam]
theorem AiL (H : Aa) : Bx An E0.tp H 7 33 (.agg G5) = some (.agg (Ag Akh), []) := by
 obtain ⟨i, hi, hc⟩ := Ni
 rw [Ek, hi, zab, hc]
 rfl
theorem Ae6 {H : Aa} {raw cells : List AV} {ids : List Nat} (h : Cc (Bx An E0.tp H 6) G6 raw = some (cells, ids)) : Bx An E0.tp H 7 33 (.agg raw) = some (.agg cells, ids) := by
 obtain ⟨i, hi, hc⟩ := Ni
 rw [Ek, hi, zab, hc, h]
 rfl
theorem Acd (n : Nat) (hn : 1048576 < n) (x0 : List Br) (k0 : x0.length ≤ 9223372036854775807 ∧ ∀ z ∈ x0, Ce z) (b0 : Fp Bc x0 ≤ 1048576) : Cy E0 (n + 4) 100 129 [Aj Ag x0] = some (.tup [Aj Ag x0.tail, .agg (Ag (Ar x0)), .sc (.bool (Ahm x0))]) := by
 have hlen : x0.length ≤ 1048576 := by have := Ks Bc x0; omega
 have hs : ∀ x ∈ x0, x.fBody.size ≤ 1048576 := by
  intro x hx
  have h1 := Ks Bc x0
  have h2 := O6 (wt := Bc) hx
  have h3 : Bc x = x.fTopic.size + (x.fBody.size + 0) := rfl
  omega
 rw [Az, Af7, f129]
 simp only [Cf, Bm, A4, At, Be, A9, A2, Cp, Bq, Iw, zar, zah]
 have hz : ([⟨[sE, .nl, i0, bF], true, true⟩] : Aa) = [⟨G5, true, true⟩] := rfl
 rw [hz]
 refine Dh ?_
 cases x0 with
 | nil =>
  refine Av (v := bT) (fun k => rfl) (Ey rfl (Nv (cs := G5) rfl ?_))
  rw [Fv 4 0 0 _ ⟨G5, true, true⟩ G5 _ _ rfl rfl rfl (by decide) rfl]
  exact F6 (ds := G5) (cs := G5) rfl (zai _) rfl (Xt rfl (Akl (a := (.ro 0 [], [])) rfl (AiL _)) zb3)
 | cons m l =>
  have hm : m.fBody.size ≤ 1048576 := hs m za7
  refine Av (v := bF) (fun k => ?_) ?_
  show k (.sc (.bool (((m :: l).length : Int) == 0))) = _
  have e : (((m :: l).length : Int) == 0) = false := by
   rw [beq_eq_false_iff_ne]
   intro h
   have : (m :: l).length = l.length + 1 := rfl
   omega
  rw [e]
  refine E7 rfl ?_
  have hsl := S2 Dw (m :: l) 1 (by simp) (β := AV)
  have hsl' : ∀ k : AV → Option AV, Iz 4 (Aj Ag (m :: l)) (some (si 1)) none k = k (Aj Ag l) := fun k => hsl k
  rw [hsl']
  have hel := fun k => L0 (β := AV) Dw (by decide) [] m l k
  simp only [zah, zar, zbe] at hel
  rw [hel, Qh 4 _ _ _ _ (Dw m)]
  rw [E8 (vs := [Aj Ag l]) rfl (A6 (Ff _ _ _) Dl) (Og n hn l (by simp at hlen; omega) fun x hx => hs x (zax _ hx))]
  rw [E8 (vs := [.agg (Ag m)]) rfl (A6 (E1 _ (Ej m)) Dl) (Q5 (n + 2) m hm)]
  obtain ⟨i, hi, hc⟩ := Ni
  rw [Gi, hi, za5, hc]
  simp only
  generalize hA : Bh An E0.tp ([⟨G5, true, true⟩] : Aa).length 25 (Aj Ag l) = A
  generalize hB : Bu An E0.tp ([⟨G5, true, true⟩] ++ A.2 : Aa).length G6 (Ag m) = B
  have hBl : B.1.length = 4 := by rw [← hB, Jh]; rfl
  have hBc : Cq (.agg B.1) = some B.1 := by
   show (if _ then _ else none) = _
   rw [if_pos (by rw [← hB]; exact Jp _ _ _ (Ej m))]
  have hsp : Cd G5 0 B.1 = B.1 := by
   unfold Cd
   rw [zbF, zah, zaX (by rw [hBl]; decide), zam]
  rw [Fv 4 0 0 _ ⟨G5, true, true⟩ B.1 _ _ rfl hBc hBl (by decide) rfl]
  simp only [hsp]
  have hH : ([⟨G5, true, true⟩] ++ A.2 ++ B.2 : Aa).set 0 ⟨B.1, true, true⟩ = ⟨B.1, true, true⟩ :: (A.2 ++ B.2) := by simp
  rw [hH]
  refine F6 (ds := B.1) (cs := B.1) rfl (by omega) (by rw [za6, ← hBl, za3]) ?_
  have hA1 : A = Bh An E0.tp 1 25 (Aj Ag l) := hA.symm
  have hNB : ([⟨G5, true, true⟩] ++ A.2 : Aa).length = 1 + A.2.length := by simp; omega
  rw [hNB] at hB
  have o1 : Bx An E0.tp (⟨B.1, true, true⟩ :: (A.2 ++ B.2)) 7 25 A.1 = some (Aj Ag l, zaW 1 A.2.length) := by
   rw [hA1]
   refine Fu 7 _ _ 1 (Gy (d := 6) Dw Ju (Hm 4) l) ?_
   have := K9 [⟨B.1, true, true⟩] (Bh An E0.tp 1 25 (Aj Ag l)).2 B.2
   exact this
  have o2 : Cc (Bx An E0.tp (⟨B.1, true, true⟩ :: (A.2 ++ B.2)) 6) G6 B.1 = some (Ag m, zaW (1 + A.2.length) B.2.length) := by
   rw [← hB]
   refine Ig (fun ty t N h h' _ => Fu 6 ty t N h h') G6 (Ag m) (1 + A.2.length) (Hm 4 m) ?_ (E3 _ _ _)
   have := Jk (⟨B.1, true, true⟩ :: A.2) B.2
   rw [zao, zbD] at this
   rw [hB]
   exact this
  refine Xt rfl (Akl o1 (Ae6 o2)) ?_
  have := List.range'_append (s := 1) (m := A.2.length) (n := B.2.length) (step := 1)
  rw [zbv] at this
  rw [this]
  exact zaP
theorem Zt (x0 : List Br) (b0 : Fp Bc x0 ≤ 1048576) : Bc (Ar x0) ≤ 1048576 ∧ Qo (Ar x0) := by
 have h : Bc (Ar x0) ≤ 1048576 := by
  cases x0 with
  | nil => decide
  | cons m l =>
   have : Fp Bc (m :: l) = 1 + Bc m + Fp Bc l := rfl
   show Bc m ≤ _
   omega
 exact ⟨h, Nt _ h⟩
end
section
open Go
def Qv : B0 := ⟨0, false, 0, false, 0, ⟨#[]⟩, ⟨#[]⟩, ⟨#[]⟩, 0, false, 0, false, ⟨#[]⟩, ⟨#[]⟩, 0, false, false, ⟨#[]⟩, false, ⟨#[]⟩, 0, false, [], [], []⟩
end
end Go.Proofs.YtdofipeaomgbbaaGreatDoor.Abs
set_option maxHeartbeats 1600000
namespace Go.Proofs.YtdofipeaomgbbaaGreatDoor.Abs
open _root_.Option renaming bind_eq_some_iff → zaa, bind_some → zab, getD_some → za5
open _root_.List renaming getElem?_eq_some_iff → zac, replicate → zad, length_append → zae, getElem?_append_right → zaf, getElem?_append_left → zag, nil_append → zah, append_assoc → zaj, length_singleton → zal, append_nil → zam, length_cons → zao, mem_append_right → zaq, length_nil → zar, mem_append_left → zat, cons_append → zau, mem_cons → zav, mem_cons_of_mem → zax, map_cons → za0, flatten_append → za1, take_length → za3, getElem?_set_ne → za4, drop_zero → za6, mem_cons_self → za7, mem_append → za9, map_append → zaA, replicate_append_replicate → zaB, flatten_cons → zaD, all_eq_true → zaE, length_drop → zaF, nodup_cons → zaH, nodup_append → zaJ, mem_range'_1 → zaK, length_take → zaL, nodup_range' → zaP, take_append_drop → zaR, all_cons → zaT, range' → zaW, drop_of_length_le → zaX, getElem?_set_self → zaY, drop_drop → zbb, length_set → zbh, take_of_length_le → zbi, any_cons → zbt, length_map → zbz, map_nil → zb0, Perm → zb1, nodup_nil → zb3, headD_cons → zb9, drop_left' → zbA, tail_cons → zbC, take_zero → zbF
open _root_.Nat renaming le_refl → zai, zero_add → zaw, le_trans → za2, sub_self → zaI, add_assoc → zaO, min_eq_left → zaQ, add_mul → zaV, add_zero → zaZ, mul_le_mul_right → zbd, zero_le → zbu, one_mul → zbv, add_comm → zbD, succ_mul → zbG
open _root_.Bool renaming false_eq_true → zan, eq_iff_iff → zaM, false_or → zbp
open _root_.Int renaming natCast_zero → zbe, toNat_natCast → zbf
section
open Go
def Ch (m : Br) (i : Int) (d : Bool) : B0 := ⟨3, d, m.fQos, m.fRetain, i, m.fTopic, m.fBody, ⟨#[]⟩, 0, false, 0, false, ⟨#[]⟩, ⟨#[]⟩, 0, false, false, ⟨#[]⟩, false, ⟨#[]⟩, 0, false, [], [], []⟩
theorem Xq (n : Nat) (hn : 1048576 < n) (m : Br) (i : Int) (d : Bool) (hs : m.fBody.size ≤ 1048576) : Cy E0 (n + 1) 41 130 [.agg (Ag m), .sc (.int .i64 i), .sc (.bool d)] = some (.agg (C4 (Ch m i d))) := by
 rw [Az, Af8, f130]
 refine Iq (G := (· = some (.agg (C4 (Ch m i d))))) ?_
 try simp only [X1, Xz]
 have s0 : Sep [] [] := Io
 refine Nd s0 (Gq (Ej _)) fun i1 H s2 => Dz s2 fun i3 H s4 => Am (o' := 2) rfl (Bg (c := si m.fQos) s4 A8 rfl (Am (o' := 3) rfl (Bg (c := sb m.fRetain) s4 A8 rfl (Am (o' := 0) rfl (Bg (c := ss m.fTopic) s4 A8 rfl (Am (o' := 1) rfl (Bg (c := Bj m.fBody) s4 A8 rfl (AfV s4 (by omega) fun x5 H lx5 s6 => ?_))))))))
 refine Bp (cs := [si 3, sb d, si m.fQos, sb m.fRetain, si i, ss m.fTopic, x5, sE, i0, bF, i0, bF, sE, .nl, i0, bF, bF, sE, bF, .nl, i0, bF, .nl, .nl, .nl]) (Gr (z' := [si 3, bF, i0, bF, i0, sE, .nl, sE, i0, bF, i0, bF, sE, .nl, i0, bF, bF, sE, bF, .nl, i0, bF, .nl, .nl, .nl]) (D3 rfl) rfl (Bd rfl) rfl (Gr (z' := [si 3, sb d, i0, bF, i0, sE, .nl, sE, i0, bF, i0, bF, sE, .nl, i0, bF, bF, sE, bF, .nl, i0, bF, .nl, .nl, .nl]) (D3 rfl) rfl (Bd rfl) rfl (Gr (z' := [si 3, sb d, si m.fQos, bF, i0, sE, .nl, sE, i0, bF, i0, bF, sE, .nl, i0, bF, bF, sE, bF, .nl, i0, bF, .nl, .nl, .nl]) (D3 rfl) rfl (Bd rfl) rfl (Gr (z' := [si 3, sb d, si m.fQos, sb m.fRetain, i0, sE, .nl, sE, i0, bF, i0, bF, sE, .nl, i0, bF, bF, sE, bF, .nl, i0, bF, .nl, .nl, .nl]) (D3 rfl) rfl (Bd rfl) rfl (Gr (z' := [si 3, sb d, si m.fQos, sb m.fRetain, si i, sE, .nl, sE, i0, bF, i0, bF, sE, .nl, i0, bF, bF, sE, bF, .nl, i0, bF, .nl, .nl, .nl]) (D3 rfl) rfl (Bd rfl) rfl (Gr (z' := [si 3, sb d, si m.fQos, sb m.fRetain, si i, ss m.fTopic, .nl, sE, i0, bF, i0, bF, sE, .nl, i0, bF, bF, sE, bF, .nl, i0, bF, .nl, .nl, .nl]) (D3 rfl) rfl (Bd rfl) rfl (Gr (z' := [si 3, sb d, si m.fQos, sb m.fRetain, si i, ss m.fTopic, x5, sE, i0, bF, i0, bF, sE, .nl, i0, bF, bF, sE, bF, .nl, i0, bF, .nl, .nl, .nl]) (D3 lx5) rfl (Bd rfl) rfl (rfl)))))))) ?_
 refine Bt (cs' := [si 3, sb d, si m.fQos, sb m.fRetain, si i, ss m.fTopic, x5, sE, i0, bF, i0, bF, sE, .nl, i0, bF, bF, sE, bF, .nl, i0, bF, .nl, .nl, .nl]) s6 A8 (Ac (Ab rfl (Ab rfl (Ab rfl (Ab rfl (Ab rfl (Ab rfl (Ab lx5 rfl)))))))) rfl (Bd rfl) rfl fun H s7 => Af s7 (.here) rfl (Ee (M7 s7 ⟨_, rfl, rfl⟩ (Ki (.own A8 (Ki (.nl (W0 (.nl (.sc (.sc (.nl (.nl (.nl .nil))))))))))) (Kp ⟨(Ay (Jd m.fBody) (by decide)), (Kp ⟨H5, (Vz ⟨H5, (Tk ⟨H5, ⟨H5, ⟨H5, trivial⟩⟩⟩)⟩)⟩)⟩)) ?_)
 have e8 : Ch m i d = (⟨3, d, m.fQos, m.fRetain, i, m.fTopic, m.fBody, ⟨#[]⟩, 0, false, 0, false, ⟨#[]⟩, ⟨#[]⟩, 0, false, false, ⟨#[]⟩, false, ⟨#[]⟩, 0, false, [], [], []⟩ : B0) := by
  clear s0 s2 s4 s6 s7
  first | assumption | (simp only [Ch, if_true, if_false, zan]; first | done | rfl)
 ·rw [e8]
  first | done | rfl
end
section
open Go
def nx (x : Int) : Int := x % 65535 + 1
def Km (used : List Int) : Nat → Int → Int × Bool
 | 0, _ => (0, false)
 | k + 1, x => if used.contains (nx x) then Km used k (nx x) else (nx x, true)
def orb : Nat → Int → List Int
 | 0, _ => []
 | k + 1, x => nx x :: orb k (nx x)
theorem Aa3 : ∀ (k : Nat) (x : Int), (orb k x).length = k
 | 0, _ => rfl
 | k + 1, x => by rw [orb, zao, Aa3 k]
theorem Aa4 : ∀ (k : Nat) (x y : Int), 0 ≤ x → y ∈ orb k x → ∃ i : Nat, i < k ∧ y = (x + i) % 65535 + 1
 | 0, _, _, _, h => by cases h
 | k + 1, x, y, h0, h => by
  rcases zav.1 h with rfl | h
  exact ⟨0, by omega, by unfold nx; simp⟩
  obtain ⟨i, hi, rfl⟩ := Aa4 k (nx x) y (by unfold nx; omega) h
  refine ⟨i + 1, by omega, ?_⟩
  unfold nx
  omega
theorem Uk : ∀ (k : Nat) (x : Int), 0 ≤ x → k ≤ 65535 → (orb k x).Nodup
 | 0, _, _, _ => zb3
 | k + 1, x, h0, hk => by
  rw [orb, zaH]
  refine ⟨fun hm => ?_, Uk k _ (by unfold nx; omega) (by omega)⟩
  obtain ⟨i, hi, e⟩ := Aa4 k (nx x) (nx x) (by unfold nx; omega) hm
  unfold nx at e
  omega
theorem Uw : ∀ (used : List Int) (k : Nat) (x : Int), (Km used k x).2 = false → ∀ y ∈ orb k x, y ∈ used
 | used, 0, _, _, y, hy => by cases hy
 | used, k + 1, x, h, y, hy => by
  rw [Km] at h
  split at h
  rename_i hc
  rcases zav.1 hy with rfl | hy
  exact List.contains_iff_mem.1 hc
  exact Uw used k _ h y hy
  cases h
theorem Uv : ∀ (used : List Int) (k j : Nat) (x : Int), (Km used k x).2 = true → Km used (k + j) x = Km used k x
 | used, 0, _, _, h => by cases h
 | used, k + 1, j, x, h => by
  rw [show k + 1 + j = (k + j) + 1 by omega, Km, Km]
  rw [Km] at h
  split
  rename_i hc
  rw [if_pos hc] at h
  exact Uv used k j _ h
  rfl
theorem Uh : ∀ (l u : List Int), l.Nodup → (∀ y ∈ l, y ∈ u) → l.length ≤ u.length
 | [], u, _, _ => zbu _
 | x :: l, u, h, hs => by
  rw [zaH] at h
  have hx : x ∈ u := hs x za7
  have h1 := Uh l (u.erase x) h.2 fun y hy => (List.mem_erase_of_ne (fun (e : y = x) => h.1 (e ▸ hy))).2 (hs y (zax _ hy))
  rw [List.length_erase_of_mem hx] at h1
  have := List.length_pos_of_mem hx
  rw [zao]
  omega
theorem AgB (used : List Int) (x : Int) (h0 : 0 ≤ x) : Km used 65535 x = Km used (min (used.length + 1) 65535) x := by
 by_cases h : used.length + 1 < 65535
 rw [zaQ (by omega)]
 cases hs : (Km used (used.length + 1) x).2
 exfalso
 have h1 := Uh _ used (Uk (used.length + 1) x h0 (by omega)) (Uw used _ x hs)
 rw [Aa3] at h1
 omega
 have := Uv used (used.length + 1) (65535 - (used.length + 1)) x hs
 rw [show used.length + 1 + (65535 - (used.length + 1)) = 65535 by omega] at this
 exact this
 rw [Nat.min_eq_right (by omega)]
def Cm (last : Int) (used : List Int) : Int × Bool := if 0 ≤ last ∧ last ≤ 65535 then Km used 65535 last else (0, false)
end
section
open Go
variable {β : Type} {n : Nat} {r : Option β}
end
section
open Go
theorem T9 (n : Nat) (u : List Int) (hu : u.length ≤ 1048576) (z : Int) (k : AV → Aa → Option AV) : ∀ (t pre : List Int) (m : Nat) (i : Int) (H : Aa), u = pre ++ t → i = ((pre.length : Nat) : Int) → t.length < m → Ll (PR n AV) n k m (Dr u) (.sc (.int .i64 z)) (.sc (.int .i64 i)) H = k (.sc (.bool (t.contains z))) H
 | [], pre, m + 1, i, H, he, hi, hm => by
  rw [zam] at he
  subst he
  rw [Ll]
  simp only [Bm, A4, At]
  refine Dh (Av (v := .sc (.bool (decide (i < (u.length : Nat))))) (fun k => rfl) (E7 (by simp [hi]) ?_))
  rfl
 | y :: t, pre, m + 1, i, H, he, hi, hm => by
  have hlt : pre.length < u.length := by rw [he]; simp
  rw [Ll]
  simp only [Bm, A4, At, Bq, A2]
  refine Dh (Av (v := .sc (.bool (decide (i < (u.length : Nat))))) (fun k => rfl) (Ey (by simp [hi]; omega) ((show Gd (· = k (.sc (.bool ((y :: t).contains z))) H) _ from ?_))))
  refine AbS hi he (Ahe (c := si y) rfl (Cb ?_))
  by_cases hy : y = z
  refine Dd (by simpa using hy) ?_
  show k _ H = k _ H
  simp [hy]
  refine Cj (by simpa using hy) (Hq (by omega) (by omega) ?_)
  have ih := T9 n u hu z k t (pre ++ [y]) m (i + 1) H (by rw [he]; simp) (by rw [hi]; simp) (by simpa using hm)
  refine ih.trans ?_
  have e : (y :: t).contains z = t.contains z := by
   rw [List.contains_cons]
   simp [Ne.symm hy]
  rw [e]
theorem Ake (n ty : Nat) (hn : 1048576 < n) (u : List Int) (hu : u.length ≤ 1048576) (z : Int) : Cy E0 (n + 1) ty 139 [Dr u, .sc (.int .i64 z)] = some (.sc (.bool (u.contains z))) := by
 rw [Az, AfB, f139]
 exact T9 n u hu z _ u [] n 0 [] rfl rfl (by omega)
theorem Akk (x : Int) (h0 : 0 ≤ x) (h1 : x ≤ 65535) : nx x = if x + 1 > 65535 then 1 else x + 1 := by
 unfold nx
 split <;> omega
theorem Zm (n : Nat) (hn : 1048576 < n) (u : List Int) (hu : u.length ≤ 1048576) (k : AV → Aa → Option AV) (H : Aa) : ∀ (j m : Nat) (x c : Int), 0 ≤ c → c + j = min ((u.length : Int) + 1) 65535 → j < m → 0 ≤ x → x ≤ 65535 →
  Kf (PR (n + 1) AV) (n + 1) k m (Dr u) (si x) (si c) H = k (.tup [.sc (.int .i64 (Km u j x).1), .sc (.bool (Km u j x).2)]) H := by
 intro j
 induction j with
 | zero =>
  intro m x c h0 hc hm hx0 hx1
  obtain ⟨m, rfl⟩ : ∃ m', m = m' + 1 := ⟨m - 1, by omega⟩
  rw [Kf]
  simp only [Bm, A4, At, Bi, Pr.gT, Pr.gF, Pr.hT, Pr.hF, Pr.kT, Pr.kF, Bz]
  refine Dh (Av (v := sb (decide (c ≤ (u.length : Nat)))) (fun k => rfl) ?_)
  by_cases hl : c ≤ (u.length : Nat)
  refine Ao (by simpa using hl) (Ao (by simpa using hl) (Av (v := .sc (.bool (decide (c < 65535)))) (fun k => rfl) (P2 (by simpa using hl) (E7 (by simp; omega) ?_))))
  rfl
  refine Ap (by simpa using hl) (Ap (by simpa using hl) (Q0 (by simpa using hl) (E7 rfl ?_)))
  rfl
 | succ j ih =>
  intro m x c h0 hc hm hx0 hx1
  obtain ⟨m, rfl⟩ : ∃ m', m = m' + 1 := ⟨m - 1, by omega⟩
  rw [Kf]
  simp only [Bm, A4, At, Bi, Pr.gT, Pr.gF, Pr.hT, Pr.hF, Pr.kT, Pr.kF, Bz, Ea]
  refine Dh (Av (v := sb (decide (c ≤ (u.length : Nat)))) (fun k => rfl) ?_)
  have hl : c ≤ (u.length : Nat) := by omega
  refine Ao (by simpa using hl) (Ao (by simpa using hl) (Av (v := .sc (.bool (decide (c < 65535)))) (fun k => rfl) (P2 (by simpa using hl) (Ey (by simp; omega) (Av (v := .sc (.int .i64 (x + 1))) (fun k => by rw [Rb, Fl _ (by omega) (by omega)]) (Av (v := .sc (.bool (decide (x + 1 > 65535)))) (fun k => rfl) (Z4 ?_)))))))
  have hnx := Akk x hx0 hx1
  have hr : 0 ≤ nx x ∧ nx x ≤ 65535 := by
   unfold nx
   omega
  have tail : ∀ y, y = nx x → ((PR (n + 1) AV).call 4 (.fn 139 [] []) [Dr u, si y] H fun t28 H => pUn .not t28 fun t29 => Gz t29 (k (C3 [si y, bT]) H) (E4 .add (si c) (si 1) fun t21 => Kf (PR (n + 1) AV) (n + 1) k m (Dr u) (si y) t21 H)) = k (.tup [.sc (.int .i64 (Km u (j + 1) x).1), .sc (.bool (Km u (j + 1) x).2)]) H := by
   rintro y rfl
   refine De rfl (A6 (Ff _ _ _) (A6 (Cv _ _) Dl)) (Ake n _ hn u hu (nx x)) (Gg ?_)
   rw [Km]
   cases hh : u.contains (nx x)
   refine Ey rfl ?_
   rfl
   exact E7 rfl (Av (v := .sc (.int .i64 (c + 1))) (fun k => by rw [Rb, Fl _ (by omega) (by omega)]) (ih m (nx x) (c + 1) (by omega) (by omega) (by omega) hr.1 hr.2))
  by_cases hg : x + 1 > 65535
  refine Ey (by simpa using hg) ?_
  rw [if_pos hg] at hnx
  exact tail 1 hnx.symm
  refine E7 (by simpa using hg) ?_
  rw [if_neg hg] at hnx
  exact tail (x + 1) hnx.symm
theorem AaD {ty : Nat} {H : Aa} {t0 t1 : Nat} {a b : Value} (hts : E0.tp ty = some [t0, t1]) : A0 An E0.tp ty H (.tup [.sc a, .sc b]) = some (.tup [.sc a, .sc b]) := by
 rw [A0, F4, hts, zab]
 simp [Cc, Hf]
theorem Ace (n : Nat) (hn : 1048576 < n) (ty : Nat) (hty : ∃ t0 t1, E0.tp ty = some [t0, t1]) (x : Int) (u : List Int) (hu : u.length ≤ 1048576) : Cy E0 (n + 2) ty 131 [.sc (.int .i64 x), Dr u] = some (.tup [.sc (.int .i64 (Cm x u).1), .sc (.bool (Cm x u).2)]) := by
 obtain ⟨t0, t1, hty⟩ := hty
 rw [Az, Af9, f131]
 simp only [Ea, At]
 refine De rfl (A6 (Cv _ _) (A6 (Cv _ _) (A6 (Cv _ _) Dl))) (Mj n _ x 0 65535) (Gg ?_)
 unfold Cm
 by_cases h : 0 ≤ x ∧ x ≤ 65535
 rw [if_pos h]
 refine E7 (by simp [Ge, h]) ?_
 rw [Zm n hn u hu _ _ (min (u.length + 1) 65535) (n + 1) x 0 (by omega) (by omega) (by omega) h.1 h.2, AgB u x h.1]
 exact AaD hty
 rw [if_neg h]
 exact Ey (by simp [Ge]; omega) (AaD hty)
end
section
open Go
theorem AkP (o : Bs) (h : D6 o ≤ 1048576) : Ms o := by
 have h1 := Zw o h
 exact ⟨⟨h1.1.1, fun y hy => (h1.1.2 y hy).1⟩, ⟨h1.2.1.1, fun y hy => (h1.2.1.2 y hy).1⟩⟩
def Ih (o : Bs) : Bool := ((F5 o && decide ((o.fQ.length : Int) > 0)) && ((o.fQ.headD Wy).fQos == 0 || decide ((o.fFl.length : Int) < 3)))
def Fw (o : Bs) : Int := (Cm o.fLast (o.fFl.map (·.fId))).1
def Ae (o : Bs) : Bs := if Ih o then (if (Ar o.fQ).fQos = 0 then { o with fQ := o.fQ.tail } else ⟨Fw o, o.fFl ++ [⟨Fw o, Ar o.fQ, (Ar o.fQ).fQos⟩], o.fQ.tail⟩) else o
def B7 (o : Bs) : B0 := if Ih o then (if (Ar o.fQ).fQos = 0 then Ch (Ar o.fQ) 0 false else Ch (Ar o.fQ) (Fw o) false) else Qv
theorem Akp (o : Bs) (b : D6 o ≤ 1048576) : Fp Bc o.fQ ≤ 1048576 := by
 unfold D6 at b
 omega
theorem Y8 (o : Bs) (b : D6 o ≤ 1048576) : o.fFl.length ≤ 1048576 := (Vf o b).1.1
theorem Ss (o : Bs) (b : D6 o ≤ 1048576) : (Ar o.fQ).fBody.size ≤ 1048576 := (Zt o.fQ (Akp o b)).2.1
theorem K5 (n : Nat) (hn : 1048576 < n) (x0 : Bs) (k0 : Qi x0) (b0 : D6 x0 ≤ 1048576) (h13 : (Ih x0) = true) (h21 : (decide (((Ar x0.fQ).fQos) = 0)) = false)  : ∀ (t pre : List Ah) (m : Nat) (i : Int) (i10 i17 i5 i3 i1 : Nat) (a5 x14 x15 x8 x7 : AV) (H : Aa), x0.fFl = pre ++ t → i = ((pre.length : Nat) : Int) → t.length < m → Al a5 = true → Al x14 = true → Al x15 = true → Al x8 = true → Al x7 = true → Sep H [.own a5 39 (Dr (pre.map (·.fId))), .blk i10 [.sc (.int .i64 x0.fLast), x7, x15] true, .blk i17 [.sc (.string ((Ar x0.fQ).fTopic)), x14, .sc (.int .i64 ((Ar x0.fQ).fQos)), .sc (.bool (Ar x0.fQ).fRetain)] true, .own x14 22 (Bj ((Ar x0.fQ).fBody)), .own x15 25 (Aj Ag x0.fQ.tail), .own x8 25 (Aj Ag x0.fQ), .own x7 24 (Aj Aq x0.fFl), .blk i5 [.sc (.int .i64 0), .sc (.bool false), .sc (.int .i64 0), .sc (.bool false), .sc (.int .i64 0), .sc (.string (⟨#[]⟩)), .nl, .sc (.string (⟨#[]⟩)), .sc (.int .i64 0), .sc (.bool false), .sc (.int .i64 0), .sc (.bool false), .sc (.string (⟨#[]⟩)), .nl, .sc (.int .i64 0), .sc (.bool false), .sc (.bool false), .sc (.string (⟨#[]⟩)), .sc (.bool false), .nl, .sc (.int .i64 0), .sc (.bool false), .nl, .nl, .nl] true, .blk i3 [.sc (.int .i64 0), .nl, .nl] true, .blk i1 (A5 x0) true] → Gd (· = some (.tup [.agg (A5 (Ae x0)), .agg (C4 (B7 x0)), .sc (.bool (Ih x0))])) (Lj (PR (n + 12) AV) (n + 12) (fun x H => A0 An E0.tp 45 H x) m (.ptr i1 0) (.ptr i3 0) (.ptr i5 0) (.ptr i10 0) (.ptr i17 0) (a5) (.sc (.int .i64 i)) H)
 | [], pre, m + 1, i, i10, i17, i5, i3, i1, a5, x14, x15, x8, x7, H, he, hi, hm, la5, lx14, lx15, lx8, lx7, s0 => by
  obtain rfl : pre = x0.fFl := by simpa using he.symm
  have hfl := Y8 x0 b0
  have hpb := Ss x0 b0
  rw [Lj]
  try simp only [X1, Xz]
  refine Am (o' := 1) rfl (Bg (c := Aj Aq x0.fFl) s0 D0 rfl (T7 (Oa (Cj (by simp [hi]) (Am (o' := 0) rfl (Bg (c := .sc (.int .i64 x0.fLast)) s0 D0 rfl ?_))))))
  have c201 := Ace (n + 10) (by omega) 102 ⟨_, _, rfl⟩ x0.fLast (x0.fFl.map (·.fId)) (by rw [zbz]; omega)
  refine Im s0 rfl (.cons .sc (.cons (.own (by decide) (.here)) .nil)) (c201) rfl (Dg (Dg Gl)) ?_
  rintro _ _ H ⟨_, rfl, ⟨_, rfl, ⟨rfl, rfl⟩⟩⟩ s202
  simp only [zah] at s202
  refine Es (v := si ((Cm x0.fLast (x0.fFl.map (·.fId))).1)) rfl (Es (v := .sc (.bool (Cm x0.fLast (x0.fFl.map (·.fId))).2)) rfl (Am (o' := 0) rfl (C6 s202 A8 rfl rfl fun H s203 => Am (o' := 1) rfl (Bg (c := x7) s203 (.here) rfl (Af s203 Co rfl (Am (o' := 2) rfl (Bg (c := si ((Ar x0.fQ).fQos)) s203 Co rfl (Bp (cs := [si ((Cm x0.fLast (x0.fFl.map (·.fId))).1), ss ((Ar x0.fQ).fTopic), x14, si ((Ar x0.fQ).fQos), .sc (.bool (Ar x0.fQ).fRetain), si ((Ar x0.fQ).fQos)]) (Gr (z' := [si ((Cm x0.fLast (x0.fFl.map (·.fId))).1), sE, .nl, i0, bF, i0]) (D3 rfl) rfl (Bd rfl) rfl (Gr (z' := [si ((Cm x0.fLast (x0.fFl.map (·.fId))).1), ss ((Ar x0.fQ).fTopic), x14, si ((Ar x0.fQ).fQos), .sc (.bool (Ar x0.fQ).fRetain), i0]) (Ac (Ab rfl (Ab lx14 rfl))) rfl (Bd rfl) rfl (Gr (z' := [si ((Cm x0.fLast (x0.fFl.map (·.fId))).1), ss ((Ar x0.fQ).fTopic), x14, si ((Ar x0.fQ).fQos), .sc (.bool (Ar x0.fQ).fRetain), si ((Ar x0.fQ).fQos)]) (D3 rfl) rfl (Bd rfl) rfl (rfl)))) (Bp (cs := [si ((Cm x0.fLast (x0.fFl.map (·.fId))).1), ss ((Ar x0.fQ).fTopic), x14, si ((Ar x0.fQ).fQos), .sc (.bool (Ar x0.fQ).fRetain), si ((Ar x0.fQ).fQos)]) (Gr (z' := [si ((Cm x0.fLast (x0.fFl.map (·.fId))).1), ss ((Ar x0.fQ).fTopic), x14, si ((Ar x0.fQ).fQos), .sc (.bool (Ar x0.fQ).fRetain), si ((Ar x0.fQ).fQos)]) (Ac (Ab rfl (Ab rfl (Ab lx14 rfl)))) rfl (Bd rfl) rfl (rfl)) (Bw s203 fun i204 H s205 => ?_))))))))))
  refine AfU (cty := [3, 9, 22, 3, 4, 3]) (e := (⟨(Cm x0.fLast (x0.fFl.map (·.fId))).1, ⟨(Ar x0.fQ).fTopic, (Ar x0.fQ).fBody, (Ar x0.fQ).fQos, (Ar x0.fQ).fRetain⟩, (Ar x0.fQ).fQos⟩ : Ah)) (k := 2) s205 ⟨_, _, rfl, rfl, rfl, rfl⟩ Qs (.here) rfl (Ab rfl (Ab rfl (Ab lx14 rfl))) (.sc (.sc (.own C1 (oS3 .nil)))) (Tk ⟨(Aez ((Ar x0.fQ).fBody)), (tK3 trivial)⟩) rfl (by omega) Bf rfl rfl rfl rfl (Jd ((Ar x0.fQ).fBody)) fun x206 H lx206 s207 => Am (o' := 1) rfl (C6 s207 A8 lx206 rfl fun H s208 => Af s208 (.here) rfl (Af s208 C1 rfl ?_))
  have c209 := Xq (n + 11) (by omega) (Ar x0.fQ) ((Cm x0.fLast (x0.fFl.map (·.fId))).1) false hpb
  refine G3 s208 rfl (.agg (.cons .sc (.cons (.shr (by decide) A8) (Mv .nil))) (Mv .nil)) (c209) ⟨_, rfl, rfl⟩ (Hr _) ?_
  rintro _ _ H ⟨x210, x211, x212, x213, x214, x215, lx210, lx211, lx212, lx213, lx214, lx215, rfl, rfl⟩ s216
  simp only [zah, zau] at s216
  refine Bt (cs' := [si ((Cm x0.fLast (x0.fFl.map (·.fId))).1), x206, x15]) s216 Acm (Ac (Ab rfl (Ab lx206 (Ab lx15 rfl)))) rfl (Bd rfl) rfl fun H s217 => ?_
  refine Bt (cs' := [.sc (.int .i64 ((Ch (Ar x0.fQ) ((Cm x0.fLast (x0.fFl.map (·.fId))).1) false).fType)), .sc (.bool (Ch (Ar x0.fQ) ((Cm x0.fLast (x0.fFl.map (·.fId))).1) false).fDup), .sc (.int .i64 ((Ch (Ar x0.fQ) ((Cm x0.fLast (x0.fFl.map (·.fId))).1) false).fQos)), .sc (.bool (Ch (Ar x0.fQ) ((Cm x0.fLast (x0.fFl.map (·.fId))).1) false).fRetain), .sc (.int .i64 ((Ch (Ar x0.fQ) ((Cm x0.fLast (x0.fFl.map (·.fId))).1) false).fId)), .sc (.string ((Ch (Ar x0.fQ) ((Cm x0.fLast (x0.fFl.map (·.fId))).1) false).fTopic)), x210, .sc (.string ((Ch (Ar x0.fQ) ((Cm x0.fLast (x0.fFl.map (·.fId))).1) false).fClient)), .sc (.int .i64 ((Ch (Ar x0.fQ) ((Cm x0.fLast (x0.fFl.map (·.fId))).1) false).fLevel)), .sc (.bool (Ch (Ar x0.fQ) ((Cm x0.fLast (x0.fFl.map (·.fId))).1) false).fClean), .sc (.int .i64 ((Ch (Ar x0.fQ) ((Cm x0.fLast (x0.fFl.map (·.fId))).1) false).fKeep)), .sc (.bool (Ch (Ar x0.fQ) ((Cm x0.fLast (x0.fFl.map (·.fId))).1) false).fHasWill), .sc (.string ((Ch (Ar x0.fQ) ((Cm x0.fLast (x0.fFl.map (·.fId))).1) false).fWTopic)), x211, .sc (.int .i64 ((Ch (Ar x0.fQ) ((Cm x0.fLast (x0.fFl.map (·.fId))).1) false).fWQos)), .sc (.bool (Ch (Ar x0.fQ) ((Cm x0.fLast (x0.fFl.map (·.fId))).1) false).fWRetain), .sc (.bool (Ch (Ar x0.fQ) ((Cm x0.fLast (x0.fFl.map (·.fId))).1) false).fHasUser), .sc (.string ((Ch (Ar x0.fQ) ((Cm x0.fLast (x0.fFl.map (·.fId))).1) false).fUser)), .sc (.bool (Ch (Ar x0.fQ) ((Cm x0.fLast (x0.fFl.map (·.fId))).1) false).fHasPass), x212, .sc (.int .i64 ((Ch (Ar x0.fQ) ((Cm x0.fLast (x0.fFl.map (·.fId))).1) false).fCode)), .sc (.bool (Ch (Ar x0.fQ) ((Cm x0.fLast (x0.fFl.map (·.fId))).1) false).fPresent), x213, x214, x215]) s217 Acm (Ac (Ab rfl (Ab rfl (Ab rfl (Ab rfl (Ab rfl (Ab rfl (Ab lx210 (Ab rfl (Ab rfl (Ab rfl (Ab rfl (Ab rfl (Ab rfl (Ab lx211 (Ab rfl (Ab rfl (Ab rfl (Ab rfl (Ab rfl (Ab lx212 (Ab rfl (Ab rfl (Ab lx213 (Ab lx214 (Ab lx215 rfl)))))))))))))))))))))))))) rfl (Bd rfl) rfl fun H s218 => Af s218 A8 rfl (Af s218 (.here) rfl ?_)
  have s219 := s218.forget D0
  refine Ee (Eh s219 rfl (.agg ⟨_, rfl, rfl⟩ (.sc (.own (.here) (.own K7 .nil))) (.agg ⟨_, rfl, rfl⟩ (Ki (.own Qs (Ki (.own Tl (W0 (.own Jg (.sc (.sc (.own Fq (.own C1 (.own Co .nil))))))))))) (.sc .nil))) ⟨(G4 ⟨_, rfl, rfl⟩ ⟨trivial, ⟨(Ay (Cu (x0.fFl ++ [⟨(Cm x0.fLast (x0.fFl.map (·.fId))).1, ⟨(Ar x0.fQ).fTopic, (Ar x0.fQ).fBody, (Ar x0.fQ).fQos, (Ar x0.fQ).fRetain⟩, (Ar x0.fQ).fQos⟩])) (by decide)), ⟨(Ay (Eg x0.fQ.tail) (by decide)), trivial⟩⟩⟩), ⟨(G4 ⟨_, rfl, rfl⟩ (Kp ⟨(Ay (Jd ((Ch (Ar x0.fQ) ((Cm x0.fLast (x0.fFl.map (·.fId))).1) false).fBody)) (by decide)), (Kp ⟨(Ay (Jd ((Ch (Ar x0.fQ) ((Cm x0.fLast (x0.fFl.map (·.fId))).1) false).fWBody)) (by decide)), (Vz ⟨(Ay (Jd ((Ch (Ar x0.fQ) ((Cm x0.fLast (x0.fFl.map (·.fId))).1) false).fPass)) (by decide)), (Tk ⟨(Ay (Lq ((Ch (Ar x0.fQ) ((Cm x0.fLast (x0.fFl.map (·.fId))).1) false).fWants)) (by decide)), ⟨(Ay (Zo ((Ch (Ar x0.fQ) ((Cm x0.fLast (x0.fFl.map (·.fId))).1) false).fNames)) (by decide)), ⟨(Ay (Kj ((Ch (Ar x0.fQ) ((Cm x0.fLast (x0.fFl.map (·.fId))).1) false).fCodes)) (by decide)), trivial⟩⟩⟩)⟩)⟩)⟩)), ⟨trivial, trivial⟩⟩⟩) ?_
  have e220 : Ae x0 = (⟨(Cm x0.fLast (x0.fFl.map (·.fId))).1, (x0.fFl ++ [⟨(Cm x0.fLast (x0.fFl.map (·.fId))).1, ⟨(Ar x0.fQ).fTopic, (Ar x0.fQ).fBody, (Ar x0.fQ).fQos, (Ar x0.fQ).fRetain⟩, (Ar x0.fQ).fQos⟩]), x0.fQ.tail⟩ : Bs) := by
   clear s0 s202 s203 s205 s207 s208 s216 s217 s218 s219
   try simp only [bne_iff_ne, beq_iff_eq, beq_eq_false_iff_ne, J4] at h13 h21
   first | assumption | (simp only [Ae, B7, Fw, h13, h21, if_true, if_false, zan]; first | done | rfl)
  have e221 : B7 x0 = (⟨(Ch (Ar x0.fQ) ((Cm x0.fLast (x0.fFl.map (·.fId))).1) false).fType, (Ch (Ar x0.fQ) ((Cm x0.fLast (x0.fFl.map (·.fId))).1) false).fDup, (Ch (Ar x0.fQ) ((Cm x0.fLast (x0.fFl.map (·.fId))).1) false).fQos, (Ch (Ar x0.fQ) ((Cm x0.fLast (x0.fFl.map (·.fId))).1) false).fRetain, (Ch (Ar x0.fQ) ((Cm x0.fLast (x0.fFl.map (·.fId))).1) false).fId, (Ch (Ar x0.fQ) ((Cm x0.fLast (x0.fFl.map (·.fId))).1) false).fTopic, (Ch (Ar x0.fQ) ((Cm x0.fLast (x0.fFl.map (·.fId))).1) false).fBody, (Ch (Ar x0.fQ) ((Cm x0.fLast (x0.fFl.map (·.fId))).1) false).fClient, (Ch (Ar x0.fQ) ((Cm x0.fLast (x0.fFl.map (·.fId))).1) false).fLevel, (Ch (Ar x0.fQ) ((Cm x0.fLast (x0.fFl.map (·.fId))).1) false).fClean, (Ch (Ar x0.fQ) ((Cm x0.fLast (x0.fFl.map (·.fId))).1) false).fKeep, (Ch (Ar x0.fQ) ((Cm x0.fLast (x0.fFl.map (·.fId))).1) false).fHasWill, (Ch (Ar x0.fQ) ((Cm x0.fLast (x0.fFl.map (·.fId))).1) false).fWTopic, (Ch (Ar x0.fQ) ((Cm x0.fLast (x0.fFl.map (·.fId))).1) false).fWBody, (Ch (Ar x0.fQ) ((Cm x0.fLast (x0.fFl.map (·.fId))).1) false).fWQos, (Ch (Ar x0.fQ) ((Cm x0.fLast (x0.fFl.map (·.fId))).1) false).fWRetain, (Ch (Ar x0.fQ) ((Cm x0.fLast (x0.fFl.map (·.fId))).1) false).fHasUser, (Ch (Ar x0.fQ) ((Cm x0.fLast (x0.fFl.map (·.fId))).1) false).fUser, (Ch (Ar x0.fQ) ((Cm x0.fLast (x0.fFl.map (·.fId))).1) false).fHasPass, (Ch (Ar x0.fQ) ((Cm x0.fLast (x0.fFl.map (·.fId))).1) false).fPass, (Ch (Ar x0.fQ) ((Cm x0.fLast (x0.fFl.map (·.fId))).1) false).fCode, (Ch (Ar x0.fQ) ((Cm x0.fLast (x0.fFl.map (·.fId))).1) false).fPresent, ((Ch (Ar x0.fQ) ((Cm x0.fLast (x0.fFl.map (·.fId))).1) false).fWants), (Ch (Ar x0.fQ) ((Cm x0.fLast (x0.fFl.map (·.fId))).1) false).fNames, (Ch (Ar x0.fQ) ((Cm x0.fLast (x0.fFl.map (·.fId))).1) false).fCodes⟩ : B0) := by
   clear s0 s202 s203 s205 s207 s208 s216 s217 s218 s219
   try simp only [bne_iff_ne, beq_iff_eq, beq_eq_false_iff_ne, J4] at h13 h21
   first | assumption | (simp only [Ae, B7, Fw, h13, h21, if_true, if_false, zan]; first | done | rfl)
  have e222 : Ih x0 = true := by
   clear s0 s202 s203 s205 s207 s208 s216 s217 s218 s219
   try simp only [bne_iff_ne, beq_iff_eq, beq_eq_false_iff_ne, J4] at h13 h21
   first | assumption | (simp only [Ae, B7, Fw, h13, h21, if_true, if_false, zan]; first | done | rfl)
  ·rw [e220, e221, e222]
   first | done | rfl
 | y :: t, pre, m + 1, i, i10, i17, i5, i3, i1, a5, x14, x15, x8, x7, H, he, hi, hm, la5, lx14, lx15, lx8, lx7, s0 => by
  have hlt : pre.length < x0.fFl.length := by rw [he]; simp
  have hfl := Y8 x0 b0
  have hpb := Ss x0 b0
  rw [Lj]
  try simp only [X1, Xz]
  exact Am (o' := 1) rfl (Bg (c := Aj Aq x0.fFl) s0 D0 rfl (T7 (Oa (Dd (by simp [hi]; omega) (Am (o' := 1) rfl (Bg (c := Aj Aq x0.fFl) s0 D0 rfl (Za hi Bf (by decide) he (AfW (Ahe (c := .sc (.int .i64 y.fId)) rfl (Bp (cs := [.sc (.int .i64 y.fId)]) rfl (Bw s0 fun i201 H s202 => Vh s202 A8 (.here) ⟨_, _, rfl, rfl, rfl, rfl⟩ rfl (by first | omega | (simp only [zbz]; omega)) fun x203 H lx203 s204 => Hq (by omega) (by omega) (K5 n hn x0 k0 b0 h13 h21  t (pre ++ [y]) m _ i10 i17 i5 i3 i1 x203 x14 x15 x8 x7 _ (by rw [he]; simp) (by rw [hi]; simp) (by simpa using hm) lx203 lx14 lx15 lx8 lx7 (by simpa only [zaA, za0, zb0] using (s204.sel (.cons (.here) (.cons (.here) (.cons (.here) (.cons (.here) (.cons (.here) (.cons (.here) (.cons (.here) (.cons (.here) (.cons (.here) (.cons (.here) .nil))))))))))))))))))))))))
theorem Tt (n : Nat) (hn : 1048576 < n) (x0 : Bs) (k0 : Qi x0) (b0 : D6 x0 ≤ 1048576) : Cy E0 (n + 13) 45 113 [.agg (A5 x0)] = some (.tup [.agg (A5 (Ae x0)), .agg (C4 (B7 x0)), .sc (.bool (Ih x0))]) := by
 rw [Az, Afv, f113]
 refine Iq (G := (· = some (.tup [.agg (A5 (Ae x0)), .agg (C4 (B7 x0)), sb (Ih x0)]))) ?_
 have hfl := Y8 x0 b0
 have hpb := Ss x0 b0
 try simp only [X1, Xz]
 have s0 : Sep [] [] := Io
 refine Nd s0 (Gq (Gs _)) fun i1 H s2 => Dz s2 fun i3 H s4 => Dz s4 fun i5 H s6 => Af s6 Co rfl (G3 s6 rfl (.aggF (Gs _) .nil) (Oi (n + 8) (by omega) x0 (AkP x0 b0)) ⟨_, rfl, rfl⟩ (Mi _) ?_)
 rintro _ _ H ⟨x7, x8, lx7, lx8, rfl, rfl⟩ s9
 simp only [zah, zau] at s9
 refine Dz s9 fun i10 H s11 => Bt (cs' := [si x0.fLast, x7, x8]) s11 (.here) (Ac (Ab rfl (Ab lx7 (Ab lx8 rfl)))) rfl (Bd rfl) rfl fun H s12 => Af s12 Jg rfl (Fm (v := (.bool (Ih x0))) s12 rfl (.aggF (Gs _) .nil) (S3 (n + 1) (by omega) x0 k0 b0) (L4 (Ad ((Ih x0)) (fun h13 => ?_) fun h13 => ?_)))
 refine Cj (nF h13) (Am (o' := 2) rfl (Bg (c := Aj Ag x0.fQ) s12 Jg rfl (Im s12 rfl (.cons .ro .nil) (Acd (n + 8) (by omega) x0.fQ k0.2.2 (Akp x0 b0)) rfl (Id (ty := 25) rfl (Eg x0.fQ.tail) (Hy ⟨_, rfl, rfl⟩ (AiA _) (Dg Gl))) ?_)))
 rintro _ _ H ⟨x15, _, _, lx15, rfl, rfl, ⟨_, _, _, _, rfl, rfl, ⟨x14, lx14, rfl, rfl⟩, ⟨_, rfl, ⟨rfl, rfl⟩⟩⟩⟩ s16
 simp only [zah, zau] at s16
 refine Es (v := x15) rfl (Es (v := .agg [ss ((Ar x0.fQ).fTopic), x14, si ((Ar x0.fQ).fQos), .sc (.bool (Ar x0.fQ).fRetain)]) rfl (Es (v := sb (Ahm x0.fQ)) rfl (Dz s16 fun i17 H s18 => Bt (cs' := [ss ((Ar x0.fQ).fTopic), x14, si ((Ar x0.fQ).fQos), .sc (.bool (Ar x0.fQ).fRetain)]) s18 (.here) (Ac (Ab rfl (Ab lx14 rfl))) rfl (Bd rfl) rfl fun H s19 => Am (o' := 2) rfl (Bt (cs' := [si x0.fLast, x7, x15]) s19 C1 (D3 lx15) rfl (Bd rfl) rfl fun H s20 => Am (o' := 2) rfl (Bg (c := si ((Ar x0.fQ).fQos)) s20 A8 rfl (Cb (Ad ((decide (((Ar x0.fQ).fQos) = 0))) (fun h21 => ?_) fun h21 => ?_)))))))
 refine Dd h21 (Af s20 (.here) rfl (Af s20 A8 rfl ?_))
 have c22 := Xq (n + 11) (by omega) (Ar x0.fQ) 0 false hpb
 refine G3 s20 rfl (.agg (.cons .sc (.cons (.own (by decide) Co) (Mv .nil))) (Mv .nil)) (c22) ⟨_, rfl, rfl⟩ (Hr _) ?_
 rintro _ _ H ⟨x23, x24, x25, x26, x27, x28, lx23, lx24, lx25, lx26, lx27, lx28, rfl, rfl⟩ s29
 simp only [zah, zau] at s29
 refine Bt (cs' := [si x0.fLast, x7, x15]) s29 Acm (Ac (Ab rfl (Ab lx7 (Ab lx15 rfl)))) rfl (Bd rfl) rfl fun H s30 => Bt (cs' := [si ((Ch (Ar x0.fQ) 0 false).fType), .sc (.bool (Ch (Ar x0.fQ) 0 false).fDup), si ((Ch (Ar x0.fQ) 0 false).fQos), .sc (.bool (Ch (Ar x0.fQ) 0 false).fRetain), si ((Ch (Ar x0.fQ) 0 false).fId), ss ((Ch (Ar x0.fQ) 0 false).fTopic), x23, ss ((Ch (Ar x0.fQ) 0 false).fClient), si ((Ch (Ar x0.fQ) 0 false).fLevel), .sc (.bool (Ch (Ar x0.fQ) 0 false).fClean), si ((Ch (Ar x0.fQ) 0 false).fKeep), .sc (.bool (Ch (Ar x0.fQ) 0 false).fHasWill), ss ((Ch (Ar x0.fQ) 0 false).fWTopic), x24, si ((Ch (Ar x0.fQ) 0 false).fWQos), .sc (.bool (Ch (Ar x0.fQ) 0 false).fWRetain), .sc (.bool (Ch (Ar x0.fQ) 0 false).fHasUser), ss ((Ch (Ar x0.fQ) 0 false).fUser), .sc (.bool (Ch (Ar x0.fQ) 0 false).fHasPass), x25, si ((Ch (Ar x0.fQ) 0 false).fCode), .sc (.bool (Ch (Ar x0.fQ) 0 false).fPresent), x26, x27, x28]) s30 Acm (Ac (Ab rfl (Ab rfl (Ab rfl (Ab rfl (Ab rfl (Ab rfl (Ab lx23 (Ab rfl (Ab rfl (Ab rfl (Ab rfl (Ab rfl (Ab rfl (Ab lx24 (Ab rfl (Ab rfl (Ab rfl (Ab rfl (Ab rfl (Ab lx25 (Ab rfl (Ab rfl (Ab lx26 (Ab lx27 (Ab lx28 rfl)))))))))))))))))))))))))) rfl (Bd rfl) rfl fun H s31 => Af s31 A8 rfl (Af s31 (.here) rfl ?_)
 refine Ee (Eh s31 rfl (.agg ⟨_, rfl, rfl⟩ (.sc (.own Acm (.own K7 .nil))) (.agg ⟨_, rfl, rfl⟩ (Ki (.own Qs (Ki (.own Tl (W0 (.own Jg (.sc (.sc (.own Fq (.own C1 (.own Co .nil))))))))))) (.sc .nil))) ⟨(G4 ⟨_, rfl, rfl⟩ ⟨trivial, ⟨(Ay (Cu x0.fFl) (by decide)), ⟨(Ay (Eg x0.fQ.tail) (by decide)), trivial⟩⟩⟩), ⟨(G4 ⟨_, rfl, rfl⟩ (Kp ⟨(Ay (Jd ((Ch (Ar x0.fQ) 0 false).fBody)) (by decide)), (Kp ⟨(Ay (Jd ((Ch (Ar x0.fQ) 0 false).fWBody)) (by decide)), (Vz ⟨(Ay (Jd ((Ch (Ar x0.fQ) 0 false).fPass)) (by decide)), (Tk ⟨(Ay (Lq ((Ch (Ar x0.fQ) 0 false).fWants)) (by decide)), ⟨(Ay (Zo ((Ch (Ar x0.fQ) 0 false).fNames)) (by decide)), ⟨(Ay (Kj ((Ch (Ar x0.fQ) 0 false).fCodes)) (by decide)), trivial⟩⟩⟩)⟩)⟩)⟩)), ⟨trivial, trivial⟩⟩⟩) ?_
 have e32 : Ae x0 = (⟨x0.fLast, x0.fFl, x0.fQ.tail⟩ : Bs) := by
  clear s0 s2 s4 s6 s9 s11 s12 s16 s18 s19 s20 s29 s30 s31
  try simp only [bne_iff_ne, beq_iff_eq, beq_eq_false_iff_ne, J4] at h13 h21
  first | assumption | (simp only [Ae, B7, Fw, h13, h21, if_true, if_false, zan]; first | done | rfl)
 have e33 : B7 x0 = (⟨(Ch (Ar x0.fQ) 0 false).fType, (Ch (Ar x0.fQ) 0 false).fDup, (Ch (Ar x0.fQ) 0 false).fQos, (Ch (Ar x0.fQ) 0 false).fRetain, (Ch (Ar x0.fQ) 0 false).fId, (Ch (Ar x0.fQ) 0 false).fTopic, (Ch (Ar x0.fQ) 0 false).fBody, (Ch (Ar x0.fQ) 0 false).fClient, (Ch (Ar x0.fQ) 0 false).fLevel, (Ch (Ar x0.fQ) 0 false).fClean, (Ch (Ar x0.fQ) 0 false).fKeep, (Ch (Ar x0.fQ) 0 false).fHasWill, (Ch (Ar x0.fQ) 0 false).fWTopic, (Ch (Ar x0.fQ) 0 false).fWBody, (Ch (Ar x0.fQ) 0 false).fWQos, (Ch (Ar x0.fQ) 0 false).fWRetain, (Ch (Ar x0.fQ) 0 false).fHasUser, (Ch (Ar x0.fQ) 0 false).fUser, (Ch (Ar x0.fQ) 0 false).fHasPass, (Ch (Ar x0.fQ) 0 false).fPass, (Ch (Ar x0.fQ) 0 false).fCode, (Ch (Ar x0.fQ) 0 false).fPresent, ((Ch (Ar x0.fQ) 0 false).fWants), (Ch (Ar x0.fQ) 0 false).fNames, (Ch (Ar x0.fQ) 0 false).fCodes⟩ : B0) := by
  clear s0 s2 s4 s6 s9 s11 s12 s16 s18 s19 s20 s29 s30 s31
  try simp only [bne_iff_ne, beq_iff_eq, beq_eq_false_iff_ne, J4] at h13 h21
  first | assumption | (simp only [Ae, B7, Fw, h13, h21, if_true, if_false, zan]; first | done | rfl)
 have e34 : Ih x0 = true := by
  clear s0 s2 s4 s6 s9 s11 s12 s16 s18 s19 s20 s29 s30 s31
  try simp only [bne_iff_ne, beq_iff_eq, beq_eq_false_iff_ne, J4] at h13 h21
  first | assumption | (simp only [Ae, B7, Fw, h13, h21, if_true, if_false, zan]; first | done | rfl)
 ·rw [e32, e33, e34]
  first | done | rfl
 refine Cj h21 ?_
 have s35 := s20.nl (ty := 39) ⟨_, _, rfl, rfl⟩
 exact K5 n hn x0 k0 b0 h13 h21  x0.fFl [] _ 0 i10 i17 i5 i3 i1 .nl x14 x15 x8 x7 _ rfl rfl (by omega) rfl lx14 lx15 lx8 lx7 s35
 refine Dd (nT h13) (Af s12 (.here) rfl (Bp (cs := Q1) rfl (Bt (cs' := [si x0.fLast, x7, x8]) s12 Fq (Ac (Ab rfl (Ab lx7 (Ab lx8 rfl)))) rfl (Bd rfl) rfl fun H s36 => Bt (cs' := Q1) s36 Fq (Ac rfl) rfl (Bd rfl) rfl fun H s37 => Af s37 A8 rfl (Af s37 (.here) rfl (Ee (Eh s37 rfl (.agg ⟨_, rfl, rfl⟩ (.sc (.own Fq (.own C1 .nil))) (.agg ⟨_, rfl, rfl⟩ (Ki (.nl (Ki (.nl (W0 (.nl (.sc (.sc (.nl (.nl (.nl .nil))))))))))) (.sc .nil))) ⟨(G4 ⟨_, rfl, rfl⟩ ⟨trivial, ⟨(Ay (Cu x0.fFl) (by decide)), ⟨(Ay (Eg x0.fQ) (by decide)), trivial⟩⟩⟩), ⟨(G4 ⟨_, rfl, rfl⟩ (Kp ⟨H5, (Kp ⟨H5, (Vz ⟨H5, (Tk ⟨H5, ⟨H5, ⟨H5, trivial⟩⟩⟩)⟩)⟩)⟩)), ⟨trivial, trivial⟩⟩⟩) ?_)))))
 have e38 : Ae x0 = (⟨x0.fLast, x0.fFl, x0.fQ⟩ : Bs) := by
  clear s0 s2 s4 s6 s9 s11 s12 s36 s37
  try simp only [bne_iff_ne, beq_iff_eq, beq_eq_false_iff_ne, J4] at h13
  first | assumption | (simp only [Ae, B7, Fw, h13, if_true, if_false, zan]; first | done | rfl)
 have e39 : B7 x0 = (⟨0, false, 0, false, 0, ⟨#[]⟩, ⟨#[]⟩, ⟨#[]⟩, 0, false, 0, false, ⟨#[]⟩, ⟨#[]⟩, 0, false, false, ⟨#[]⟩, false, ⟨#[]⟩, 0, false, [], [], []⟩ : B0) := by
  clear s0 s2 s4 s6 s9 s11 s12 s36 s37
  try simp only [bne_iff_ne, beq_iff_eq, beq_eq_false_iff_ne, J4] at h13
  first | assumption | (simp only [Ae, B7, Fw, h13, if_true, if_false, zan]; first | done | rfl)
 have e40 : Ih x0 = false := by
  clear s0 s2 s4 s6 s9 s11 s12 s36 s37
  try simp only [bne_iff_ne, beq_iff_eq, beq_eq_false_iff_ne, J4] at h13
  first | assumption | (simp only [Ae, B7, Fw, h13, if_true, if_false, zan]; first | done | rfl)
 ·rw [e38, e39, e40]
  first | done | rfl
end
section
open Go
def Nl (x y : Ra) : Bool := x.fFilter.toList == y.fFilter.toList && x.fQos == y.fQos
theorem AaO (x y : Ra) : Kb [1, 0] (Fb x) (Fb y) = some (Nl x y) := by
 simp only [Fb, Kb, Yk, Nl, if_true, zab]
 generalize (x.fFilter.toList == y.fFilter.toList) = b0
 generalize (x.fQos == y.fQos) = b1
 cases b0 <;> cases b1 <;> rfl
def G1 (a b : B0) : Bool := (a.fType == b.fType) && (a.fDup == b.fDup) && (a.fQos == b.fQos) && (a.fRetain == b.fRetain) && (a.fId == b.fId) && (a.fTopic.toList == b.fTopic.toList) && (a.fBody.toList == b.fBody.toList) && (a.fClient.toList == b.fClient.toList) && (a.fLevel == b.fLevel) && (a.fClean == b.fClean) && (a.fKeep == b.fKeep) && (a.fHasWill == b.fHasWill) && (a.fWTopic.toList == b.fWTopic.toList) && (a.fWBody.toList == b.fWBody.toList) && (a.fWQos == b.fWQos) && (a.fWRetain == b.fWRetain) && (a.fHasUser == b.fHasUser) && (a.fUser.toList == b.fUser.toList) && (a.fHasPass == b.fHasPass) && (a.fPass.toList == b.fPass.toList) && (a.fCode == b.fCode) && (a.fPresent == b.fPresent)
def O3 (a b : B0) : Bool := Pb Nl a.fWants b.fWants && Pb U7 a.fNames b.fNames && Pb eqI a.fCodes b.fCodes
def G2 (a b : B0) : Bool := O3 a b && G1 a b
theorem Ag6 (n : Nat) (hn : 1048576 < n) (ty : Nat) (a b : B0) (H : Aa) (i1 i2 : Nat) (B1 : H[i1]? = some ⟨C4 a, true, true⟩) (B2 : H[i2]? = some ⟨C4 b, true, true⟩) (hl2 : a.fCodes.length ≤ 1048576) (hq2 : a.fCodes.length = b.fCodes.length) : Kd (PR (n + 1) AV) (n + 1) (fun x H => A0 An E0.tp ty H x) (n + 1) (.ptr i1 0) (.ptr i2 0) (.sc (.int .i64 0)) H = some (.sc (.bool (if Hk eqI a.fCodes b.fCodes then (G1 a b) else false))) := by
 have hL : ∀ m i, Kd (PR (n + 1) AV) (n + 1) (fun x H => A0 An E0.tp ty H x) (m + 1) (.ptr i1 0) (.ptr i2 0) i H = E4 .lss i (si a.fCodes.length) fun t14 => Gz t14 (Eu 1 (Aj Qt a.fCodes) i fun t19 => Cx false 1 t19 H fun t20 => Eu 1 (Aj Qt b.fCodes) i fun t23 => Cx false 1 t23 H fun t24 => (fun x y k => E4 .neq x y k) t20 t24 fun t25 => Gz t25 (some bF) (E4 .add i (si 1) fun t16 => Kd (PR (n + 1) AV) (n + 1) (fun x H => A0 An E0.tp ty H x) m (.ptr i1 0) (.ptr i2 0) t16 H)) (some (sb (G1 a b))) := by
  intro m i
  show (PR (n + 1) AV).fadr 24 (.ptr i1 0) _ = _
  simp only [Bk, A2, A4, C8, C7, At, Bi, Pr.gT, Pr.gF, Pr.hT, Pr.hF, Pr.kT, Pr.kF, Bz, Bm, Bq]
  refine Ai (Bo (c := Dr a.fCodes) B1 (Bd rfl) rfl (Dh ?_))
  congr 1
  funext t
  congr 1
  refine Ai (Bo (c := Dr a.fCodes) B1 (Bd rfl) rfl ?_)
  rw [Ji]
  congr 1
  funext t2
  congr 1
  funext t3
  refine Ai (Bo (c := Dr b.fCodes) B2 (Bd rfl) rfl ?_)
  rw [Ji]
  rfl
  skip
  refine Ai (Bo (c := si a.fType) B1 (Bd rfl) rfl (Ai (Bo (c := si b.fType) B2 (Bd rfl) rfl (Av (v := sb (a.fType == b.fType)) (fun k => rfl) ?_))))
  apply A3 ((a.fType == b.fType) && (a.fDup == b.fDup))
  intro b1 q1
  refine Ad ((a.fType == b.fType)) (fun h1 => ?_) fun h1 => ?_
  exact Ao h1 (Ai (Ao h1 (Bo (c := sb a.fDup) B1 (Bd rfl) rfl (Ao h1 (Ai (Ao h1 (Bo (c := sb b.fDup) B2 (Bd rfl) rfl (Ao h1 (Kq (v := sb (a.fDup == b.fDup)) (fun k => rfl) (Ca h1 (He q1 h1) rfl))))))))))
  exact Ap h1 (Ap h1 (Ap h1 (Ap h1 (Ap h1 (B9 h1 (Hd q1 h1) rfl)))))
  intro b1 q1
  apply A3 (b1 && (a.fQos == b.fQos))
  intro b2 q2
  refine Ad (b1) (fun h2 => ?_) fun h2 => ?_
  exact Ao h2 (Ai (Ao h2 (Bo (c := si a.fQos) B1 (Bd rfl) rfl (Ao h2 (Ai (Ao h2 (Bo (c := si b.fQos) B2 (Bd rfl) rfl (Ao h2 (Av (v := sb (a.fQos == b.fQos)) (fun k => rfl) (Ca h2 (He q2 h2) rfl))))))))))
  exact Ap h2 (Ap h2 (Ap h2 (Ap h2 (Ap h2 (B9 h2 (Hd q2 h2) rfl)))))
  intro b2 q2
  apply A3 (b2 && (a.fRetain == b.fRetain))
  intro b3 q3
  refine Ad (b2) (fun h3 => ?_) fun h3 => ?_
  exact Ao h3 (Ai (Ao h3 (Bo (c := sb a.fRetain) B1 (Bd rfl) rfl (Ao h3 (Ai (Ao h3 (Bo (c := sb b.fRetain) B2 (Bd rfl) rfl (Ao h3 (Kq (v := sb (a.fRetain == b.fRetain)) (fun k => rfl) (Ca h3 (He q3 h3) rfl))))))))))
  exact Ap h3 (Ap h3 (Ap h3 (Ap h3 (Ap h3 (B9 h3 (Hd q3 h3) rfl)))))
  intro b3 q3
  apply A3 (b3 && (a.fId == b.fId))
  intro b4 q4
  refine Ad (b3) (fun h4 => ?_) fun h4 => ?_
  exact Ao h4 (Ai (Ao h4 (Bo (c := si a.fId) B1 (Bd rfl) rfl (Ao h4 (Ai (Ao h4 (Bo (c := si b.fId) B2 (Bd rfl) rfl (Ao h4 (Av (v := sb (a.fId == b.fId)) (fun k => rfl) (Ca h4 (He q4 h4) rfl))))))))))
  exact Ap h4 (Ap h4 (Ap h4 (Ap h4 (Ap h4 (B9 h4 (Hd q4 h4) rfl)))))
  intro b4 q4
  apply A3 (b4 && (a.fTopic.toList == b.fTopic.toList))
  intro b5 q5
  refine Ad (b4) (fun h5 => ?_) fun h5 => ?_
  exact Ao h5 (Ai (Ao h5 (Bo (c := ss a.fTopic) B1 (Bd rfl) rfl (Ao h5 (Ai (Ao h5 (Bo (c := ss b.fTopic) B2 (Bd rfl) rfl (Ao h5 (Av (v := sb (a.fTopic.toList == b.fTopic.toList)) (fun k => rfl) (Ca h5 (He q5 h5) rfl))))))))))
  exact Ap h5 (Ap h5 (Ap h5 (Ap h5 (Ap h5 (B9 h5 (Hd q5 h5) rfl)))))
  intro b5 q5
  apply A3 (b5 && (a.fBody.toList == b.fBody.toList))
  intro b6 q6
  refine Ad (b5) (fun h6 => ?_) fun h6 => ?_
  exact Ao h6 (Ai (Ao h6 (Bo (c := Bj a.fBody) B1 (Bd rfl) rfl (Ao h6 (Ai (Ao h6 (Bo (c := Bj b.fBody) B2 (Bd rfl) rfl (Ao h6 (De rfl (A6 (Ff _ _ _) (A6 (Ff _ _ _) Dl)) (Vn (n + 0) _ a.fBody b.fBody) (Ca h6 (He q6 h6) rfl))))))))))
  exact Ap h6 (Ap h6 (Ap h6 (Ap h6 (Ap h6 (B9 h6 (Hd q6 h6) rfl)))))
  intro b6 q6
  apply A3 (b6 && (a.fClient.toList == b.fClient.toList))
  intro b7 q7
  refine Ad (b6) (fun h7 => ?_) fun h7 => ?_
  exact Ao h7 (Ai (Ao h7 (Bo (c := ss a.fClient) B1 (Bd rfl) rfl (Ao h7 (Ai (Ao h7 (Bo (c := ss b.fClient) B2 (Bd rfl) rfl (Ao h7 (Av (v := sb (a.fClient.toList == b.fClient.toList)) (fun k => rfl) (Ca h7 (He q7 h7) rfl))))))))))
  exact Ap h7 (Ap h7 (Ap h7 (Ap h7 (Ap h7 (B9 h7 (Hd q7 h7) rfl)))))
  intro b7 q7
  apply A3 (b7 && (a.fLevel == b.fLevel))
  intro b8 q8
  refine Ad (b7) (fun h8 => ?_) fun h8 => ?_
  exact Ao h8 (Ai (Ao h8 (Bo (c := si a.fLevel) B1 (Bd rfl) rfl (Ao h8 (Ai (Ao h8 (Bo (c := si b.fLevel) B2 (Bd rfl) rfl (Ao h8 (Av (v := sb (a.fLevel == b.fLevel)) (fun k => rfl) (Ca h8 (He q8 h8) rfl))))))))))
  exact Ap h8 (Ap h8 (Ap h8 (Ap h8 (Ap h8 (B9 h8 (Hd q8 h8) rfl)))))
  intro b8 q8
  apply A3 (b8 && (a.fClean == b.fClean))
  intro b9 q9
  refine Ad (b8) (fun h9 => ?_) fun h9 => ?_
  exact Ao h9 (Ai (Ao h9 (Bo (c := sb a.fClean) B1 (Bd rfl) rfl (Ao h9 (Ai (Ao h9 (Bo (c := sb b.fClean) B2 (Bd rfl) rfl (Ao h9 (Kq (v := sb (a.fClean == b.fClean)) (fun k => rfl) (Ca h9 (He q9 h9) rfl))))))))))
  exact Ap h9 (Ap h9 (Ap h9 (Ap h9 (Ap h9 (B9 h9 (Hd q9 h9) rfl)))))
  intro b9 q9
  apply A3 (b9 && (a.fKeep == b.fKeep))
  intro b10 q10
  refine Ad (b9) (fun h10 => ?_) fun h10 => ?_
  exact Ao h10 (Ai (Ao h10 (Bo (c := si a.fKeep) B1 (Bd rfl) rfl (Ao h10 (Ai (Ao h10 (Bo (c := si b.fKeep) B2 (Bd rfl) rfl (Ao h10 (Av (v := sb (a.fKeep == b.fKeep)) (fun k => rfl) (Ca h10 (He q10 h10) rfl))))))))))
  exact Ap h10 (Ap h10 (Ap h10 (Ap h10 (Ap h10 (B9 h10 (Hd q10 h10) rfl)))))
  intro b10 q10
  apply A3 (b10 && (a.fHasWill == b.fHasWill))
  intro b11 q11
  refine Ad (b10) (fun h11 => ?_) fun h11 => ?_
  exact Ao h11 (Ai (Ao h11 (Bo (c := sb a.fHasWill) B1 (Bd rfl) rfl (Ao h11 (Ai (Ao h11 (Bo (c := sb b.fHasWill) B2 (Bd rfl) rfl (Ao h11 (Kq (v := sb (a.fHasWill == b.fHasWill)) (fun k => rfl) (Ca h11 (He q11 h11) rfl))))))))))
  exact Ap h11 (Ap h11 (Ap h11 (Ap h11 (Ap h11 (B9 h11 (Hd q11 h11) rfl)))))
  intro b11 q11
  apply A3 (b11 && (a.fWTopic.toList == b.fWTopic.toList))
  intro b12 q12
  refine Ad (b11) (fun h12 => ?_) fun h12 => ?_
  exact Ao h12 (Ai (Ao h12 (Bo (c := ss a.fWTopic) B1 (Bd rfl) rfl (Ao h12 (Ai (Ao h12 (Bo (c := ss b.fWTopic) B2 (Bd rfl) rfl (Ao h12 (Av (v := sb (a.fWTopic.toList == b.fWTopic.toList)) (fun k => rfl) (Ca h12 (He q12 h12) rfl))))))))))
  exact Ap h12 (Ap h12 (Ap h12 (Ap h12 (Ap h12 (B9 h12 (Hd q12 h12) rfl)))))
  intro b12 q12
  apply A3 (b12 && (a.fWBody.toList == b.fWBody.toList))
  intro b13 q13
  refine Ad (b12) (fun h13 => ?_) fun h13 => ?_
  exact Ao h13 (Ai (Ao h13 (Bo (c := Bj a.fWBody) B1 (Bd rfl) rfl (Ao h13 (Ai (Ao h13 (Bo (c := Bj b.fWBody) B2 (Bd rfl) rfl (Ao h13 (De rfl (A6 (Ff _ _ _) (A6 (Ff _ _ _) Dl)) (Vn (n + 0) _ a.fWBody b.fWBody) (Ca h13 (He q13 h13) rfl))))))))))
  exact Ap h13 (Ap h13 (Ap h13 (Ap h13 (Ap h13 (B9 h13 (Hd q13 h13) rfl)))))
  intro b13 q13
  apply A3 (b13 && (a.fWQos == b.fWQos))
  intro b14 q14
  refine Ad (b13) (fun h14 => ?_) fun h14 => ?_
  exact Ao h14 (Ai (Ao h14 (Bo (c := si a.fWQos) B1 (Bd rfl) rfl (Ao h14 (Ai (Ao h14 (Bo (c := si b.fWQos) B2 (Bd rfl) rfl (Ao h14 (Av (v := sb (a.fWQos == b.fWQos)) (fun k => rfl) (Ca h14 (He q14 h14) rfl))))))))))
  exact Ap h14 (Ap h14 (Ap h14 (Ap h14 (Ap h14 (B9 h14 (Hd q14 h14) rfl)))))
  intro b14 q14
  apply A3 (b14 && (a.fWRetain == b.fWRetain))
  intro b15 q15
  refine Ad (b14) (fun h15 => ?_) fun h15 => ?_
  exact Ao h15 (Ai (Ao h15 (Bo (c := sb a.fWRetain) B1 (Bd rfl) rfl (Ao h15 (Ai (Ao h15 (Bo (c := sb b.fWRetain) B2 (Bd rfl) rfl (Ao h15 (Kq (v := sb (a.fWRetain == b.fWRetain)) (fun k => rfl) (Ca h15 (He q15 h15) rfl))))))))))
  exact Ap h15 (Ap h15 (Ap h15 (Ap h15 (Ap h15 (B9 h15 (Hd q15 h15) rfl)))))
  intro b15 q15
  apply A3 (b15 && (a.fHasUser == b.fHasUser))
  intro b16 q16
  refine Ad (b15) (fun h16 => ?_) fun h16 => ?_
  exact Ao h16 (Ai (Ao h16 (Bo (c := sb a.fHasUser) B1 (Bd rfl) rfl (Ao h16 (Ai (Ao h16 (Bo (c := sb b.fHasUser) B2 (Bd rfl) rfl (Ao h16 (Kq (v := sb (a.fHasUser == b.fHasUser)) (fun k => rfl) (Ca h16 (He q16 h16) rfl))))))))))
  exact Ap h16 (Ap h16 (Ap h16 (Ap h16 (Ap h16 (B9 h16 (Hd q16 h16) rfl)))))
  intro b16 q16
  apply A3 (b16 && (a.fUser.toList == b.fUser.toList))
  intro b17 q17
  refine Ad (b16) (fun h17 => ?_) fun h17 => ?_
  exact Ao h17 (Ai (Ao h17 (Bo (c := ss a.fUser) B1 (Bd rfl) rfl (Ao h17 (Ai (Ao h17 (Bo (c := ss b.fUser) B2 (Bd rfl) rfl (Ao h17 (Av (v := sb (a.fUser.toList == b.fUser.toList)) (fun k => rfl) (Ca h17 (He q17 h17) rfl))))))))))
  exact Ap h17 (Ap h17 (Ap h17 (Ap h17 (Ap h17 (B9 h17 (Hd q17 h17) rfl)))))
  intro b17 q17
  apply A3 (b17 && (a.fHasPass == b.fHasPass))
  intro b18 q18
  refine Ad (b17) (fun h18 => ?_) fun h18 => ?_
  exact Ao h18 (Ai (Ao h18 (Bo (c := sb a.fHasPass) B1 (Bd rfl) rfl (Ao h18 (Ai (Ao h18 (Bo (c := sb b.fHasPass) B2 (Bd rfl) rfl (Ao h18 (Kq (v := sb (a.fHasPass == b.fHasPass)) (fun k => rfl) (Ca h18 (He q18 h18) rfl))))))))))
  exact Ap h18 (Ap h18 (Ap h18 (Ap h18 (Ap h18 (B9 h18 (Hd q18 h18) rfl)))))
  intro b18 q18
  apply A3 (b18 && (a.fPass.toList == b.fPass.toList))
  intro b19 q19
  refine Ad (b18) (fun h19 => ?_) fun h19 => ?_
  exact Ao h19 (Ai (Ao h19 (Bo (c := Bj a.fPass) B1 (Bd rfl) rfl (Ao h19 (Ai (Ao h19 (Bo (c := Bj b.fPass) B2 (Bd rfl) rfl (Ao h19 (De rfl (A6 (Ff _ _ _) (A6 (Ff _ _ _) Dl)) (Vn (n + 0) _ a.fPass b.fPass) (Ca h19 (He q19 h19) rfl))))))))))
  exact Ap h19 (Ap h19 (Ap h19 (Ap h19 (Ap h19 (B9 h19 (Hd q19 h19) rfl)))))
  intro b19 q19
  apply A3 (b19 && (a.fCode == b.fCode))
  intro b20 q20
  refine Ad (b19) (fun h20 => ?_) fun h20 => ?_
  exact Ao h20 (Ai (Ao h20 (Bo (c := si a.fCode) B1 (Bd rfl) rfl (Ao h20 (Ai (Ao h20 (Bo (c := si b.fCode) B2 (Bd rfl) rfl (Ao h20 (Av (v := sb (a.fCode == b.fCode)) (fun k => rfl) (Ca h20 (He q20 h20) rfl))))))))))
  exact Ap h20 (Ap h20 (Ap h20 (Ap h20 (Ap h20 (B9 h20 (Hd q20 h20) rfl)))))
  intro b20 q20
  apply A3 (b20 && (a.fPresent == b.fPresent))
  intro b21 q21
  refine Ad (b20) (fun h21 => ?_) fun h21 => ?_
  exact Ao h21 (Ai (Ao h21 (Bo (c := sb a.fPresent) B1 (Bd rfl) rfl (Ao h21 (Ai (Ao h21 (Bo (c := sb b.fPresent) B2 (Bd rfl) rfl (Ao h21 (Kq (v := sb (a.fPresent == b.fPresent)) (fun k => rfl) (Ca h21 (He q21 h21) rfl))))))))))
  exact Ap h21 (Ap h21 (Ap h21 (Ap h21 (Ap h21 (B9 h21 (Hd q21 h21) rfl)))))
  intro b21 q21
  subst_vars; rfl
 have key := Ny (β := AV) Qt (fun _ => rfl) (by decide) (fun z => si z) (fun p k => Cx false 1 p H k) (fun x r k => ldI x r H k) (fun x y k => E4 .neq x y k) eqI (fun x y k => neI x y k) a.fCodes b.fCodes hq2 hl2 (fun m i => Kd (PR (n + 1) AV) (n + 1) (fun x H => A0 An E0.tp ty H x) m (.ptr i1 0) (.ptr i2 0) i H) (some bF) (some (sb (G1 a b))) hL a.fCodes b.fCodes [] [] (n + 1) rfl rfl rfl (by omega)
 simp only [zar, zbe] at key
 refine key.trans ?_
 cases Hk eqI a.fCodes b.fCodes <;> rfl
theorem Ag5 (n : Nat) (hn : 1048576 < n) (ty : Nat) (a b : B0) (H : Aa) (i1 i2 : Nat) (B1 : H[i1]? = some ⟨C4 a, true, true⟩) (B2 : H[i2]? = some ⟨C4 b, true, true⟩) (hl1 : a.fNames.length ≤ 1048576) (hq1 : a.fNames.length = b.fNames.length) (hl2 : a.fCodes.length ≤ 1048576) (hq2 : a.fCodes.length = b.fCodes.length) : Il (PR (n + 1) AV) (n + 1) (fun x H => A0 An E0.tp ty H x) (n + 1) (.ptr i1 0) (.ptr i2 0) (.sc (.int .i64 0)) H = some (.sc (.bool (if Hk U7 a.fNames b.fNames then (if Hk eqI a.fCodes b.fCodes then (G1 a b) else false) else false))) := by
 have hL : ∀ m i, Il (PR (n + 1) AV) (n + 1) (fun x H => A0 An E0.tp ty H x) (m + 1) (.ptr i1 0) (.ptr i2 0) i H = E4 .lss i (si a.fNames.length) fun t14 => Gz t14 (Eu 1 (Aj AaY a.fNames) i fun t19 => Cx false 1 t19 H fun t20 => Eu 1 (Aj AaY b.fNames) i fun t23 => Cx false 1 t23 H fun t24 => (fun x y k => E4 .neq x y k) t20 t24 fun t25 => Gz t25 (some bF) (E4 .add i (si 1) fun t16 => Il (PR (n + 1) AV) (n + 1) (fun x H => A0 An E0.tp ty H x) m (.ptr i1 0) (.ptr i2 0) t16 H)) (some (sb (if Hk eqI a.fCodes b.fCodes then (G1 a b) else false))) := by
  intro m i
  show (PR (n + 1) AV).fadr 23 (.ptr i1 0) _ = _
  simp only [Bk, A2, A4, C8, C7, At, Bi, Pr.gT, Pr.gF, Pr.hT, Pr.hF, Pr.kT, Pr.kF, Bz, Bm, Bq]
  refine Ai (Bo (c := Mt a.fNames) B1 (Bd rfl) rfl (Dh ?_))
  congr 1
  funext t
  congr 1
  refine Ai (Bo (c := Mt a.fNames) B1 (Bd rfl) rfl ?_)
  rw [U0]
  congr 1
  funext t2
  congr 1
  funext t3
  refine Ai (Bo (c := Mt b.fNames) B2 (Bd rfl) rfl ?_)
  rw [U0]
  rfl
  skip
  exact Ag6 n hn ty a b H i1 i2 B1 B2 hl2 hq2
 have key := Ny (β := AV) AaY (fun _ => rfl) (by decide) (fun z => ss z) (fun p k => Cx false 1 p H k) (fun x r k => ldS x r H k) (fun x y k => E4 .neq x y k) U7 (fun x y k => neS x y k) a.fNames b.fNames hq1 hl1 (fun m i => Il (PR (n + 1) AV) (n + 1) (fun x H => A0 An E0.tp ty H x) m (.ptr i1 0) (.ptr i2 0) i H) (some bF) (some (sb (if Hk eqI a.fCodes b.fCodes then (G1 a b) else false))) hL a.fNames b.fNames [] [] (n + 1) rfl rfl rfl (by omega)
 simp only [zar, zbe] at key
 refine key.trans ?_
 cases Hk U7 a.fNames b.fNames <;> rfl
theorem Ag4 (n : Nat) (hn : 1048576 < n) (ty : Nat) (a b : B0) (H : Aa) (i1 i2 : Nat) (B1 : H[i1]? = some ⟨C4 a, true, true⟩) (B2 : H[i2]? = some ⟨C4 b, true, true⟩) (hl0 : a.fWants.length ≤ 1048576) (hq0 : a.fWants.length = b.fWants.length) (hl1 : a.fNames.length ≤ 1048576) (hq1 : a.fNames.length = b.fNames.length) (hl2 : a.fCodes.length ≤ 1048576) (hq2 : a.fCodes.length = b.fCodes.length) : Ik (PR (n + 1) AV) (n + 1) (fun x H => A0 An E0.tp ty H x) (n + 1) (.ptr i1 0) (.ptr i2 0) (.sc (.int .i64 0)) H = some (.sc (.bool (if Hk Nl a.fWants b.fWants then (if Hk U7 a.fNames b.fNames then (if Hk eqI a.fCodes b.fCodes then (G1 a b) else false) else false) else false))) := by
 have hL : ∀ m i, Ik (PR (n + 1) AV) (n + 1) (fun x H => A0 An E0.tp ty H x) (m + 1) (.ptr i1 0) (.ptr i2 0) i H = E4 .lss i (si a.fWants.length) fun t14 => Gz t14 (Eu 2 (Aj Fb a.fWants) i fun t19 => Cx true 2 t19 H fun t20 => Eu 2 (Aj Fb b.fWants) i fun t23 => Cx true 2 t23 H fun t24 => (fun x y k => Oo .neq [1, 0] x y k) t20 t24 fun t25 => Gz t25 (some bF) (E4 .add i (si 1) fun t16 => Ik (PR (n + 1) AV) (n + 1) (fun x H => A0 An E0.tp ty H x) m (.ptr i1 0) (.ptr i2 0) t16 H)) (some (sb (if Hk U7 a.fNames b.fNames then (if Hk eqI a.fCodes b.fCodes then (G1 a b) else false) else false))) := by
  intro m i
  show (PR (n + 1) AV).fadr 22 (.ptr i1 0) _ = _
  simp only [Bk, A2, A4, C8, C7, At, Bi, Pr.gT, Pr.gF, Pr.hT, Pr.hF, Pr.kT, Pr.kF, Bz, Bm, Bq]
  refine Ai (Bo (c := Aj Fb a.fWants) B1 (Bd rfl) rfl (Dh ?_))
  congr 1
  funext t
  congr 1
  refine Ai (Bo (c := Aj Fb a.fWants) B1 (Bd rfl) rfl ?_)
  congr 1
  funext t2
  congr 1
  funext t3
  refine Ai (Bo (c := Aj Fb b.fWants) B2 (Bd rfl) rfl ?_)
  rfl
  skip
  exact Ag5 n hn ty a b H i1 i2 B1 B2 hl1 hq1 hl2 hq2
 have key := Ny (β := AV) Fb (Vq) (by decide) (fun x => .agg (Fb x)) (fun p k => Cx true 2 p H k) (fun x r k => Qh 2 _ _ H k (Vq x)) (fun x y k => Oo .neq [1, 0] x y k) Nl (fun x y k => Afb _ _ _ _ (AaO x y) k) a.fWants b.fWants hq0 hl0 (fun m i => Ik (PR (n + 1) AV) (n + 1) (fun x H => A0 An E0.tp ty H x) m (.ptr i1 0) (.ptr i2 0) i H) (some bF) (some (sb (if Hk U7 a.fNames b.fNames then (if Hk eqI a.fCodes b.fCodes then (G1 a b) else false) else false))) hL a.fWants b.fWants [] [] (n + 1) rfl rfl rfl (by omega)
 simp only [zar, zbe] at key
 refine key.trans ?_
 cases Hk Nl a.fWants b.fWants <;> rfl
theorem L6 (n : Nat) (hn : 1048576 < n) (ty : Nat) (a : B0) (b : B0) (hl0 : a.fWants.length ≤ 1048576) (hl1 : a.fNames.length ≤ 1048576) (hl2 : a.fCodes.length ≤ 1048576) : Cy E0 (n + 2) ty 120 [.agg (C4 a), .agg (C4 b)] = some (.sc (.bool (G2 a b))) := by
 rw [Az, Afz, f120]
 try simp only [Ct, Cf, Bk, A2, A9, A4, C8, C7, Ea, At, Bi, Pr.gT, Pr.gF, Pr.hT, Pr.hF, Pr.kT, Pr.kF, Bz, Bm, C0, Bq, Dv, Cp, B8, Ba, Be, Dj, Cg, Df, Da]
 refine Jv (Kx _) fun iB1 eB1 B1 => Jv (Kx _) fun iB2 eB2 B2 => ?_
 replace B1 := Ir B1 [⟨C4 b, true, true⟩]
 refine Ai (Bo (c := Aj Fb a.fWants) B1 (Bd rfl) rfl (Dh (Ai (Bo (c := Aj Fb b.fWants) B2 (Bd rfl) rfl (Dh (Av (v := sb ((a.fWants.length : Int) != (b.fWants.length : Int))) (fun k => rfl) ?_))))))
 apply A3 (((a.fWants.length : Int) != (b.fWants.length : Int)) || ((a.fNames.length : Int) != (b.fNames.length : Int)))
 intro b3 q3
 refine Ad (((a.fWants.length : Int) != (b.fWants.length : Int))) (fun h3 => ?_) fun h3 => ?_
 exact C5 h3 (C5 h3 (C5 h3 (C5 h3 (C5 h3 (C5 h3 (C5 h3 (Ca h3 (mOT q3 h3) rfl)))))))
 exact Cz h3 (Ai (Cz h3 (Bo (c := Mt a.fNames) B1 (Bd rfl) rfl (Cz h3 (Dh (Cz h3 (Ai (Cz h3 (Bo (c := Mt b.fNames) B2 (Bd rfl) rfl (Cz h3 (Dh (Cz h3 (Av (v := sb ((a.fNames.length : Int) != (b.fNames.length : Int))) (fun k => rfl) (B9 h3 (mOF q3 h3) rfl))))))))))))))
 intro b3 q3
 apply A3 (b3 || ((a.fCodes.length : Int) != (b.fCodes.length : Int)))
 intro b4 q4
 refine Ad (b3) (fun h4 => ?_) fun h4 => ?_
 exact C5 h4 (C5 h4 (C5 h4 (C5 h4 (C5 h4 (C5 h4 (C5 h4 (Ca h4 (mOT q4 h4) rfl)))))))
 exact Cz h4 (Ai (Cz h4 (Bo (c := Dr a.fCodes) B1 (Bd rfl) rfl (Cz h4 (Dh (Cz h4 (Ai (Cz h4 (Bo (c := Dr b.fCodes) B2 (Bd rfl) rfl (Cz h4 (Dh (Cz h4 (Av (v := sb ((a.fCodes.length : Int) != (b.fCodes.length : Int))) (fun k => rfl) (B9 h4 (mOF q4 h4) rfl))))))))))))))
 intro b4 q4
 refine Ad (b4) (fun h5 => ?_) fun h5 => ?_
 exact Ey h5 (Dp (by subst_vars; simp only [G2, O3, Pb]; by_cases e0 : a.fWants.length = b.fWants.length <;> by_cases e1 : a.fNames.length = b.fNames.length <;> by_cases e2 : a.fCodes.length = b.fCodes.length <;> simp_all))
 refine E7 h5 ?_
 have l0 : a.fWants.length = b.fWants.length := by (subst_vars; simp at *; omega)
 have l1 : a.fNames.length = b.fNames.length := by (subst_vars; simp at *; omega)
 have l2 : a.fCodes.length = b.fCodes.length := by (subst_vars; simp at *; omega)
 refine (Ag4 n hn ty a b _ _ _ B1 B2 hl0 l0 hl1 l1 hl2 l2).trans ?_
 simp only [G2, O3, Pb, l0, l1, l2, if_true]
 cases Hk Nl a.fWants b.fWants <;> cases Hk U7 a.fNames b.fNames <;> cases Hk eqI a.fCodes b.fCodes <;> simp
end
end Go.Proofs.YtdofipeaomgbbaaGreatDoor.Abs
set_option maxHeartbeats 32000000
namespace Go.Proofs.YtdofipeaomgbbaaGreatDoor.Abs
open _root_.Option renaming bind_eq_some_iff → zaa, bind_some → zab, getD_some → za5
open _root_.List renaming getElem?_eq_some_iff → zac, replicate → zad, length_append → zae, getElem?_append_right → zaf, getElem?_append_left → zag, nil_append → zah, append_assoc → zaj, length_singleton → zal, append_nil → zam, length_cons → zao, mem_append_right → zaq, length_nil → zar, mem_append_left → zat, cons_append → zau, mem_cons → zav, mem_cons_of_mem → zax, map_cons → za0, flatten_append → za1, take_length → za3, getElem?_set_ne → za4, drop_zero → za6, mem_cons_self → za7, mem_append → za9, map_append → zaA, replicate_append_replicate → zaB, flatten_cons → zaD, all_eq_true → zaE, length_drop → zaF, nodup_cons → zaH, nodup_append → zaJ, mem_range'_1 → zaK, length_take → zaL, nodup_range' → zaP, take_append_drop → zaR, all_cons → zaT, range' → zaW, drop_of_length_le → zaX, getElem?_set_self → zaY, drop_drop → zbb, length_set → zbh, take_of_length_le → zbi, any_cons → zbt, length_map → zbz, map_nil → zb0, Perm → zb1, nodup_nil → zb3, headD_cons → zb9, drop_left' → zbA, tail_cons → zbC, take_zero → zbF
open _root_.Nat renaming le_refl → zai, zero_add → zaw, le_trans → za2, sub_self → zaI, add_assoc → zaO, min_eq_left → zaQ, add_mul → zaV, add_zero → zaZ, mul_le_mul_right → zbd, zero_le → zbu, one_mul → zbv, add_comm → zbD, succ_mul → zbG
open _root_.Bool renaming false_eq_true → zan, eq_iff_iff → zaM, false_or → zbp
open _root_.Int renaming natCast_zero → zbe, toNat_natCast → zbf
section
open Go
def H4 (t : Int) : B0 := ⟨t, false, 0, false, 0, ⟨#[]⟩, ⟨#[]⟩, ⟨#[]⟩, 0, false, 0, false, ⟨#[]⟩, ⟨#[]⟩, 0, false, false, ⟨#[]⟩, false, ⟨#[]⟩, 0, false, [], [], []⟩
def F3 (p q : B0) : B0 := if p.fHasWill then { q with fHasWill := true, fWTopic := p.fWTopic, fWBody := p.fWBody, fWQos := p.fWQos, fWRetain := p.fWRetain } else q
def F2 (p q : B0) : B0 := if p.fHasUser then (if p.fHasPass then { q with fHasUser := true, fUser := p.fUser, fHasPass := true, fPass := p.fPass } else { q with fHasUser := true, fUser := p.fUser }) else q
def C2 (pc : Bool) (p : B0) : B0 :=
 if p.fType = 1 then F2 p (F3 p { H4 p.fType with fClient := p.fClient, fLevel := p.fLevel, fClean := p.fClean, fKeep := p.fKeep })
 else if p.fType = 2 then { H4 p.fType with fCode := p.fCode, fPresent := p.fPresent && (!pc || decide (p.fCode = 0)) }
 else if p.fType = 3 then (if 0 < p.fQos then { H4 p.fType with fQos := p.fQos, fRetain := p.fRetain, fTopic := p.fTopic, fBody := p.fBody, fDup := p.fDup, fId := p.fId } else { H4 p.fType with fQos := p.fQos, fRetain := p.fRetain, fTopic := p.fTopic, fBody := p.fBody })
 else if p.fType = 4 ∨ p.fType = 5 ∨ p.fType = 6 ∨ p.fType = 7 ∨ p.fType = 11 then { H4 p.fType with fId := p.fId }
 else if p.fType = 8 then { H4 p.fType with fId := p.fId, fWants := p.fWants }
 else if p.fType = 9 then { H4 p.fType with fId := p.fId, fCodes := p.fCodes }
 else if p.fType = 10 then { H4 p.fType with fId := p.fId, fNames := p.fNames }
 else H4 p.fType
theorem S6 (n : Nat) (hn : 1048576 < n) (p : B0) {β : Type} {G : Option β → Prop} {KH : KO β} {H : Aa} {L : List Ck} (s0 : Sep H (L)) (hk : ∀ raw H', (∀ L', VwL L' 7 raw (C4 (C2 true p))) → Sep H' L → Gd G (KH (.agg raw) H')) : Gd G (Dm E0 (n + 1) β 121 [.agg (C4 p)] H fun x H => KH x H) := by
 rw [Af0, f121]
 try simp only [Ct, Cf, Bk, A2, A9, A4, At, Bi, Pr.gT, Pr.gF, Pr.hT, Pr.hF, Pr.kT, Pr.kF, Bz, Be]
 refine Nd s0 (Gq (Kx _)) fun i1 H s2 => Dz s2 fun i3 H s4 => gf0 (Bg (c := si p.fType) s4 A8 rfl (Bp (cs := [si p.fType, bF, i0, bF, i0, sE, .nl, sE, i0, bF, i0, bF, sE, .nl, i0, bF, bF, sE, bF, .nl, i0, bF, .nl, .nl, .nl]) rfl (Dz s4 fun i5 H s6 => Bt (cs' := [si p.fType, bF, i0, bF, i0, sE, .nl, sE, i0, bF, i0, bF, sE, .nl, i0, bF, bF, sE, bF, .nl, i0, bF, .nl, .nl, .nl]) s6 (.here) (Ac rfl) rfl (Bd rfl) rfl fun H s7 => gf0 (Bg (c := si p.fType) s7 Co rfl (Cb (Ad ((decide (p.fType = 1))) (fun h8 => ?_) fun h8 => ?_))))))
 refine Dd h8 (gf8 (Bg (c := si p.fLevel) s7 Co rfl (gf8 (C6 s7 (.here) rfl rfl fun H s9 => gf7 (Bg (c := ss p.fClient) s9 Co rfl (gf7 (C6 s9 (.here) rfl rfl fun H s10 => gf9 (Bg (c := sb p.fClean) s10 Co rfl (gf9 (C6 s10 (.here) rfl rfl fun H s11 => AjR (Bg (c := si p.fKeep) s11 Co rfl (AjR (C6 s11 (.here) rfl rfl fun H s12 => AjS (Bg (c := sb p.fHasWill) s12 Co rfl (Ix (Ad (p.fHasWill) (fun h13 => ?_) fun h13 => ?_))))))))))))))))
 refine Dd h13 (AjS (C6 s12 (.here) rfl rfl fun H s14 => AjT (Bg (c := ss p.fWTopic) s14 Co rfl (AjT (C6 s14 (.here) rfl rfl fun H s15 => AjU (Bg (c := Bj p.fWBody) s15 Co rfl (AjU (C6 s15 (.here) rfl rfl fun H s16 => AjV (Bg (c := si p.fWQos) s16 Co rfl (AjV (C6 s16 (.here) rfl rfl fun H s17 => AjW (Bg (c := sb p.fWRetain) s17 Co rfl (AjW (C6 s17 (.here) rfl rfl fun H s18 => AfX (Bg (c := sb p.fHasUser) s18 Co rfl (Ad (p.fHasUser) (fun h19 => ?_) fun h19 => ?_))))))))))))))))
 refine Dd h19 (AfX (C6 s18 (.here) rfl rfl fun H s20 => AfY (Bg (c := ss p.fUser) s20 Co rfl (AfY (C6 s20 (.here) rfl rfl fun H s21 => AfZ (Bg (c := sb p.fHasPass) s21 Co rfl (Ad (p.fHasPass) (fun h22 => ?_) fun h22 => ?_)))))))
 refine Dd h22 (AfZ (C6 s21 (.here) rfl rfl fun H s23 => Aga (Bg (c := Bj p.fPass) s23 Co rfl (Aga (C6 s23 (.here) rfl rfl fun H s24 => Af s24 (.here) rfl (Bt (cs' := [si p.fType, bF, i0, bF, i0, sE, .nl, ss p.fClient, si p.fLevel, sb p.fClean, si p.fKeep, bT, ss p.fWTopic, Bj p.fWBody, si p.fWQos, sb p.fWRetain, bT, ss p.fUser, bT, Bj p.fPass, i0, bF, .nl, .nl, .nl]) s24 A8 (Ac rfl) rfl (Bd rfl) rfl fun H s25 => Af s25 (.here) rfl ?_))))))
 have e : C2 true p = (⟨p.fType, false, 0, false, 0, ⟨#[]⟩, ⟨#[]⟩, p.fClient, p.fLevel, p.fClean, p.fKeep, true, p.fWTopic, p.fWBody, p.fWQos, p.fWRetain, true, p.fUser, true, p.fPass, 0, false, [], [], []⟩ : B0) := by
  simp only [J4] at h8 h13 h19 h22
  simp [C2, F3, F2, H4, h8, h13, h19, h22]
 rw [e] at hk
 exact hk _ _ (fun L' => (J5 (.cons .nl (J5 (.cons .ro (Tv (.cons .ro (Mv (.cons .nl (.cons .nl (.cons .nl .nil))))))))))) s25.tail.tail.tail
 refine Cj h22 (Af s21 (.here) rfl (Bt (cs' := [si p.fType, bF, i0, bF, i0, sE, .nl, ss p.fClient, si p.fLevel, sb p.fClean, si p.fKeep, bT, ss p.fWTopic, Bj p.fWBody, si p.fWQos, sb p.fWRetain, bT, ss p.fUser, bF, .nl, i0, bF, .nl, .nl, .nl]) s21 A8 (Ac rfl) rfl (Bd rfl) rfl fun H s26 => Af s26 (.here) rfl ?_))
 have e : C2 true p = (⟨p.fType, false, 0, false, 0, ⟨#[]⟩, ⟨#[]⟩, p.fClient, p.fLevel, p.fClean, p.fKeep, true, p.fWTopic, p.fWBody, p.fWQos, p.fWRetain, true, p.fUser, false, ⟨#[]⟩, 0, false, [], [], []⟩ : B0) := by
  simp only [J4] at h8 h13 h19 h22
  simp [C2, F3, F2, H4, h8, h13, h19, h22]
 rw [e] at hk
 exact hk _ _ (fun L' => (J5 (.cons .nl (J5 (.cons .ro (Tv (.cons .nl (Mv (.cons .nl (.cons .nl (.cons .nl .nil))))))))))) s26.tail.tail.tail
 refine Cj h19 (Af s18 (.here) rfl (Bt (cs' := [si p.fType, bF, i0, bF, i0, sE, .nl, ss p.fClient, si p.fLevel, sb p.fClean, si p.fKeep, bT, ss p.fWTopic, Bj p.fWBody, si p.fWQos, sb p.fWRetain, bF, sE, bF, .nl, i0, bF, .nl, .nl, .nl]) s18 A8 (Ac rfl) rfl (Bd rfl) rfl fun H s27 => Af s27 (.here) rfl ?_))
 have e : C2 true p = (⟨p.fType, false, 0, false, 0, ⟨#[]⟩, ⟨#[]⟩, p.fClient, p.fLevel, p.fClean, p.fKeep, true, p.fWTopic, p.fWBody, p.fWQos, p.fWRetain, false, ⟨#[]⟩, false, ⟨#[]⟩, 0, false, [], [], []⟩ : B0) := by
  simp only [J4] at h8 h13 h19
  simp [C2, F3, F2, H4, h8, h13, h19]
 rw [e] at hk
 exact hk _ _ (fun L' => (J5 (.cons .nl (J5 (.cons .ro (Tv (.cons .nl (Mv (.cons .nl (.cons .nl (.cons .nl .nil))))))))))) s27.tail.tail.tail
 refine Cj h13 (AfX (Bg (c := sb p.fHasUser) s12 Co rfl (Ad (p.fHasUser) (fun h28 => ?_) fun h28 => ?_)))
 refine Dd h28 (AfX (C6 s12 (.here) rfl rfl fun H s29 => AfY (Bg (c := ss p.fUser) s29 Co rfl (AfY (C6 s29 (.here) rfl rfl fun H s30 => AfZ (Bg (c := sb p.fHasPass) s30 Co rfl (Ad (p.fHasPass) (fun h31 => ?_) fun h31 => ?_)))))))
 refine Dd h31 (AfZ (C6 s30 (.here) rfl rfl fun H s32 => Aga (Bg (c := Bj p.fPass) s32 Co rfl (Aga (C6 s32 (.here) rfl rfl fun H s33 => Af s33 (.here) rfl (Bt (cs' := [si p.fType, bF, i0, bF, i0, sE, .nl, ss p.fClient, si p.fLevel, sb p.fClean, si p.fKeep, bF, sE, .nl, i0, bF, bT, ss p.fUser, bT, Bj p.fPass, i0, bF, .nl, .nl, .nl]) s33 A8 (Ac rfl) rfl (Bd rfl) rfl fun H s34 => Af s34 (.here) rfl ?_))))))
 have e : C2 true p = (⟨p.fType, false, 0, false, 0, ⟨#[]⟩, ⟨#[]⟩, p.fClient, p.fLevel, p.fClean, p.fKeep, false, ⟨#[]⟩, ⟨#[]⟩, 0, false, true, p.fUser, true, p.fPass, 0, false, [], [], []⟩ : B0) := by
  simp only [J4] at h8 h13 h28 h31
  simp [C2, F3, F2, H4, h8, h13, h28, h31]
 rw [e] at hk
 exact hk _ _ (fun L' => (J5 (.cons .nl (J5 (.cons .nl (Tv (.cons .ro (Mv (.cons .nl (.cons .nl (.cons .nl .nil))))))))))) s34.tail.tail.tail
 refine Cj h31 (Af s30 (.here) rfl (Bt (cs' := [si p.fType, bF, i0, bF, i0, sE, .nl, ss p.fClient, si p.fLevel, sb p.fClean, si p.fKeep, bF, sE, .nl, i0, bF, bT, ss p.fUser, bF, .nl, i0, bF, .nl, .nl, .nl]) s30 A8 (Ac rfl) rfl (Bd rfl) rfl fun H s35 => Af s35 (.here) rfl ?_))
 have e : C2 true p = (⟨p.fType, false, 0, false, 0, ⟨#[]⟩, ⟨#[]⟩, p.fClient, p.fLevel, p.fClean, p.fKeep, false, ⟨#[]⟩, ⟨#[]⟩, 0, false, true, p.fUser, false, ⟨#[]⟩, 0, false, [], [], []⟩ : B0) := by
  simp only [J4] at h8 h13 h28 h31
  simp [C2, F3, F2, H4, h8, h13, h28, h31]
 rw [e] at hk
 exact hk _ _ (fun L' => (J5 (.cons .nl (J5 (.cons .nl (Tv (.cons .nl (Mv (.cons .nl (.cons .nl (.cons .nl .nil))))))))))) s35.tail.tail.tail
 refine Cj h28 (Af s12 (.here) rfl (Bt (cs' := [si p.fType, bF, i0, bF, i0, sE, .nl, ss p.fClient, si p.fLevel, sb p.fClean, si p.fKeep, bF, sE, .nl, i0, bF, bF, sE, bF, .nl, i0, bF, .nl, .nl, .nl]) s12 A8 (Ac rfl) rfl (Bd rfl) rfl fun H s36 => Af s36 (.here) rfl ?_))
 have e : C2 true p = (⟨p.fType, false, 0, false, 0, ⟨#[]⟩, ⟨#[]⟩, p.fClient, p.fLevel, p.fClean, p.fKeep, false, ⟨#[]⟩, ⟨#[]⟩, 0, false, false, ⟨#[]⟩, false, ⟨#[]⟩, 0, false, [], [], []⟩ : B0) := by
  simp only [J4] at h8 h13 h28
  simp [C2, F3, F2, H4, h8, h13, h28]
 rw [e] at hk
 exact hk _ _ (fun L' => (J5 (.cons .nl (J5 (.cons .nl (Tv (.cons .nl (Mv (.cons .nl (.cons .nl (.cons .nl .nil))))))))))) s36.tail.tail.tail
 refine Cj h8 (Cb (Ad ((decide (p.fType = 2))) (fun h37 => ?_) fun h37 => ?_))
 refine Dd h37 (Ai7 (Bg (c := si p.fCode) s7 Co rfl (Ai7 (C6 s7 (.here) rfl rfl fun H s38 => Ai8 (Bg (c := sb p.fPresent) s38 Co rfl (Ad (p.fPresent) (fun h39 => ?_) fun h39 => ?_))))))
 refine B4 h39 (Ai7 (B4 h39 (Bg (c := si p.fCode) s38 Co rfl (B4 h39 (Cb (It h39 (Ai8 (C6 s38 (.here) rfl rfl fun H s40 => Af s40 (.here) rfl (Bt (cs' := [si p.fType, bF, i0, bF, i0, sE, .nl, sE, i0, bF, i0, bF, sE, .nl, i0, bF, bF, sE, bF, .nl, si p.fCode, sb (decide (p.fCode = 0)), .nl, .nl, .nl]) s40 A8 (Ac rfl) rfl (Bd rfl) rfl fun H s41 => Af s41 (.here) rfl ?_)))))))))
 have e : C2 true p = (⟨p.fType, false, 0, false, 0, ⟨#[]⟩, ⟨#[]⟩, ⟨#[]⟩, 0, false, 0, false, ⟨#[]⟩, ⟨#[]⟩, 0, false, false, ⟨#[]⟩, false, ⟨#[]⟩, p.fCode, (decide (p.fCode = 0)), [], [], []⟩ : B0) := by
  simp only [J4] at h8 h37 h39
  simp [C2, F3, F2, H4, h8, h37, h39]
 rw [e] at hk
 exact hk _ _ (fun L' => (J5 (.cons .nl (J5 (.cons .nl (Tv (.cons .nl (Mv (.cons .nl (.cons .nl (.cons .nl .nil))))))))))) s41.tail.tail.tail
 refine D9 h39 (D9 h39 (D9 h39 (Is h39 (Ai8 (C6 s38 (.here) rfl rfl fun H s42 => Af s42 (.here) rfl (Bt (cs' := [si p.fType, bF, i0, bF, i0, sE, .nl, sE, i0, bF, i0, bF, sE, .nl, i0, bF, bF, sE, bF, .nl, si p.fCode, bF, .nl, .nl, .nl]) s42 A8 (Ac rfl) rfl (Bd rfl) rfl fun H s43 => Af s43 (.here) rfl ?_))))))
 have e : C2 true p = (⟨p.fType, false, 0, false, 0, ⟨#[]⟩, ⟨#[]⟩, ⟨#[]⟩, 0, false, 0, false, ⟨#[]⟩, ⟨#[]⟩, 0, false, false, ⟨#[]⟩, false, ⟨#[]⟩, p.fCode, false, [], [], []⟩ : B0) := by
  simp only [J4] at h8 h37 h39
  simp [C2, F3, F2, H4, h8, h37, h39]
 rw [e] at hk
 exact hk _ _ (fun L' => (J5 (.cons .nl (J5 (.cons .nl (Tv (.cons .nl (Mv (.cons .nl (.cons .nl (.cons .nl .nil))))))))))) s43.tail.tail.tail
 refine Cj h37 (Cb (Ad ((decide (p.fType = 3))) (fun h44 => ?_) fun h44 => ?_))
 refine Dd h44 (gf2 (Bg (c := si p.fQos) s7 Co rfl (gf2 (C6 s7 (.here) rfl rfl fun H s45 => gf3 (Bg (c := sb p.fRetain) s45 Co rfl (gf3 (C6 s45 (.here) rfl rfl fun H s46 => gf5 (Bg (c := ss p.fTopic) s46 Co rfl (gf5 (C6 s46 (.here) rfl rfl fun H s47 => gf6 (Bg (c := Bj p.fBody) s47 Co rfl (gf6 (C6 s47 (.here) rfl rfl fun H s48 => gf2 (Bg (c := si p.fQos) s48 Co rfl (Mf (Ad ((decide (0 < p.fQos))) (fun h49 => ?_) fun h49 => ?_))))))))))))))))
 refine Dd h49 (gf1 (Bg (c := sb p.fDup) s48 Co rfl (gf1 (C6 s48 (.here) rfl rfl fun H s50 => V1 (Bg (c := si p.fId) s50 Co rfl (V1 (C6 s50 (.here) rfl rfl fun H s51 => Af s51 (.here) rfl (Bt (cs' := [si p.fType, sb p.fDup, si p.fQos, sb p.fRetain, si p.fId, ss p.fTopic, Bj p.fBody, sE, i0, bF, i0, bF, sE, .nl, i0, bF, bF, sE, bF, .nl, i0, bF, .nl, .nl, .nl]) s51 A8 (Ac rfl) rfl (Bd rfl) rfl fun H s52 => Af s52 (.here) rfl ?_))))))))
 have e : C2 true p = (⟨p.fType, p.fDup, p.fQos, p.fRetain, p.fId, p.fTopic, p.fBody, ⟨#[]⟩, 0, false, 0, false, ⟨#[]⟩, ⟨#[]⟩, 0, false, false, ⟨#[]⟩, false, ⟨#[]⟩, 0, false, [], [], []⟩ : B0) := by
  simp only [J4] at h8 h37 h44 h49
  simp [C2, F3, F2, H4, h8, h37, h44, h49]
 rw [e] at hk
 exact hk _ _ (fun L' => (J5 (.cons .ro (J5 (.cons .nl (Tv (.cons .nl (Mv (.cons .nl (.cons .nl (.cons .nl .nil))))))))))) s52.tail.tail.tail
 refine Cj h49 (Af s48 (.here) rfl (Bt (cs' := [si p.fType, bF, si p.fQos, sb p.fRetain, i0, ss p.fTopic, Bj p.fBody, sE, i0, bF, i0, bF, sE, .nl, i0, bF, bF, sE, bF, .nl, i0, bF, .nl, .nl, .nl]) s48 A8 (Ac rfl) rfl (Bd rfl) rfl fun H s53 => Af s53 (.here) rfl ?_))
 have e : C2 true p = (⟨p.fType, false, p.fQos, p.fRetain, 0, p.fTopic, p.fBody, ⟨#[]⟩, 0, false, 0, false, ⟨#[]⟩, ⟨#[]⟩, 0, false, false, ⟨#[]⟩, false, ⟨#[]⟩, 0, false, [], [], []⟩ : B0) := by
  simp only [J4] at h8 h37 h44 h49
  simp [C2, F3, F2, H4, h8, h37, h44, h49]
 rw [e] at hk
 exact hk _ _ (fun L' => (J5 (.cons .ro (J5 (.cons .nl (Tv (.cons .nl (Mv (.cons .nl (.cons .nl (.cons .nl .nil))))))))))) s53.tail.tail.tail
 refine Cj h44 (Cb (Ix (Ad ((decide (p.fType = 4))) (fun h54 => ?_) fun h54 => ?_)))
 refine Dd h54 (Dd h54 (V1 (Bg (c := si p.fId) s7 Co rfl (V1 (C6 s7 (.here) rfl rfl fun H s55 => Af s55 (.here) rfl (Bt (cs' := [si p.fType, bF, i0, bF, si p.fId, sE, .nl, sE, i0, bF, i0, bF, sE, .nl, i0, bF, bF, sE, bF, .nl, i0, bF, .nl, .nl, .nl]) s55 A8 (Ac rfl) rfl (Bd rfl) rfl fun H s56 => Af s56 (.here) rfl ?_))))))
 have e : C2 true p = (⟨p.fType, false, 0, false, p.fId, ⟨#[]⟩, ⟨#[]⟩, ⟨#[]⟩, 0, false, 0, false, ⟨#[]⟩, ⟨#[]⟩, 0, false, false, ⟨#[]⟩, false, ⟨#[]⟩, 0, false, [], [], []⟩ : B0) := by
  simp only [J4] at h8 h37 h44 h54
  simp [C2, F3, F2, H4, h8, h37, h44, h54]
 rw [e] at hk
 exact hk _ _ (fun L' => (J5 (.cons .nl (J5 (.cons .nl (Tv (.cons .nl (Mv (.cons .nl (.cons .nl (.cons .nl .nil))))))))))) s56.tail.tail.tail
 refine Cj h54 (Cb (Ad ((decide (p.fType = 5))) (fun h57 => ?_) fun h57 => ?_))
 refine Dd h57 (Dd h57 (V1 (Bg (c := si p.fId) s7 Co rfl (V1 (C6 s7 (.here) rfl rfl fun H s58 => Af s58 (.here) rfl (Bt (cs' := [si p.fType, bF, i0, bF, si p.fId, sE, .nl, sE, i0, bF, i0, bF, sE, .nl, i0, bF, bF, sE, bF, .nl, i0, bF, .nl, .nl, .nl]) s58 A8 (Ac rfl) rfl (Bd rfl) rfl fun H s59 => Af s59 (.here) rfl ?_))))))
 have e : C2 true p = (⟨p.fType, false, 0, false, p.fId, ⟨#[]⟩, ⟨#[]⟩, ⟨#[]⟩, 0, false, 0, false, ⟨#[]⟩, ⟨#[]⟩, 0, false, false, ⟨#[]⟩, false, ⟨#[]⟩, 0, false, [], [], []⟩ : B0) := by
  simp only [J4] at h8 h37 h44 h54 h57
  simp [C2, F3, F2, H4, h8, h37, h44, h54, h57]
 rw [e] at hk
 exact hk _ _ (fun L' => (J5 (.cons .nl (J5 (.cons .nl (Tv (.cons .nl (Mv (.cons .nl (.cons .nl (.cons .nl .nil))))))))))) s59.tail.tail.tail
 refine Cj h57 (Cb (Ad ((decide (p.fType = 6))) (fun h60 => ?_) fun h60 => ?_))
 refine Dd h60 (Dd h60 (V1 (Bg (c := si p.fId) s7 Co rfl (V1 (C6 s7 (.here) rfl rfl fun H s61 => Af s61 (.here) rfl (Bt (cs' := [si p.fType, bF, i0, bF, si p.fId, sE, .nl, sE, i0, bF, i0, bF, sE, .nl, i0, bF, bF, sE, bF, .nl, i0, bF, .nl, .nl, .nl]) s61 A8 (Ac rfl) rfl (Bd rfl) rfl fun H s62 => Af s62 (.here) rfl ?_))))))
 have e : C2 true p = (⟨p.fType, false, 0, false, p.fId, ⟨#[]⟩, ⟨#[]⟩, ⟨#[]⟩, 0, false, 0, false, ⟨#[]⟩, ⟨#[]⟩, 0, false, false, ⟨#[]⟩, false, ⟨#[]⟩, 0, false, [], [], []⟩ : B0) := by
  simp only [J4] at h8 h37 h44 h54 h57 h60
  simp [C2, F3, F2, H4, h8, h37, h44, h54, h57, h60]
 rw [e] at hk
 exact hk _ _ (fun L' => (J5 (.cons .nl (J5 (.cons .nl (Tv (.cons .nl (Mv (.cons .nl (.cons .nl (.cons .nl .nil))))))))))) s62.tail.tail.tail
 refine Cj h60 (Cb (Ad ((decide (p.fType = 7))) (fun h63 => ?_) fun h63 => ?_))
 refine Dd h63 (Dd h63 (V1 (Bg (c := si p.fId) s7 Co rfl (V1 (C6 s7 (.here) rfl rfl fun H s64 => Af s64 (.here) rfl (Bt (cs' := [si p.fType, bF, i0, bF, si p.fId, sE, .nl, sE, i0, bF, i0, bF, sE, .nl, i0, bF, bF, sE, bF, .nl, i0, bF, .nl, .nl, .nl]) s64 A8 (Ac rfl) rfl (Bd rfl) rfl fun H s65 => Af s65 (.here) rfl ?_))))))
 have e : C2 true p = (⟨p.fType, false, 0, false, p.fId, ⟨#[]⟩, ⟨#[]⟩, ⟨#[]⟩, 0, false, 0, false, ⟨#[]⟩, ⟨#[]⟩, 0, false, false, ⟨#[]⟩, false, ⟨#[]⟩, 0, false, [], [], []⟩ : B0) := by
  simp only [J4] at h8 h37 h44 h54 h57 h60 h63
  simp [C2, F3, F2, H4, h8, h37, h44, h54, h57, h60, h63]
 rw [e] at hk
 exact hk _ _ (fun L' => (J5 (.cons .nl (J5 (.cons .nl (Tv (.cons .nl (Mv (.cons .nl (.cons .nl (.cons .nl .nil))))))))))) s65.tail.tail.tail
 refine Cj h63 (Cb (Ad ((decide (p.fType = 11))) (fun h66 => ?_) fun h66 => ?_))
 refine Dd h66 (V1 (Bg (c := si p.fId) s7 Co rfl (V1 (C6 s7 (.here) rfl rfl fun H s67 => Af s67 (.here) rfl (Bt (cs' := [si p.fType, bF, i0, bF, si p.fId, sE, .nl, sE, i0, bF, i0, bF, sE, .nl, i0, bF, bF, sE, bF, .nl, i0, bF, .nl, .nl, .nl]) s67 A8 (Ac rfl) rfl (Bd rfl) rfl fun H s68 => Af s68 (.here) rfl ?_)))))
 have e : C2 true p = (⟨p.fType, false, 0, false, p.fId, ⟨#[]⟩, ⟨#[]⟩, ⟨#[]⟩, 0, false, 0, false, ⟨#[]⟩, ⟨#[]⟩, 0, false, false, ⟨#[]⟩, false, ⟨#[]⟩, 0, false, [], [], []⟩ : B0) := by
  simp only [J4] at h8 h37 h44 h54 h57 h60 h63 h66
  simp [C2, F3, F2, H4, h8, h37, h44, h54, h57, h60, h63, h66]
 rw [e] at hk
 exact hk _ _ (fun L' => (J5 (.cons .nl (J5 (.cons .nl (Tv (.cons .nl (Mv (.cons .nl (.cons .nl (.cons .nl .nil))))))))))) s68.tail.tail.tail
 refine Cj h66 (Cb (Ad ((decide (p.fType = 8))) (fun h69 => ?_) fun h69 => ?_))
 refine Dd h69 (V1 (Bg (c := si p.fId) s7 Co rfl (V1 (C6 s7 (.here) rfl rfl fun H s70 => AjX (Bg (c := Aj Fb p.fWants) s70 Co rfl (AjX (C6 s70 (.here) rfl rfl fun H s71 => Af s71 (.here) rfl (Bt (cs' := [si p.fType, bF, i0, bF, si p.fId, sE, .nl, sE, i0, bF, i0, bF, sE, .nl, i0, bF, bF, sE, bF, .nl, i0, bF, Aj Fb p.fWants, .nl, .nl]) s71 A8 (Ac rfl) rfl (Bd rfl) rfl fun H s72 => Af s72 (.here) rfl ?_))))))))
 have e : C2 true p = (⟨p.fType, false, 0, false, p.fId, ⟨#[]⟩, ⟨#[]⟩, ⟨#[]⟩, 0, false, 0, false, ⟨#[]⟩, ⟨#[]⟩, 0, false, false, ⟨#[]⟩, false, ⟨#[]⟩, 0, false, p.fWants, [], []⟩ : B0) := by
  simp only [J4] at h8 h37 h44 h54 h57 h60 h63 h66 h69
  simp [C2, F3, F2, H4, h8, h37, h44, h54, h57, h60, h63, h66, h69]
 rw [e] at hk
 exact hk _ _ (fun L' => (J5 (.cons .nl (J5 (.cons .nl (Tv (.cons .nl (Mv (.cons .ro (.cons .nl (.cons .nl .nil))))))))))) s72.tail.tail.tail
 refine Cj h69 (Cb (Ad ((decide (p.fType = 9))) (fun h73 => ?_) fun h73 => ?_))
 refine Dd h73 (V1 (Bg (c := si p.fId) s7 Co rfl (V1 (C6 s7 (.here) rfl rfl fun H s74 => AjZ (Bg (c := Dr p.fCodes) s74 Co rfl (AjZ (C6 s74 (.here) rfl rfl fun H s75 => Af s75 (.here) rfl (Bt (cs' := [si p.fType, bF, i0, bF, si p.fId, sE, .nl, sE, i0, bF, i0, bF, sE, .nl, i0, bF, bF, sE, bF, .nl, i0, bF, .nl, .nl, Dr p.fCodes]) s75 A8 (Ac rfl) rfl (Bd rfl) rfl fun H s76 => Af s76 (.here) rfl ?_))))))))
 have e : C2 true p = (⟨p.fType, false, 0, false, p.fId, ⟨#[]⟩, ⟨#[]⟩, ⟨#[]⟩, 0, false, 0, false, ⟨#[]⟩, ⟨#[]⟩, 0, false, false, ⟨#[]⟩, false, ⟨#[]⟩, 0, false, [], [], p.fCodes⟩ : B0) := by
  simp only [J4] at h8 h37 h44 h54 h57 h60 h63 h66 h69 h73
  simp [C2, F3, F2, H4, h8, h37, h44, h54, h57, h60, h63, h66, h69, h73]
 rw [e] at hk
 exact hk _ _ (fun L' => (J5 (.cons .nl (J5 (.cons .nl (Tv (.cons .nl (Mv (.cons .nl (.cons .nl (.cons .ro .nil))))))))))) s76.tail.tail.tail
 refine Cj h73 (Cb (Ad ((decide (p.fType = 10))) (fun h77 => ?_) fun h77 => ?_))
 refine Dd h77 (V1 (Bg (c := si p.fId) s7 Co rfl (V1 (C6 s7 (.here) rfl rfl fun H s78 => AjY (Bg (c := Mt p.fNames) s78 Co rfl (AjY (C6 s78 (.here) rfl rfl fun H s79 => Af s79 (.here) rfl (Bt (cs' := [si p.fType, bF, i0, bF, si p.fId, sE, .nl, sE, i0, bF, i0, bF, sE, .nl, i0, bF, bF, sE, bF, .nl, i0, bF, .nl, Mt p.fNames, .nl]) s79 A8 (Ac rfl) rfl (Bd rfl) rfl fun H s80 => Af s80 (.here) rfl ?_))))))))
 have e : C2 true p = (⟨p.fType, false, 0, false, p.fId, ⟨#[]⟩, ⟨#[]⟩, ⟨#[]⟩, 0, false, 0, false, ⟨#[]⟩, ⟨#[]⟩, 0, false, false, ⟨#[]⟩, false, ⟨#[]⟩, 0, false, [], p.fNames, []⟩ : B0) := by
  simp only [J4] at h8 h37 h44 h54 h57 h60 h63 h66 h69 h73 h77
  simp [C2, F3, F2, H4, h8, h37, h44, h54, h57, h60, h63, h66, h69, h73, h77]
 rw [e] at hk
 exact hk _ _ (fun L' => (J5 (.cons .nl (J5 (.cons .nl (Tv (.cons .nl (Mv (.cons .nl (.cons .ro (.cons .nl .nil))))))))))) s80.tail.tail.tail
 refine Cj h77 (Af s7 (.here) rfl (Bt (cs' := [si p.fType, bF, i0, bF, i0, sE, .nl, sE, i0, bF, i0, bF, sE, .nl, i0, bF, bF, sE, bF, .nl, i0, bF, .nl, .nl, .nl]) s7 A8 (Ac rfl) rfl (Bd rfl) rfl fun H s81 => Af s81 (.here) rfl ?_))
 have e : C2 true p = (⟨p.fType, false, 0, false, 0, ⟨#[]⟩, ⟨#[]⟩, ⟨#[]⟩, 0, false, 0, false, ⟨#[]⟩, ⟨#[]⟩, 0, false, false, ⟨#[]⟩, false, ⟨#[]⟩, 0, false, [], [], []⟩ : B0) := by
  simp only [J4] at h8 h37 h44 h54 h57 h60 h63 h66 h69 h73 h77
  simp [C2, F3, F2, H4, h8, h37, h44, h54, h57, h60, h63, h66, h69, h73, h77]
 rw [e] at hk
 exact hk _ _ (fun L' => (J5 (.cons .nl (J5 (.cons .nl (Tv (.cons .nl (Mv (.cons .nl (.cons .nl (.cons .nl .nil))))))))))) s81.tail.tail.tail
end
section
open Go
def H6 (t i : Int) : B0 := ⟨t, false, 0, false, i, ⟨#[]⟩, ⟨#[]⟩, ⟨#[]⟩, 0, false, 0, false, ⟨#[]⟩, ⟨#[]⟩, 0, false, false, ⟨#[]⟩, false, ⟨#[]⟩, 0, false, [], [], []⟩
def Z3 (t i : Int) : B0 := if Ge i 1 65535 = true then H6 t i else Qv
abbrev Ci (i : Int) : B0 := Z3 6 i
theorem Ahk (pc : Bool) (i : Int) : G2 (H6 6 i) (C2 pc (H6 6 i)) = true := by
 simp [G2, O3, G1, C2, H4, H6, Pb, Hk]
theorem AeJ (n : Nat) (hn : 1048576 < n) (i : Int) : Cy E0 (n + 3) 4 102 [.agg (C4 (H6 6 i))] = some (.sc (.bool (Ge i 1 65535))) := by
 rw [Az, Afj, f102]
 refine Iq (G := (· = some (sb (Ge i 1 65535)))) ?_
 try simp only [X1, Xz]
 have s0 : Sep [] [] := Io
 refine Nd s0 (Gq (Kx _)) fun i1 H s2 => Am (o' := 0) rfl (Bg (c := si ((H6 6 i).fType)) s2 (.here) rfl (Fm (v := (.bool (Ge ((H6 6 i).fType) 1 14))) s2 rfl (vS3 .nil) (Mj (n + 1) _ ((H6 6 i).fType) 1 14) (L4 (B4 (nF rfl) (Af s2 (.here) rfl (Gd.bothE ?_ ?_))))))
 ·refine B4 (nF rfl) (Af s2 (.here) rfl (B4 (nF rfl) (Gv rfl rfl (S6 (n + 1) (by omega) (H6 6 i) s2 fun Rs3 H hRs3 s3 => B4 (nF rfl) (Fm (v := (.bool (G2 (H6 6 i) (C2 true (H6 6 i))))) s3 rfl (.aggF (Kx _) (.agg (hRs3 _) .nil)) (L6 n (by omega) _ (H6 6 i) (C2 true (H6 6 i)) (zbu _) (zbu _) (zbu _)) (B4 (nF rfl) (L4 (Is (nF rfl) (Cj (nF (Ahk true i)) (Am (o' := 4) rfl (Bg (c := si ((H6 6 i).fId)) s3 (.here) rfl (Fm (v := (.bool (Ge ((H6 6 i).fId) 1 65535))) s3 rfl (vS3 .nil) (Mj (n + 1) _ ((H6 6 i).fId) 1 65535) (Am (o' := 0) rfl (Bg (c := si ((H6 6 i).fType)) s3 (.here) rfl (Cb (Cj rfl (Cb (Cj rfl (Cb (Cj rfl (Cb (Ix (Cj rfl (Cb (Cj rfl (Cb (Cj rfl (Cb (Cj rfl (Cb (Cj rfl (Cb (Cj rfl (Ee rfl ?_))))))))))))))))))))))))))))))))))
  first | rfl | (simp_all; done)
 ·refine B4 (nF rfl) (Gv rfl rfl (S6 (n + 1) (by omega) (H6 6 i) s2 fun Rs4 H hRs4 s4 => B4 (nF rfl) (Af s4 (.here) rfl (B4 (nF rfl) (Fm (v := (.bool (G2 (H6 6 i) (C2 true (H6 6 i))))) s4 rfl (.aggF (Kx _) (.agg (hRs4 _) .nil)) (L6 n (by omega) _ (H6 6 i) (C2 true (H6 6 i)) (zbu _) (zbu _) (zbu _)) (B4 (nF rfl) (L4 (Is (nF rfl) (Cj (nF (Ahk true i)) (Am (o' := 4) rfl (Bg (c := si ((H6 6 i).fId)) s4 (.here) rfl (Fm (v := (.bool (Ge ((H6 6 i).fId) 1 65535))) s4 rfl (vS3 .nil) (Mj (n + 1) _ ((H6 6 i).fId) 1 65535) (Am (o' := 0) rfl (Bg (c := si ((H6 6 i).fType)) s4 (.here) rfl (Cb (Cj rfl (Cb (Cj rfl (Cb (Cj rfl (Cb (Ix (Cj rfl (Cb (Cj rfl (Cb (Cj rfl (Cb (Cj rfl (Cb (Cj rfl (Cb (Cj rfl (Ee rfl ?_))))))))))))))))))))))))))))))))))
  first | rfl | (simp_all; done)
theorem Acf (n : Nat) (hn : 1048576 < n) (i : Int) : Cy E0 (n + 4) 41 65 [.sc (.int .i64 6), .sc (.int .i64 i)] = some (.agg (C4 (Z3 6 i))) := by
 rw [Az, Aif, f65]
 refine Iq (G := (· = some (.agg (C4 (Z3 6 i))))) ?_
 try simp only [X1, Xz]
 have s0 : Sep [] [] := Io
 refine Dz s0 fun i1 H s2 => Bp (cs := [si 6, bF, i0, bF, si i, sE, .nl, sE, i0, bF, i0, bF, sE, .nl, i0, bF, bF, sE, bF, .nl, i0, bF, .nl, .nl, .nl]) rfl (Dz s2 fun i3 H s4 => Bt (cs' := [si 6, bF, i0, bF, si i, sE, .nl, sE, i0, bF, i0, bF, sE, .nl, i0, bF, bF, sE, bF, .nl, i0, bF, .nl, .nl, .nl]) s4 (.here) (Ac rfl) rfl (Bd rfl) rfl fun H s5 => Fm (v := (.bool (Ge 6 4 7))) s5 rfl (vS3 .nil) (Mj (n + 2) _ 6 4 7) (L4 (D9 (nF rfl) (D9 (nF rfl) (Is (nF rfl) (B4 rfl (Af s5 (.here) rfl (B4 rfl (Fm (v := (.bool (Ge i 1 65535))) s5 rfl (.agg (J5 (.cons .nl (J5 (.cons .nl (Tv (.cons .nl (Mv (.cons .nl (.cons .nl (.cons .nl .nil)))))))))) .nil) (AeJ n (by omega) i) (B4 rfl (L4 (Is rfl (Ad ((Ge i 1 65535)) (fun h6 => ?_) fun h6 => ?_)))))))))))))
 refine Cj (nF h6) (Af s5 (.here) rfl (Bt (cs' := [si 6, bF, i0, bF, si i, sE, .nl, sE, i0, bF, i0, bF, sE, .nl, i0, bF, bF, sE, bF, .nl, i0, bF, .nl, .nl, .nl]) s5 A8 (Ac rfl) rfl (Bd rfl) rfl fun H s7 => Af s7 (.here) rfl (Ee (M7 s7 ⟨_, rfl, rfl⟩ (Ki (.nl (Ki (.nl (W0 (.nl (.sc (.sc (.nl (.nl (.nl .nil))))))))))) (Kp ⟨H5, (Kp ⟨H5, (Vz ⟨H5, (Tk ⟨H5, ⟨H5, ⟨H5, trivial⟩⟩⟩)⟩)⟩)⟩)) ?_)))
 have e8 : Z3 6 i = (⟨6, false, 0, false, i, ⟨#[]⟩, ⟨#[]⟩, ⟨#[]⟩, 0, false, 0, false, ⟨#[]⟩, ⟨#[]⟩, 0, false, false, ⟨#[]⟩, false, ⟨#[]⟩, 0, false, [], [], []⟩ : B0) := by
  clear s0 s2 s4 s5 s7
  try simp only [bne_iff_ne, beq_iff_eq, beq_eq_false_iff_ne, J4] at h6
  first | assumption | (simp only [Z3, H6, Qv, h6, if_true, if_false, zan]; first | done | rfl)
 ·rw [e8]
  first | done | rfl
 refine Dd (nT h6) (Bp (cs := Q1) rfl (Bt (cs' := Q1) s5 A8 (Ac rfl) rfl (Bd rfl) rfl fun H s9 => Af s9 (.here) rfl (Ee (M7 s9 ⟨_, rfl, rfl⟩ (Ki (.nl (Ki (.nl (W0 (.nl (.sc (.sc (.nl (.nl (.nl .nil))))))))))) (Kp ⟨H5, (Kp ⟨H5, (Vz ⟨H5, (Tk ⟨H5, ⟨H5, ⟨H5, trivial⟩⟩⟩)⟩)⟩)⟩)) ?_)))
 have e10 : Z3 6 i = (⟨0, false, 0, false, 0, ⟨#[]⟩, ⟨#[]⟩, ⟨#[]⟩, 0, false, 0, false, ⟨#[]⟩, ⟨#[]⟩, 0, false, false, ⟨#[]⟩, false, ⟨#[]⟩, 0, false, [], [], []⟩ : B0) := by
  clear s0 s2 s4 s5 s9
  try simp only [bne_iff_ne, beq_iff_eq, beq_eq_false_iff_ne, J4] at h6
  first | assumption | (simp only [Z3, H6, Qv, h6, if_true, if_false, zan]; first | done | rfl)
 ·rw [e10]
  first | done | rfl
theorem Oz (n : Nat) (hn : 1048576 < n) (i : Int) : Cy E0 (n + 4) 41 65 [.sc (.int .i64 6), .sc (.int .i64 i)] = some (.agg (C4 (Ci i))) := Acf n hn i
end
section
open Go
section
variable {β : Type} {n : Nat} {H : Aa} {L L' L1 L2 : List Ck} {G : Option β → Prop} {K : AV → Option β} {KH : KO β}
theorem W8 {d : Nat} : ∀ {ts : List Nat} {xs cells : List AV} {I : List Nat} {k : Nat} {v v' : Value}, Cc (Bx An E0.tp H (d + 1)) ts xs = some (cells, I) → cells[k]? = some (.sc v) → Cc (Bx An E0.tp H (d + 1)) ts (xs.set k (.sc v')) = some (cells.set k (.sc v'), I)
 | ts, [], cells, I, k, v, v', h, hk => by
  obtain ⟨_, e⟩ := Iu h
  cases e
  simp at hk
 | [], _ :: _, _, _, _, _, _, h, _ => by simp [Cc] at h
 | t :: ts, x :: xs, cells, I, k, v, v', h, hk => by
  obtain ⟨a, b, h1, h2, e⟩ := Fe h
  cases e
  cases k with
  | zero =>
   obtain ⟨a1, a2⟩ := a
   have : a1 = .sc v := by simpa using hk
   subst this
   have hx := Zq h1
   subst hx
   have e2 : ([] : List Nat) = a2 := by
    have : (AV.sc v, ([] : List Nat)) = (.sc v, a2) := Option.some.inj h1
    cases this
    rfl
   subst e2
   show Cc _ (t :: ts) (.sc v' :: xs) = some (.sc v' :: b.1, [] ++ b.2)
   rw [Cc, Hf, zab, h2]
   rfl
  | succ k =>
   have ih := W8 (v' := v') h2 (by simpa using hk)
   show Cc _ (t :: ts) (x :: xs.set k (.sc v')) = some (a.1 :: b.1.set k (.sc v'), a.2 ++ b.2)
   rw [Cc, h1, zab, ih]
   rfl
theorem W5 {d : Nat} : ∀ {ts : List Nat} {cs : List AV} {k : Nat} {v' : Value}, El (Gp An E0.tp (d + 1)) ts cs → El (Gp An E0.tp (d + 1)) ts (cs.set k (.sc v'))
 | [], [], _, _, h => h
 | t :: ts, c :: cs, 0, v', h => ⟨trivial, h.2⟩
 | t :: ts, c :: cs, k + 1, v', h => ⟨h.1, W5 h.2⟩
 | [], _ :: _, _, _, h => by cases h
 | _ :: _, [], _, _, h => by cases h
theorem Xm {α : Type} {enc : α → List AV} {w : Nat} (hw : ∀ x, (enc x).length = w) {l : List α} {i k : Nat} {y y' : α} {v : AV} (hy : l[i]? = some y) (hk : k < w) (he : enc y' = (enc y).set k v) : ((l.map enc).flatten).set (i * w + k) v = ((l.set i y').map enc).flatten := by
 induction l generalizing i with
 | nil => simp at hy
 | cons x l ih =>
  cases i with
  | zero =>
   have : x = y := by simpa using hy
   subst this
   rw [List.set_cons_zero, za0, za0, zaD, zaD, he, Nat.zero_mul, zaw, List.set_append_left _ _ (by rw [hw]; exact hk)]
  | succ i =>
   have := ih (i := i) (by simpa using hy)
   rw [List.set_cons_succ, za0, za0, zaD, zaD, List.set_append_right _ _ (by rw [hw, zaV]; omega), hw, show (i + 1) * w + k - w = i * w + k by rw [zaV]; omega, this]
theorem Acg {cs : List AV} {o : Nat} {v : AV} (h : o < cs.length) : Cd cs o [v] = cs.set o v := by
 unfold Cd
 rw [List.set_eq_take_append_cons_drop, if_pos h]
 simp
theorem Kh {α : Type} {enc : α → List AV} {w ty k : Nat} {cty : List Nat} {x : AV} {l : List α} {y y' : α} {i : Int} {v v' : Value} {KS : Aa → Option β} (hs : Sep H L) (hty : ∃ i j, An ty = some i ∧ An i.elem = some j ∧ j.size = w ∧ j.cty = cty) (hp : Pk L (.own x ty (Aj enc l)) L1)
  (hi : 0 ≤ i) (hy : l[i.toNat]? = some y) (hw : ∀ x, (enc x).length = w) (hk : k < w) (hv : (enc y)[k]? = some (.sc v)) (hl : Al (.sc v') = true) (he : enc y' = (enc y).set k (.sc v'))
  (h : ∀ H', Sep H' (.own x ty (Aj enc (l.set i.toNat y')) :: L1) → Gd G (KS H')) : Gd G (Eu w x (si i) fun t => Ef k t fun t => D5 1 t (.sc v') H fun H => KS H) := by
 obtain ⟨ti, tj, e1, e2, rfl, rfl⟩ := hty
 obtain ⟨I, ⟨J, R, rfl, ⟨hlf, hok, e⟩, h2⟩, h3⟩ := hs.pick hp
 have hlt : i.toNat < l.length := (zac.1 hy).1
 rcases Lr e1 e2 e with ⟨rfl, h0, _, _⟩ | ⟨id, off, raw, J', b, rfl, rfl, hb, hlv, ha, h4, h5⟩
 omega
 obtain ⟨hl4, b', hb', _, hle, hcs⟩ := Hh h4
 rw [hb] at hb'
 cases hb'
 have hm : (i.toNat + 1) * tj.size ≤ l.length * tj.size := zbd _ hlt
 rw [zaV, zbv] at hm
 have hlc : ((l.map enc).flatten).length = l.length * tj.size := Fj hw l
 have hcv : ((l.map enc).flatten)[i.toNat * tj.size + k]? = some (.sc v) := by
  have key : ∀ (l : List α) (i : Nat), l[i]? = some y → ((l.map enc).flatten)[i * tj.size + k]? = some (.sc v) := by
   intro l
   induction l with
   | nil => intro i hi; simp at hi
   | cons z l ih =>
    intro i hi
    cases i with
    | zero =>
     have : z = y := by simpa using hi
     subst this
     rw [za0, zaD, zag (by rw [hw]; omega), Nat.zero_mul, zaw, hv]
    | succ i =>
     rw [za0, zaD, zaf (by rw [hw, zaV]; omega), hw, show (i + 1) * tj.size + k - tj.size = i * tj.size + k by rw [zaV]; omega]
     exact ih i (by simpa using hi)
  exact key l i.toNat hy
 have hid : id < H.length := (zac.1 hb).1
 refine N9 hi (by omega) (Am (o' := off + (i.toNat * tj.size + k)) (by omega) ?_)
 have hst := Fv 1 id (off + (i.toNat * tj.size + k)) (.sc v') b [.sc v'] H (fun H => KS H) hb (by show (if Al (.sc v') = true then some [AV.sc v'] else none) = _; rw [if_pos hl]) rfl (by omega) hlv
 refine D7 hst (h _ ?_)
 have hnd := zaH.1 (show (id :: (J' ++ R)).Nodup from h3)
 have hfr : ∀ z, z ≠ id → (H.set id { b with cells := Cd b.cells (off + (i.toNat * tj.size + k)) [.sc v'] })[z]? = H[z]? := fun z hz => za4 (fun e => hz e.symm)
 have hRf : SepI (H.set id { b with cells := Cd b.cells (off + (i.toNat * tj.size + k)) [.sc v'] }) L1 R := h2.frame fun z hz => hfr z (fun e => hnd.1 (e ▸ zaq _ hz))
 have h6 := Ec (f' := Bx An E0.tp (H.set id { b with cells := Cd b.cells (off + (i.toNat * tj.size + k)) [.sc v'] }) 5) (fun t x a h hi => Di 5 t x a h fun z hz => hfr z (fun e => hnd.1 (e ▸ zat _ (hi z hz)))) h5
 have h7 := W8 (v' := v') h6 hcv
 rw [Xm hw hy hk he] at h7
 refine ⟨(id :: J') ++ R, ⟨id :: J', R, rfl, ⟨rfl, ?_, ?_⟩, hRf⟩, h3⟩
 obtain ⟨i', j', q1, q2, q3, q4⟩ := hok
 rw [e1] at q1
 cases q1
 rw [e2] at q2
 cases q2
 refine ⟨ti, tj, e1, e2, ?_, ?_⟩
 show ((l.set i.toNat y').map enc).flatten.length = (l.set i.toNat y').length * tj.size
 rw [Fj hw]
 have q5 := W5 (d := 4) (k := i.toNat * tj.size + k) (v' := v') q4
 rw [Xm hw hy hk he] at q5
 rw [zbh]
 exact q5
 have hg : (H.set id { b with cells := Cd b.cells (off + (i.toNat * tj.size + k)) [.sc v'] })[id]? = some { b with cells := Cd b.cells (off + (i.toNat * tj.size + k)) [.sc v'] } := zaY hid
 rw [show Aj enc (l.set i.toNat y') = .ro (l.set i.toNat y').length (((l.set i.toNat y').map enc).flatten) from rfl, zbh, Ft]
 have hap : Fh (H.set id { b with cells := Cd b.cells (off + (i.toNat * tj.size + k)) [.sc v'] }) id = true := by simp only [Fh, hg]; exact ha
 have hrd : Aw (H.set id { b with cells := Cd b.cells (off + (i.toNat * tj.size + k)) [.sc v'] }) id off (l.length * tj.size) = some (raw.set (i.toNat * tj.size + k) (.sc v')) := by
  unfold Aw
  rw [hg]
  simp only [hlv, if_true]
  rw [Acg (by omega), if_pos (by rw [zbh]; omega), hcs]
  congr 1
  rw [List.drop_set, if_neg (by omega), List.take_set]
  congr 1
  omega
 simp only [e1, e2, zab, if_true, hap, hrd, h7]
theorem Iv {f : Nat → AV → Option (AV × List Nat)} : ∀ {ts1 ts2 : List Nat} {xs cells : List AV} {I : List Nat}, Cc f (ts1 ++ ts2) xs = some (cells, I) → ts1.length ≤ xs.length → ∃ I1 I2, Cc f ts1 (xs.take ts1.length) = some (cells.take ts1.length, I1) ∧ Cc f ts2 (xs.drop ts1.length) = some (cells.drop ts1.length, I2) ∧ I = I1 ++ I2
 | [], ts2, xs, cells, I, h, _ => ⟨[], I, by simp [Cc], by simpa using h, rfl⟩
 | t :: ts1, ts2, [], cells, I, h, hl => by simp at hl
 | t :: ts1, ts2, x :: xs, cells, I, h, hl => by
  obtain ⟨a, b, h1, h2, e⟩ := Fe h
  cases e
  obtain ⟨I1, I2, g1, g2, g3⟩ := Iv (ts1 := ts1) (ts2 := ts2) h2 (by simpa using hl)
  refine ⟨a.2 ++ I1, I2, ?_, by simpa using g2, by rw [g3, zaj]⟩
  show Cc f (t :: ts1) (x :: xs.take ts1.length) = some (a.1 :: b.1.take ts1.length, a.2 ++ I1)
  rw [Cc, h1, zab, g1]
  rfl
theorem Rw {α : Type} {enc : α → List AV} {w bytes ty i : Nat} {cty : List Nat} {x y1 y2 : AV} {l : List α} {ys : List (AV × Nat × AV)} (hs : Sep H L) (hty : ∃ i j, An ty = some i ∧ An i.elem = some j ∧ j.size = w ∧ j.cty = cty) (hp : Pk L (.shs x ty (Aj enc l) ys) L1)
  (hi : i < l.length) (q1 : Acr w x 0 i y1) (q2 : Acr w x (i + 1) l.length y2) (hw : ∀ x, (enc x).length = w) (hf : ∀ x, (enc x).all Ie = true) (hc : cty.length = w) (hb : l.length * bytes ≤ 140737488355328)
  (h : ∀ x' H', Al x' = true → Sep H' (.own x' ty (Aj enc (l.take i ++ l.drop (i + 1))) :: L1) → Gd G (KH x' H')) : Gd G (Ha w bytes y1 y2 H fun x H => KH x H) := by
 obtain ⟨ti, tj, e1, e2, rfl, rfl⟩ := hty
 obtain ⟨I, ⟨J, R, rfl, ⟨⟨hlf, hok, e⟩, _⟩, h2⟩, h3⟩ := hs.pick hp
 have hokc : El (Gp An E0.tp 5) (zad l.length tj.cty).flatten (l.map enc).flatten := by
  obtain ⟨i', j', p1, p2, p3, p4⟩ := hok
  rw [e1] at p1
  cases p1
  rw [e2] at p2
  cases p2
  exact p4
 rcases Lr e1 e2 e with ⟨rfl, h0, _, _⟩ | ⟨id, off, raw, J', b, rfl, rfl, hbb, hlv, ha, h4, h5⟩
 omega
 obtain ⟨hl4, b', hb', _, hle, hcs⟩ := Hh h4
 rw [hbb] at hb'
 cases hb'
 have hy1 : y1 = .sl id off i tj.size := by
  rcases q1 with ⟨q, _⟩ | ⟨a1, a2, a3, q, rfl⟩
  cases q
  cases q
  simp
 have hy2 : y2 = .sl id (off + (i + 1) * tj.size) (l.length - (i + 1)) tj.size := by
  rcases q2 with ⟨q, _⟩ | ⟨a1, a2, a3, q, rfl⟩
  cases q
  cases q
  rfl
 subst hy1
 subst hy2
 have hrl : ∀ k, ((zad k tj.cty).flatten).length = k * tj.size := fun k => by simp [hc]
 have hm : (i + 1) * tj.size ≤ l.length * tj.size := zbd _ hi
 have hm1 : (i + 1) * tj.size = i * tj.size + tj.size := by rw [zaV, zbv]
 have hm2 : (l.length - (i + 1)) * tj.size = l.length * tj.size - (i + 1) * tj.size := Nat.sub_mul ..
 have hrep : (zad l.length tj.cty).flatten = (zad i tj.cty).flatten ++ ((zad 1 tj.cty).flatten ++ (zad (l.length - (i + 1)) tj.cty).flatten) := by
  have := Vv (cty := tj.cty) (show i ≤ i + 1 by omega) (show i + 1 ≤ l.length by omega)
  rw [show i + 1 - i = 1 by omega] at this
  exact this
 rw [hrep] at h5 hokc
 obtain ⟨I1, I2, g1, g2, g3⟩ := Iv h5 (by rw [hrl]; omega)
 obtain ⟨I3, I4, k1, k2, k3⟩ := Iv g2 (by rw [hrl, zaF, hrl]; omega)
 obtain ⟨o1, o2⟩ := Gc hokc
 obtain ⟨o3, o4⟩ := Gc o2
 rw [hrl] at g1 o1
 rw [hrl, hrl, zbb, zbb] at k2
 rw [hrl, hrl, zbb] at o4
 rw [zbv, ← hm1] at k2 o4
 subst g3
 subst k3
 have hc1 : ((l.map enc).flatten).take (i * tj.size) = ((l.take i).map enc).flatten := by
  have := Sw hw l 0 i (zbu _) (by omega)
  rw [Nat.zero_mul, za6, Nat.sub_zero, za6] at this
  exact (AV.ro.inj this).2
 have hc2 : ((l.map enc).flatten).drop ((i + 1) * tj.size) = ((l.drop (i + 1)).map enc).flatten := by
  have := Sw hw l (i + 1) l.length (by omega) (zai _)
  have h9 := (AV.ro.inj this).2
  rw [zbi (by rw [zaF, Fj hw, hm2]; exact zai _), zbi (by rw [zaF]; exact zai _)] at h9
  exact h9
 rw [hc1] at g1 o1
 rw [hc2] at k2 o4
 have hcx : Cw H tj.size (.sl id off i tj.size) = some (raw.take (i * tj.size)) := by
  show (if tj.size = tj.size then Aw H id off (i * tj.size) else none) = _
  simp only [Aw, hbb, hlv, if_true]
  rw [if_pos (by omega), hcs, List.take_take, zaQ (by omega)]
 have hcy : Cw H tj.size (.sl id (off + (i + 1) * tj.size) (l.length - (i + 1)) tj.size) = some (raw.drop ((i + 1) * tj.size)) := by
  show (if tj.size = tj.size then Aw H id (off + (i + 1) * tj.size) ((l.length - (i + 1)) * tj.size) else none) = _
  simp only [Aw, hbb, hlv, if_true]
  rw [if_pos (by omega), hcs, List.drop_take, zbb, hm2]
 have hk : L8 H (.sl id off i tj.size) = some (H.set id { b with live := false }) := by
  show (H[id]?).bind (fun b => if b.app then some (H.set id { b with live := false }) else none) = _
  rw [hbb, zab, if_pos ha]
 have hlfy : (raw.drop ((i + 1) * tj.size)).all Al = true := Ps (fun t x a I h hl => Xa h hl) k2 (by
  show (((l.drop (i + 1)).map enc).flatten).all Ie = true
  rw [List.all_flatten, List.all_map, zaE]
  intro z _
  exact hf z)
 have hnd := zaH.1 (show (id :: ((I1 ++ (I3 ++ I4)) ++ R)).Nodup from h3)
 have hfr : ∀ z, z ≠ id → z < H.length → (H.set id { b with live := false } ++ [⟨raw.take (i * tj.size) ++ raw.drop ((i + 1) * tj.size), true, true⟩])[z]? = H[z]? := fun z hz hl => by
  rw [zag (by rw [zbh]; exact hl), za4 (fun e => hz e.symm)]
 have hJlt : ∀ z ∈ I1 ++ (I3 ++ I4), z < H.length := fun z hz => Kk 6 ty _ _ e z (zax _ hz)
 have hmem : ∀ z ∈ I1 ++ (I3 ++ I4), z ≠ id := fun z hz e => hnd.1 (e ▸ zat _ hz)
 refine D7 (b := KH (.sl (H.set id { b with live := false }).length 0 (i + (l.length - (i + 1))) tj.size) (H.set id { b with live := false } ++ [⟨raw.take (i * tj.size) ++ raw.drop ((i + 1) * tj.size), true, true⟩])) ?_ (h _ _ rfl ?_)
 have hl0 : Gn (.sl id off i tj.size) = some i := rfl
 have hl1 : Gn (.sl id (off + (i + 1) * tj.size) (l.length - (i + 1)) tj.size) = some (l.length - (i + 1)) := rfl
 have hbb2 : (i + (l.length - (i + 1))) * bytes ≤ 140737488355328 := za2 (zbd _ (by omega)) hb
 simp only [Ha, hl0, hl1, zab, hcx, hcy, hk]
 rw [if_pos hbb2, if_pos hlfy]
 rfl
 have a1 := Ec (f' := Bx An E0.tp (H.set id { b with live := false } ++ [⟨raw.take (i * tj.size) ++ raw.drop ((i + 1) * tj.size), true, true⟩]) 5) (fun t x a h hi => Di 5 t x a h fun z hz => by
  have := hi z hz
  exact hfr z (hmem z (zat _ this)) (hJlt z (zat _ this))) g1
 have a2 := Ec (f' := Bx An E0.tp (H.set id { b with live := false } ++ [⟨raw.take (i * tj.size) ++ raw.drop ((i + 1) * tj.size), true, true⟩]) 5) (fun t x a h hi => Di 5 t x a h fun z hz => by
  have := hi z hz
  exact hfr z (hmem z (zaq _ (zaq _ this))) (hJlt z (zaq _ (zaq _ this)))) k2
 have a3 := F8 a1 a2
 rw [← za1, zaB, ← za1, ← zaA] at a3
 have hlen : (l.take i ++ l.drop (i + 1)).length = i + (l.length - (i + 1)) := by
  rw [zae, zaL, zaF, zaQ (by omega)]
 have hR : SepI (H.set id { b with live := false } ++ [⟨raw.take (i * tj.size) ++ raw.drop ((i + 1) * tj.size), true, true⟩]) L1 R := h2.frame fun z hz => hfr z (fun e => hnd.1 (e ▸ zaq _ hz)) (h2.lt z hz)
 have hg : (H.set id { b with live := false } ++ [(⟨raw.take (i * tj.size) ++ raw.drop ((i + 1) * tj.size), true, true⟩ : Gm)])[(H.set id { b with live := false }).length]? = some ⟨raw.take (i * tj.size) ++ raw.drop ((i + 1) * tj.size), true, true⟩ := by
  rw [zaf (zai _), zaI]
  rfl
 refine ⟨((H.set id { b with live := false }).length :: (I1 ++ I4)) ++ R, ⟨(H.set id { b with live := false }).length :: (I1 ++ I4), R, rfl, ⟨rfl, ?_, ?_⟩, hR⟩, ?_⟩
 refine ⟨ti, tj, e1, e2, Fj hw _, ?_⟩
 show El _ (zad (l.take i ++ l.drop (i + 1)).length tj.cty).flatten ((l.take i ++ l.drop (i + 1)).map enc).flatten
 rw [hlen, ← zaB]
 simp only [zaA, za1]
 exact Gx o1 o4
 show Bx An E0.tp _ 6 ty _ = some (.ro (l.take i ++ l.drop (i + 1)).length (((l.take i ++ l.drop (i + 1)).map enc).flatten), _)
 rw [hlen, Ft]
 have hap : Fh (H.set id { b with live := false } ++ [⟨raw.take (i * tj.size) ++ raw.drop ((i + 1) * tj.size), true, true⟩]) (H.set id { b with live := false }).length = true := by simp only [Fh, hg]
 have hrd : Aw (H.set id { b with live := false } ++ [⟨raw.take (i * tj.size) ++ raw.drop ((i + 1) * tj.size), true, true⟩]) (H.set id { b with live := false }).length 0 ((i + (l.length - (i + 1))) * tj.size) = some (raw.take (i * tj.size) ++ raw.drop ((i + 1) * tj.size)) := by
  have hll : (raw.take (i * tj.size) ++ raw.drop ((i + 1) * tj.size)).length = (i + (l.length - (i + 1))) * tj.size := by
   rw [zae, zaL, zaF, hl4, zaV i (l.length - (i + 1)) tj.size, hm2, zaQ (by omega)]
  simp only [Aw, hg, if_true, zaw, za6, ← hll, zai, za3]
 simp only [e1, e2, zab, if_true, hap, hrd, a3]
 rw [zau, zaH, zbh]
 refine ⟨fun hm => ?_, ?_⟩
 rcases za9.1 hm with hm | hm
 have : H.length < H.length := hJlt _ (by
  rcases za9.1 hm with hm | hm
  exact zat _ hm
  exact zaq _ (zaq _ hm))
 omega
 have := h2.lt _ hm
 omega
 have hn := hnd.2
 have hsub : ((I1 ++ I4) ++ R).Sublist ((I1 ++ (I3 ++ I4)) ++ R) := List.Sublist.append (List.Sublist.append (List.Sublist.refl _) (List.sublist_append_right _ _)) (List.Sublist.refl _)
 exact hn.sublist hsub
end
end
section
open Go
def Dx (kd id : Int) (o : Bs) (pre : List Ah) : List Ah → Bs × B0 × Bool
 | [] => (o, Qv, false)
 | f :: t => if f.fId = id then (if (kd = 4 ∧ f.fSt = 1) ∨ (kd = 7 ∧ f.fSt = 3) then ({ o with fFl := pre ++ t }, Qv, true)
   else if kd = 5 ∧ ¬ f.fSt = 1 then ({ o with fFl := pre ++ { f with fSt := 3 } :: t }, Ci id, true) else Dx kd id o (pre ++ [f]) t) else Dx kd id o (pre ++ [f]) t
def F7 (o : Bs) (kd id : Int) : Bs × B0 × Bool := if F5 o then Dx kd id o [] o.fFl else (o, Qv, false)
theorem AkO (o : Bs) (h : D6 o ≤ 1048576) : Ms o := by
 have h1 := Zw o h
 exact ⟨⟨h1.1.1, fun y hy => (h1.1.2 y hy).1⟩, ⟨h1.2.1.1, fun y hy => (h1.2.1.2 y hy).1⟩⟩
theorem Ve (o : Bs) (b : D6 o ≤ 1048576) : o.fFl.length ≤ 1048576 := (Vf o b).1.1
theorem Ga (n : Nat) (hn : 1048576 < n) (x0 : Bs) (kd : Int) (d : Int) (b0 : D6 x0 ≤ 1048576) (h13 : (F5 x0) = true)  : ∀ (t pre : List Ah) (m : Nat) (i : Int) (i10 i5 i3 i1 : Nat) (x8 x7 : AV) (H : Aa), x0.fFl = pre ++ t → i = ((pre.length : Nat) : Int) → t.length < m → Al x8 = true → Al x7 = true → Sep H [.blk i10 [.sc (.int .i64 x0.fLast), x7, x8] true, .own x8 25 (Aj Ag x0.fQ), .own x7 24 (Aj Aq x0.fFl), .blk i5 [.sc (.int .i64 0), .sc (.bool false), .sc (.int .i64 0), .sc (.bool false), .sc (.int .i64 0), .sc (.string (⟨#[]⟩)), .nl, .sc (.string (⟨#[]⟩)), .sc (.int .i64 0), .sc (.bool false), .sc (.int .i64 0), .sc (.bool false), .sc (.string (⟨#[]⟩)), .nl, .sc (.int .i64 0), .sc (.bool false), .sc (.bool false), .sc (.string (⟨#[]⟩)), .sc (.bool false), .nl, .sc (.int .i64 0), .sc (.bool false), .nl, .nl, .nl] true, .blk i3 [.sc (.int .i64 0), .nl, .nl] true, .blk i1 (A5 x0) true] → Gd (· = some (.tup [.agg (A5 (Dx kd d x0 pre t).1), .agg (C4 (Dx kd d x0 pre t).2.1), .sc (.bool (Dx kd d x0 pre t).2.2)])) (Md (PR (n + 12) AV) (n + 12) (fun x H => A0 An E0.tp 45 H x) m (.sc (.int .i64 kd)) (.sc (.int .i64 d)) (.ptr i1 0) (.ptr i3 0) (.ptr i5 0) (.ptr i10 0) (.sc (.int .i64 i)) H)
 | [], pre, m + 1, i, i10, i5, i3, i1, x8, x7, H, he, hi, hm, lx8, lx7, s0 => by
  obtain rfl : pre = x0.fFl := by simpa using he.symm
  have hfl := Ve x0 b0
  rw [Md]
  try simp only [X1, Xz]
  refine Am (o' := 1) rfl (Bg (c := Aj Aq x0.fFl) s0 Jg rfl (T7 (Oa (Cj (by simp [hi]) (Af s0 (.here) rfl (Bp (cs := [.sc (.int .i64 0), .sc (.bool false), .sc (.int .i64 0), .sc (.bool false), .sc (.int .i64 0), .sc (.string (⟨#[]⟩)), .nl, .sc (.string (⟨#[]⟩)), .sc (.int .i64 0), .sc (.bool false), .sc (.int .i64 0), .sc (.bool false), .sc (.string (⟨#[]⟩)), .nl, .sc (.int .i64 0), .sc (.bool false), .sc (.bool false), .sc (.string (⟨#[]⟩)), .sc (.bool false), .nl, .sc (.int .i64 0), .sc (.bool false), .nl, .nl, .nl]) rfl (Bt (cs' := [.sc (.int .i64 x0.fLast), x7, x8]) s0 Fq (Ac (Ab rfl (Ab lx7 (Ab lx8 rfl)))) rfl (Bd rfl) rfl fun H s201 => Bt (cs' := [.sc (.int .i64 0), .sc (.bool false), .sc (.int .i64 0), .sc (.bool false), .sc (.int .i64 0), .sc (.string (⟨#[]⟩)), .nl, .sc (.string (⟨#[]⟩)), .sc (.int .i64 0), .sc (.bool false), .sc (.int .i64 0), .sc (.bool false), .sc (.string (⟨#[]⟩)), .nl, .sc (.int .i64 0), .sc (.bool false), .sc (.bool false), .sc (.string (⟨#[]⟩)), .sc (.bool false), .nl, .sc (.int .i64 0), .sc (.bool false), .nl, .nl, .nl]) s201 Fq (Ac rfl) rfl (Bd rfl) rfl fun H s202 => Af s202 A8 rfl (Af s202 (.here) rfl (Ee (Eh s202 rfl (.agg ⟨_, rfl, rfl⟩ (.sc (.own Fq (.own C1 .nil))) (.agg ⟨_, rfl, rfl⟩ (Ki (.nl (Ki (.nl (W0 (.nl (.sc (.sc (.nl (.nl (.nl .nil))))))))))) (.sc .nil))) ⟨(G4 ⟨_, rfl, rfl⟩ ⟨trivial, ⟨(Ay (Cu x0.fFl) (by decide)), ⟨(Ay (Eg x0.fQ) (by decide)), trivial⟩⟩⟩), ⟨(G4 ⟨_, rfl, rfl⟩ (Kp ⟨H5, (Kp ⟨H5, (Vz ⟨H5, (Tk ⟨H5, ⟨H5, ⟨H5, trivial⟩⟩⟩)⟩)⟩)⟩)), ⟨trivial, trivial⟩⟩⟩) ?_)))))))))
  have e : Dx kd d x0 x0.fFl [] = ((⟨x0.fLast, x0.fFl, x0.fQ⟩ : Bs), Qv, false) := by
   try simp only [J4] at h13
   rfl
  ·rw [e]
   first | done | rfl
 | y :: t, pre, m + 1, i, i10, i5, i3, i1, x8, x7, H, he, hi, hm, lx8, lx7, s0 => by
  have hlt : pre.length < x0.fFl.length := by rw [he]; simp
  have hfl := Ve x0 b0
  rw [Md]
  try simp only [X1, Xz]
  refine Am (o' := 1) rfl (Bg (c := Aj Aq x0.fFl) s0 Jg rfl (T7 (Oa (Dd (by simp [hi]; omega) (Am (o' := 1) rfl (Bg (c := Aj Aq x0.fFl) s0 Jg rfl (Za hi Bf (by decide) he (AjQ (Bf _) (Dz s0 fun i201 H s202 => Bt (cs' := Aq y) s202 (.here) (Gq (Fg _)) rfl (Bd rfl) rfl fun H s203 => Am (o' := 0) rfl (Bg (c := .sc (.int .i64 y.fId)) s203 (.here) rfl (Mg (Ad ((decide (y.fId = d))) (fun h204 => ?_) fun h204 => ?_))))))))))))
  refine Cj (nF h204) (Cb (Ad ((decide (kd = 4))) (fun h205 => ?_) fun h205 => ?_))
  refine B4 h205 (Am (o' := 5) rfl (B4 h205 (Bg (c := si y.fSt) s203 (.here) rfl (B4 h205 (Cb (It h205 (Ad ((decide (y.fSt = 1))) (fun h206 => ?_) fun h206 => ?_)))))))
  refine D9 h206 (D9 h206 (D9 h206 (Ai6 (Ai6 (Ai6 (D9 h206 (It h206 (Dd rfl (Am (o' := 1) rfl (Bg (c := x7) s203 A8 rfl ?_))))))))))
  have s207 := s203.toShs C1
  refine Ky (a := 0) (b := i) s207 ⟨_, _, rfl, rfl, rfl, rfl⟩ (.here) rfl rfl (by omega) (by first | omega | (simp; omega)) (by first | omega | (simp; omega)) Bf rfl fun y208 ly208 qy208 s209 => Am (o' := 1) rfl (Bg (c := x7) s209 Co rfl (Hq (by omega) (by omega) (Ky (a := (i + 1)) (b := ((x0.fFl.length : Nat) : Int)) s209 ⟨_, _, rfl, rfl, rfl, rfl⟩ (.here) rfl rfl (by omega) (by first | omega | (simp; omega)) (by first | omega | (simp; omega)) Bf rfl fun y210 ly210 qy210 s211 => Rw (i := i.toNat) s211 ⟨_, _, rfl, rfl, rfl, rfl⟩ (.here) (by omega) qy208 (by have h := qy210; rw [show (i + 1).toNat = i.toNat + 1 by omega, zbf] at h; exact h) Bf Fg rfl (by omega) fun x212 H lx212 s213 => Am (o' := 1) rfl (C6 s213 Co lx212 rfl fun H s214 => Af s214 (.here) rfl (Bp (cs := [.sc (.int .i64 0), .sc (.bool false), .sc (.int .i64 0), .sc (.bool false), .sc (.int .i64 0), .sc (.string (⟨#[]⟩)), .nl, .sc (.string (⟨#[]⟩)), .sc (.int .i64 0), .sc (.bool false), .sc (.int .i64 0), .sc (.bool false), .sc (.string (⟨#[]⟩)), .nl, .sc (.int .i64 0), .sc (.bool false), .sc (.bool false), .sc (.string (⟨#[]⟩)), .sc (.bool false), .nl, .sc (.int .i64 0), .sc (.bool false), .nl, .nl, .nl]) rfl (Bt (cs' := [.sc (.int .i64 x0.fLast), x212, x8]) s214 Jg (Ac (Ab rfl (Ab lx212 (Ab lx8 rfl)))) rfl (Bd rfl) rfl fun H s215 => Bt (cs' := [.sc (.int .i64 0), .sc (.bool false), .sc (.int .i64 0), .sc (.bool false), .sc (.int .i64 0), .sc (.string (⟨#[]⟩)), .nl, .sc (.string (⟨#[]⟩)), .sc (.int .i64 0), .sc (.bool false), .sc (.int .i64 0), .sc (.bool false), .sc (.string (⟨#[]⟩)), .nl, .sc (.int .i64 0), .sc (.bool false), .sc (.bool false), .sc (.string (⟨#[]⟩)), .sc (.bool false), .nl, .sc (.int .i64 0), .sc (.bool false), .nl, .nl, .nl]) s215 Jg (Ac rfl) rfl (Bd rfl) rfl fun H s216 => Af s216 A8 rfl (Af s216 (.here) rfl ?_)))))))
  refine Ee (Eh s216 rfl (.agg ⟨_, rfl, rfl⟩ (.sc (.own C1 (.own Fq .nil))) (.agg ⟨_, rfl, rfl⟩ (Ki (.nl (Ki (.nl (W0 (.nl (.sc (.sc (.nl (.nl (.nl .nil))))))))))) (.sc .nil))) ⟨(G4 ⟨_, rfl, rfl⟩ ⟨trivial, ⟨(Ay (Cu (x0.fFl.take i.toNat ++ x0.fFl.drop (i.toNat + 1))) (by decide)), ⟨(Ay (Eg x0.fQ) (by decide)), trivial⟩⟩⟩), ⟨(G4 ⟨_, rfl, rfl⟩ (Kp ⟨H5, (Kp ⟨H5, (Vz ⟨H5, (Tk ⟨H5, ⟨H5, ⟨H5, trivial⟩⟩⟩)⟩)⟩)⟩)), ⟨trivial, trivial⟩⟩⟩) ?_
  have e : Dx kd d x0 pre (y :: t) = ((⟨x0.fLast, (x0.fFl.take i.toNat ++ x0.fFl.drop (i.toNat + 1)), x0.fQ⟩ : Bs), Qv, true) := by
   clear s0 s202 s203 s207 s209 s211 s213 s214 s215 s216
   try simp only [J4] at h13 h204 h205 h206
   try rw [show x0.fFl.take i.toNat ++ x0.fFl.drop (i.toNat + 1) = pre ++ t from by rw [he, hi]; simp]
   try rw [show x0.fFl.set (i).toNat ({ y with fSt := 3 } : Ah) = pre ++ ({ y with fSt := 3 } : Ah) :: t from by rw [he, hi]; simp]
   rw [Dx]
   (repeat' split) <;> first | rfl | (exfalso; omega)
  ·rw [e]
   first | done | rfl
  refine B4 h206 (B4 h206 (Cb (B4 h206 (Ad ((decide (kd = 7))) (fun h217 => ?_) fun h217 => ?_))))
  refine B4 h217 (Am (o' := 5) rfl (B4 h217 (Bg (c := si y.fSt) s203 (.here) rfl (B4 h217 (Cb (B4 h206 (It h217 (Is h206 (Ad ((decide (y.fSt = 3))) (fun h218 => ?_) fun h218 => ?_)))))))))
  refine Dd h218 (Am (o' := 1) rfl (Bg (c := x7) s203 A8 rfl ?_))
  have s219 := s203.toShs C1
  refine Ky (a := 0) (b := i) s219 ⟨_, _, rfl, rfl, rfl, rfl⟩ (.here) rfl rfl (by omega) (by first | omega | (simp; omega)) (by first | omega | (simp; omega)) Bf rfl fun y220 ly220 qy220 s221 => Am (o' := 1) rfl (Bg (c := x7) s221 Co rfl (Hq (by omega) (by omega) (Ky (a := (i + 1)) (b := ((x0.fFl.length : Nat) : Int)) s221 ⟨_, _, rfl, rfl, rfl, rfl⟩ (.here) rfl rfl (by omega) (by first | omega | (simp; omega)) (by first | omega | (simp; omega)) Bf rfl fun y222 ly222 qy222 s223 => Rw (i := i.toNat) s223 ⟨_, _, rfl, rfl, rfl, rfl⟩ (.here) (by omega) qy220 (by have h := qy222; rw [show (i + 1).toNat = i.toNat + 1 by omega, zbf] at h; exact h) Bf Fg rfl (by omega) fun x224 H lx224 s225 => Am (o' := 1) rfl (C6 s225 Co lx224 rfl fun H s226 => Af s226 (.here) rfl (Bp (cs := [.sc (.int .i64 0), .sc (.bool false), .sc (.int .i64 0), .sc (.bool false), .sc (.int .i64 0), .sc (.string (⟨#[]⟩)), .nl, .sc (.string (⟨#[]⟩)), .sc (.int .i64 0), .sc (.bool false), .sc (.int .i64 0), .sc (.bool false), .sc (.string (⟨#[]⟩)), .nl, .sc (.int .i64 0), .sc (.bool false), .sc (.bool false), .sc (.string (⟨#[]⟩)), .sc (.bool false), .nl, .sc (.int .i64 0), .sc (.bool false), .nl, .nl, .nl]) rfl (Bt (cs' := [.sc (.int .i64 x0.fLast), x224, x8]) s226 Jg (Ac (Ab rfl (Ab lx224 (Ab lx8 rfl)))) rfl (Bd rfl) rfl fun H s227 => Bt (cs' := [.sc (.int .i64 0), .sc (.bool false), .sc (.int .i64 0), .sc (.bool false), .sc (.int .i64 0), .sc (.string (⟨#[]⟩)), .nl, .sc (.string (⟨#[]⟩)), .sc (.int .i64 0), .sc (.bool false), .sc (.int .i64 0), .sc (.bool false), .sc (.string (⟨#[]⟩)), .nl, .sc (.int .i64 0), .sc (.bool false), .sc (.bool false), .sc (.string (⟨#[]⟩)), .sc (.bool false), .nl, .sc (.int .i64 0), .sc (.bool false), .nl, .nl, .nl]) s227 Jg (Ac rfl) rfl (Bd rfl) rfl fun H s228 => Af s228 A8 rfl (Af s228 (.here) rfl ?_)))))))
  refine Ee (Eh s228 rfl (.agg ⟨_, rfl, rfl⟩ (.sc (.own C1 (.own Fq .nil))) (.agg ⟨_, rfl, rfl⟩ (Ki (.nl (Ki (.nl (W0 (.nl (.sc (.sc (.nl (.nl (.nl .nil))))))))))) (.sc .nil))) ⟨(G4 ⟨_, rfl, rfl⟩ ⟨trivial, ⟨(Ay (Cu (x0.fFl.take i.toNat ++ x0.fFl.drop (i.toNat + 1))) (by decide)), ⟨(Ay (Eg x0.fQ) (by decide)), trivial⟩⟩⟩), ⟨(G4 ⟨_, rfl, rfl⟩ (Kp ⟨H5, (Kp ⟨H5, (Vz ⟨H5, (Tk ⟨H5, ⟨H5, ⟨H5, trivial⟩⟩⟩)⟩)⟩)⟩)), ⟨trivial, trivial⟩⟩⟩) ?_
  have e : Dx kd d x0 pre (y :: t) = ((⟨x0.fLast, (x0.fFl.take i.toNat ++ x0.fFl.drop (i.toNat + 1)), x0.fQ⟩ : Bs), Qv, true) := by
   clear s0 s202 s203 s219 s221 s223 s225 s226 s227 s228
   try simp only [J4] at h13 h204 h205 h206 h217 h218
   try rw [show x0.fFl.take i.toNat ++ x0.fFl.drop (i.toNat + 1) = pre ++ t from by rw [he, hi]; simp]
   try rw [show x0.fFl.set (i).toNat ({ y with fSt := 3 } : Ah) = pre ++ ({ y with fSt := 3 } : Ah) :: t from by rw [he, hi]; simp]
   rw [Dx]
   (repeat' split) <;> first | rfl | (exfalso; omega)
  ·rw [e]
   first | done | rfl
  refine Cj h218 (Cb (Ad ((decide (kd = 5))) (fun h229 => ?_) fun h229 => ?_))
  refine B4 h229 (Am (o' := 5) rfl (B4 h229 (Bg (c := si y.fSt) s203 (.here) rfl (B4 h229 (Mg (It h229 (Dd (nT h206) (Am (o' := 1) rfl (Bg (c := x7) s203 A8 rfl ?_)))))))))
  have he230 : (x0.fFl)[(i).toNat]? = some y := by rw [he, hi]; simp
  refine Kh (y := y) (y' := ({ y with fSt := 3 } : Ah)) (k := 5) (v := (.int .i64 y.fSt)) s203 ⟨_, _, rfl, rfl, rfl, rfl⟩ C1 (by omega) he230 Bf (by omega) rfl rfl rfl fun H s231 => Af s231 Co rfl ?_
  have c232 := Oz (n + 8) (by omega) d
  refine G3 s231 rfl (Mv .nil) (c232) ⟨_, rfl, rfl⟩ (Hr _) ?_
  rintro _ _ H ⟨x233, x234, x235, x236, x237, x238, lx233, lx234, lx235, lx236, lx237, lx238, rfl, rfl⟩ s239
  simp only [zah, zau] at s239
  refine Bt (cs' := [si x0.fLast, x7, x8]) s239 K7 (Ac (Ab rfl (Ab lx7 (Ab lx8 rfl)))) rfl (Bd rfl) rfl fun H s240 => Bt (cs' := [si ((Ci d).fType), .sc (.bool (Ci d).fDup), si ((Ci d).fQos), .sc (.bool (Ci d).fRetain), si ((Ci d).fId), ss ((Ci d).fTopic), x233, ss ((Ci d).fClient), si ((Ci d).fLevel), .sc (.bool (Ci d).fClean), si ((Ci d).fKeep), .sc (.bool (Ci d).fHasWill), ss ((Ci d).fWTopic), x234, si ((Ci d).fWQos), .sc (.bool (Ci d).fWRetain), .sc (.bool (Ci d).fHasUser), ss ((Ci d).fUser), .sc (.bool (Ci d).fHasPass), x235, si ((Ci d).fCode), .sc (.bool (Ci d).fPresent), x236, x237, x238]) s240 K7 (Ac (Ab rfl (Ab rfl (Ab rfl (Ab rfl (Ab rfl (Ab rfl (Ab lx233 (Ab rfl (Ab rfl (Ab rfl (Ab rfl (Ab rfl (Ab rfl (Ab lx234 (Ab rfl (Ab rfl (Ab rfl (Ab rfl (Ab rfl (Ab lx235 (Ab rfl (Ab rfl (Ab lx236 (Ab lx237 (Ab lx238 rfl)))))))))))))))))))))))))) rfl (Bd rfl) rfl fun H s241 => Af s241 A8 rfl (Af s241 (.here) rfl ?_)
  refine Ee (Eh s241 rfl (.agg ⟨_, rfl, rfl⟩ (.sc (.own zP8 (.own Xx .nil))) (.agg ⟨_, rfl, rfl⟩ (Ki (.own Qs (Ki (.own Tl (W0 (.own Jg (.sc (.sc (.own Fq (.own C1 (.own Co .nil))))))))))) (.sc .nil))) ⟨(G4 ⟨_, rfl, rfl⟩ ⟨trivial, ⟨(Ay (Cu (x0.fFl.set (i).toNat ({ y with fSt := 3 } : Ah))) (by decide)), ⟨(Ay (Eg x0.fQ) (by decide)), trivial⟩⟩⟩), ⟨(G4 ⟨_, rfl, rfl⟩ (Kp ⟨(Ay (Jd ((Ci d).fBody)) (by decide)), (Kp ⟨(Ay (Jd ((Ci d).fWBody)) (by decide)), (Vz ⟨(Ay (Jd ((Ci d).fPass)) (by decide)), (Tk ⟨(Ay (Lq ((Ci d).fWants)) (by decide)), ⟨(Ay (Zo ((Ci d).fNames)) (by decide)), ⟨(Ay (Kj ((Ci d).fCodes)) (by decide)), trivial⟩⟩⟩)⟩)⟩)⟩)), ⟨trivial, trivial⟩⟩⟩) ?_
  have e : Dx kd d x0 pre (y :: t) = ((⟨x0.fLast, (x0.fFl.set (i).toNat ({ y with fSt := 3 } : Ah)), x0.fQ⟩ : Bs), (Ci d), true) := by
   clear s0 s202 s203 s231 s239 s240 s241
   try simp only [J4] at h13 h204 h205 h206 h217 h218 h229
   try rw [show x0.fFl.take i.toNat ++ x0.fFl.drop (i.toNat + 1) = pre ++ t from by rw [he, hi]; simp]
   try rw [show x0.fFl.set (i).toNat ({ y with fSt := 3 } : Ah) = pre ++ ({ y with fSt := 3 } : Ah) :: t from by rw [he, hi]; simp]
   rw [Dx]
   (repeat' split) <;> first | rfl | (exfalso; omega)
  ·rw [e]
   first | done | rfl
  refine D9 h229 (D9 h229 (D9 h229 (Is h229 (Cj rfl (Hq (by omega) (by omega) ?_)))))
  have e242 : Dx kd d x0 pre (y :: t) = Dx kd d x0 (pre ++ [y]) t := by
   clear s0 s202 s203
   try simp only [bne_iff_ne, beq_iff_eq, beq_eq_false_iff_ne, J4] at h13 h204 h205 h206 h217 h218 h229
   rw [Dx]; (repeat' split) <;> first | rfl | (exfalso; omega)
  rw [e242]
  exact Ga n hn x0 kd d b0 h13  t (pre ++ [y]) m _ i10 i5 i3 i1 x8 x7 _ (by rw [he]; simp) (by rw [hi]; simp) (by simpa using hm) lx8 lx7 (by simpa only [zaA, za0, zb0] using (s203.sel (.cons A8 (.cons A8 (.cons A8 (.cons A8 (.cons A8 (.cons A8 .nil))))))))
  refine D9 h217 (D9 h217 (D9 h217 (B4 h206 (Is h217 (Is h206 (Cj rfl (Cb (Ad ((decide (kd = 5))) (fun h243 => ?_) fun h243 => ?_))))))))
  refine B4 h243 (Am (o' := 5) rfl (B4 h243 (Bg (c := si y.fSt) s203 (.here) rfl (B4 h243 (Mg (It h243 (Dd (nT h206) (Am (o' := 1) rfl (Bg (c := x7) s203 A8 rfl ?_)))))))))
  have he244 : (x0.fFl)[(i).toNat]? = some y := by rw [he, hi]; simp
  refine Kh (y := y) (y' := ({ y with fSt := 3 } : Ah)) (k := 5) (v := (.int .i64 y.fSt)) s203 ⟨_, _, rfl, rfl, rfl, rfl⟩ C1 (by omega) he244 Bf (by omega) rfl rfl rfl fun H s245 => Af s245 Co rfl ?_
  have c246 := Oz (n + 8) (by omega) d
  refine G3 s245 rfl (Mv .nil) (c246) ⟨_, rfl, rfl⟩ (Hr _) ?_
  rintro _ _ H ⟨x247, x248, x249, x250, x251, x252, lx247, lx248, lx249, lx250, lx251, lx252, rfl, rfl⟩ s253
  simp only [zah, zau] at s253
  refine Bt (cs' := [si x0.fLast, x7, x8]) s253 K7 (Ac (Ab rfl (Ab lx7 (Ab lx8 rfl)))) rfl (Bd rfl) rfl fun H s254 => Bt (cs' := [si ((Ci d).fType), .sc (.bool (Ci d).fDup), si ((Ci d).fQos), .sc (.bool (Ci d).fRetain), si ((Ci d).fId), ss ((Ci d).fTopic), x247, ss ((Ci d).fClient), si ((Ci d).fLevel), .sc (.bool (Ci d).fClean), si ((Ci d).fKeep), .sc (.bool (Ci d).fHasWill), ss ((Ci d).fWTopic), x248, si ((Ci d).fWQos), .sc (.bool (Ci d).fWRetain), .sc (.bool (Ci d).fHasUser), ss ((Ci d).fUser), .sc (.bool (Ci d).fHasPass), x249, si ((Ci d).fCode), .sc (.bool (Ci d).fPresent), x250, x251, x252]) s254 K7 (Ac (Ab rfl (Ab rfl (Ab rfl (Ab rfl (Ab rfl (Ab rfl (Ab lx247 (Ab rfl (Ab rfl (Ab rfl (Ab rfl (Ab rfl (Ab rfl (Ab lx248 (Ab rfl (Ab rfl (Ab rfl (Ab rfl (Ab rfl (Ab lx249 (Ab rfl (Ab rfl (Ab lx250 (Ab lx251 (Ab lx252 rfl)))))))))))))))))))))))))) rfl (Bd rfl) rfl fun H s255 => Af s255 A8 rfl (Af s255 (.here) rfl ?_)
  refine Ee (Eh s255 rfl (.agg ⟨_, rfl, rfl⟩ (.sc (.own zP8 (.own Xx .nil))) (.agg ⟨_, rfl, rfl⟩ (Ki (.own Qs (Ki (.own Tl (W0 (.own Jg (.sc (.sc (.own Fq (.own C1 (.own Co .nil))))))))))) (.sc .nil))) ⟨(G4 ⟨_, rfl, rfl⟩ ⟨trivial, ⟨(Ay (Cu (x0.fFl.set (i).toNat ({ y with fSt := 3 } : Ah))) (by decide)), ⟨(Ay (Eg x0.fQ) (by decide)), trivial⟩⟩⟩), ⟨(G4 ⟨_, rfl, rfl⟩ (Kp ⟨(Ay (Jd ((Ci d).fBody)) (by decide)), (Kp ⟨(Ay (Jd ((Ci d).fWBody)) (by decide)), (Vz ⟨(Ay (Jd ((Ci d).fPass)) (by decide)), (Tk ⟨(Ay (Lq ((Ci d).fWants)) (by decide)), ⟨(Ay (Zo ((Ci d).fNames)) (by decide)), ⟨(Ay (Kj ((Ci d).fCodes)) (by decide)), trivial⟩⟩⟩)⟩)⟩)⟩)), ⟨trivial, trivial⟩⟩⟩) ?_
  have e : Dx kd d x0 pre (y :: t) = ((⟨x0.fLast, (x0.fFl.set (i).toNat ({ y with fSt := 3 } : Ah)), x0.fQ⟩ : Bs), (Ci d), true) := by
   clear s0 s202 s203 s245 s253 s254 s255
   try simp only [J4] at h13 h204 h205 h206 h217 h243
   try rw [show x0.fFl.take i.toNat ++ x0.fFl.drop (i.toNat + 1) = pre ++ t from by rw [he, hi]; simp]
   try rw [show x0.fFl.set (i).toNat ({ y with fSt := 3 } : Ah) = pre ++ ({ y with fSt := 3 } : Ah) :: t from by rw [he, hi]; simp]
   rw [Dx]
   (repeat' split) <;> first | rfl | (exfalso; omega)
  ·rw [e]
   first | done | rfl
  refine D9 h243 (D9 h243 (D9 h243 (Is h243 (Cj rfl (Hq (by omega) (by omega) ?_)))))
  have e256 : Dx kd d x0 pre (y :: t) = Dx kd d x0 (pre ++ [y]) t := by
   clear s0 s202 s203
   try simp only [bne_iff_ne, beq_iff_eq, beq_eq_false_iff_ne, J4] at h13 h204 h205 h206 h217 h243
   rw [Dx]; (repeat' split) <;> first | rfl | (exfalso; omega)
  rw [e256]
  exact Ga n hn x0 kd d b0 h13  t (pre ++ [y]) m _ i10 i5 i3 i1 x8 x7 _ (by rw [he]; simp) (by rw [hi]; simp) (by simpa using hm) lx8 lx7 (by simpa only [zaA, za0, zb0] using (s203.sel (.cons A8 (.cons A8 (.cons A8 (.cons A8 (.cons A8 (.cons A8 .nil))))))))
  refine D9 h205 (D9 h205 (D9 h205 (Is h205 (B4 rfl (B4 rfl (Cb (B4 rfl (Ad ((decide (kd = 7))) (fun h257 => ?_) fun h257 => ?_))))))))
  refine B4 h257 (Am (o' := 5) rfl (B4 h257 (Bg (c := si y.fSt) s203 (.here) rfl (B4 h257 (Cb (B4 rfl (It h257 (Is rfl (Ad ((decide (y.fSt = 3))) (fun h258 => ?_) fun h258 => ?_)))))))))
  refine Dd h258 (Am (o' := 1) rfl (Bg (c := x7) s203 A8 rfl ?_))
  have s259 := s203.toShs C1
  refine Ky (a := 0) (b := i) s259 ⟨_, _, rfl, rfl, rfl, rfl⟩ (.here) rfl rfl (by omega) (by first | omega | (simp; omega)) (by first | omega | (simp; omega)) Bf rfl fun y260 ly260 qy260 s261 => Am (o' := 1) rfl (Bg (c := x7) s261 Co rfl (Hq (by omega) (by omega) (Ky (a := (i + 1)) (b := ((x0.fFl.length : Nat) : Int)) s261 ⟨_, _, rfl, rfl, rfl, rfl⟩ (.here) rfl rfl (by omega) (by first | omega | (simp; omega)) (by first | omega | (simp; omega)) Bf rfl fun y262 ly262 qy262 s263 => Rw (i := i.toNat) s263 ⟨_, _, rfl, rfl, rfl, rfl⟩ (.here) (by omega) qy260 (by have h := qy262; rw [show (i + 1).toNat = i.toNat + 1 by omega, zbf] at h; exact h) Bf Fg rfl (by omega) fun x264 H lx264 s265 => Am (o' := 1) rfl (C6 s265 Co lx264 rfl fun H s266 => Af s266 (.here) rfl (Bp (cs := [.sc (.int .i64 0), .sc (.bool false), .sc (.int .i64 0), .sc (.bool false), .sc (.int .i64 0), .sc (.string (⟨#[]⟩)), .nl, .sc (.string (⟨#[]⟩)), .sc (.int .i64 0), .sc (.bool false), .sc (.int .i64 0), .sc (.bool false), .sc (.string (⟨#[]⟩)), .nl, .sc (.int .i64 0), .sc (.bool false), .sc (.bool false), .sc (.string (⟨#[]⟩)), .sc (.bool false), .nl, .sc (.int .i64 0), .sc (.bool false), .nl, .nl, .nl]) rfl (Bt (cs' := [.sc (.int .i64 x0.fLast), x264, x8]) s266 Jg (Ac (Ab rfl (Ab lx264 (Ab lx8 rfl)))) rfl (Bd rfl) rfl fun H s267 => Bt (cs' := [.sc (.int .i64 0), .sc (.bool false), .sc (.int .i64 0), .sc (.bool false), .sc (.int .i64 0), .sc (.string (⟨#[]⟩)), .nl, .sc (.string (⟨#[]⟩)), .sc (.int .i64 0), .sc (.bool false), .sc (.int .i64 0), .sc (.bool false), .sc (.string (⟨#[]⟩)), .nl, .sc (.int .i64 0), .sc (.bool false), .sc (.bool false), .sc (.string (⟨#[]⟩)), .sc (.bool false), .nl, .sc (.int .i64 0), .sc (.bool false), .nl, .nl, .nl]) s267 Jg (Ac rfl) rfl (Bd rfl) rfl fun H s268 => Af s268 A8 rfl (Af s268 (.here) rfl ?_)))))))
  refine Ee (Eh s268 rfl (.agg ⟨_, rfl, rfl⟩ (.sc (.own C1 (.own Fq .nil))) (.agg ⟨_, rfl, rfl⟩ (Ki (.nl (Ki (.nl (W0 (.nl (.sc (.sc (.nl (.nl (.nl .nil))))))))))) (.sc .nil))) ⟨(G4 ⟨_, rfl, rfl⟩ ⟨trivial, ⟨(Ay (Cu (x0.fFl.take i.toNat ++ x0.fFl.drop (i.toNat + 1))) (by decide)), ⟨(Ay (Eg x0.fQ) (by decide)), trivial⟩⟩⟩), ⟨(G4 ⟨_, rfl, rfl⟩ (Kp ⟨H5, (Kp ⟨H5, (Vz ⟨H5, (Tk ⟨H5, ⟨H5, ⟨H5, trivial⟩⟩⟩)⟩)⟩)⟩)), ⟨trivial, trivial⟩⟩⟩) ?_
  have e : Dx kd d x0 pre (y :: t) = ((⟨x0.fLast, (x0.fFl.take i.toNat ++ x0.fFl.drop (i.toNat + 1)), x0.fQ⟩ : Bs), Qv, true) := by
   clear s0 s202 s203 s259 s261 s263 s265 s266 s267 s268
   try simp only [J4] at h13 h204 h205 h257 h258
   try rw [show x0.fFl.take i.toNat ++ x0.fFl.drop (i.toNat + 1) = pre ++ t from by rw [he, hi]; simp]
   try rw [show x0.fFl.set (i).toNat ({ y with fSt := 3 } : Ah) = pre ++ ({ y with fSt := 3 } : Ah) :: t from by rw [he, hi]; simp]
   rw [Dx]
   (repeat' split) <;> first | rfl | (exfalso; omega)
  ·rw [e]
   first | done | rfl
  refine Cj h258 (Cb (Ad ((decide (kd = 5))) (fun h269 => ?_) fun h269 => ?_))
  refine B4 h269 (Am (o' := 5) rfl (B4 h269 (Bg (c := si y.fSt) s203 (.here) rfl (B4 h269 (Mg (It h269 (Ad ((decide (y.fSt = 1))) (fun h270 => ?_) fun h270 => ?_)))))))
  refine Cj (nF h270) (Hq (by omega) (by omega) ?_)
  have e271 : Dx kd d x0 pre (y :: t) = Dx kd d x0 (pre ++ [y]) t := by
   clear s0 s202 s203
   try simp only [bne_iff_ne, beq_iff_eq, beq_eq_false_iff_ne, J4] at h13 h204 h205 h257 h258 h269 h270
   rw [Dx]; (repeat' split) <;> first | rfl | (exfalso; omega)
  rw [e271]
  exact Ga n hn x0 kd d b0 h13  t (pre ++ [y]) m _ i10 i5 i3 i1 x8 x7 _ (by rw [he]; simp) (by rw [hi]; simp) (by simpa using hm) lx8 lx7 (by simpa only [zaA, za0, zb0] using (s203.sel (.cons A8 (.cons A8 (.cons A8 (.cons A8 (.cons A8 (.cons A8 .nil))))))))
  refine Dd (nT h270) (Am (o' := 1) rfl (Bg (c := x7) s203 A8 rfl ?_))
  have he272 : (x0.fFl)[(i).toNat]? = some y := by rw [he, hi]; simp
  refine Kh (y := y) (y' := ({ y with fSt := 3 } : Ah)) (k := 5) (v := (.int .i64 y.fSt)) s203 ⟨_, _, rfl, rfl, rfl, rfl⟩ C1 (by omega) he272 Bf (by omega) rfl rfl rfl fun H s273 => Af s273 Co rfl ?_
  have c274 := Oz (n + 8) (by omega) d
  refine G3 s273 rfl (Mv .nil) (c274) ⟨_, rfl, rfl⟩ (Hr _) ?_
  rintro _ _ H ⟨x275, x276, x277, x278, x279, x280, lx275, lx276, lx277, lx278, lx279, lx280, rfl, rfl⟩ s281
  simp only [zah, zau] at s281
  refine Bt (cs' := [si x0.fLast, x7, x8]) s281 K7 (Ac (Ab rfl (Ab lx7 (Ab lx8 rfl)))) rfl (Bd rfl) rfl fun H s282 => Bt (cs' := [si ((Ci d).fType), .sc (.bool (Ci d).fDup), si ((Ci d).fQos), .sc (.bool (Ci d).fRetain), si ((Ci d).fId), ss ((Ci d).fTopic), x275, ss ((Ci d).fClient), si ((Ci d).fLevel), .sc (.bool (Ci d).fClean), si ((Ci d).fKeep), .sc (.bool (Ci d).fHasWill), ss ((Ci d).fWTopic), x276, si ((Ci d).fWQos), .sc (.bool (Ci d).fWRetain), .sc (.bool (Ci d).fHasUser), ss ((Ci d).fUser), .sc (.bool (Ci d).fHasPass), x277, si ((Ci d).fCode), .sc (.bool (Ci d).fPresent), x278, x279, x280]) s282 K7 (Ac (Ab rfl (Ab rfl (Ab rfl (Ab rfl (Ab rfl (Ab rfl (Ab lx275 (Ab rfl (Ab rfl (Ab rfl (Ab rfl (Ab rfl (Ab rfl (Ab lx276 (Ab rfl (Ab rfl (Ab rfl (Ab rfl (Ab rfl (Ab lx277 (Ab rfl (Ab rfl (Ab lx278 (Ab lx279 (Ab lx280 rfl)))))))))))))))))))))))))) rfl (Bd rfl) rfl fun H s283 => Af s283 A8 rfl (Af s283 (.here) rfl ?_)
  refine Ee (Eh s283 rfl (.agg ⟨_, rfl, rfl⟩ (.sc (.own zP8 (.own Xx .nil))) (.agg ⟨_, rfl, rfl⟩ (Ki (.own Qs (Ki (.own Tl (W0 (.own Jg (.sc (.sc (.own Fq (.own C1 (.own Co .nil))))))))))) (.sc .nil))) ⟨(G4 ⟨_, rfl, rfl⟩ ⟨trivial, ⟨(Ay (Cu (x0.fFl.set (i).toNat ({ y with fSt := 3 } : Ah))) (by decide)), ⟨(Ay (Eg x0.fQ) (by decide)), trivial⟩⟩⟩), ⟨(G4 ⟨_, rfl, rfl⟩ (Kp ⟨(Ay (Jd ((Ci d).fBody)) (by decide)), (Kp ⟨(Ay (Jd ((Ci d).fWBody)) (by decide)), (Vz ⟨(Ay (Jd ((Ci d).fPass)) (by decide)), (Tk ⟨(Ay (Lq ((Ci d).fWants)) (by decide)), ⟨(Ay (Zo ((Ci d).fNames)) (by decide)), ⟨(Ay (Kj ((Ci d).fCodes)) (by decide)), trivial⟩⟩⟩)⟩)⟩)⟩)), ⟨trivial, trivial⟩⟩⟩) ?_
  have e : Dx kd d x0 pre (y :: t) = ((⟨x0.fLast, (x0.fFl.set (i).toNat ({ y with fSt := 3 } : Ah)), x0.fQ⟩ : Bs), (Ci d), true) := by
   clear s0 s202 s203 s273 s281 s282 s283
   try simp only [J4] at h13 h204 h205 h257 h258 h269 h270
   try rw [show x0.fFl.take i.toNat ++ x0.fFl.drop (i.toNat + 1) = pre ++ t from by rw [he, hi]; simp]
   try rw [show x0.fFl.set (i).toNat ({ y with fSt := 3 } : Ah) = pre ++ ({ y with fSt := 3 } : Ah) :: t from by rw [he, hi]; simp]
   rw [Dx]
   (repeat' split) <;> first | rfl | (exfalso; omega)
  ·rw [e]
   first | done | rfl
  refine D9 h269 (D9 h269 (D9 h269 (Is h269 (Cj rfl (Hq (by omega) (by omega) ?_)))))
  have e284 : Dx kd d x0 pre (y :: t) = Dx kd d x0 (pre ++ [y]) t := by
   clear s0 s202 s203
   try simp only [bne_iff_ne, beq_iff_eq, beq_eq_false_iff_ne, J4] at h13 h204 h205 h257 h258 h269
   rw [Dx]; (repeat' split) <;> first | rfl | (exfalso; omega)
  rw [e284]
  exact Ga n hn x0 kd d b0 h13  t (pre ++ [y]) m _ i10 i5 i3 i1 x8 x7 _ (by rw [he]; simp) (by rw [hi]; simp) (by simpa using hm) lx8 lx7 (by simpa only [zaA, za0, zb0] using (s203.sel (.cons A8 (.cons A8 (.cons A8 (.cons A8 (.cons A8 (.cons A8 .nil))))))))
  refine D9 h257 (D9 h257 (D9 h257 (B4 rfl (Is h257 (Is rfl (Cj rfl (Cb (Ad ((decide (kd = 5))) (fun h285 => ?_) fun h285 => ?_))))))))
  refine B4 h285 (Am (o' := 5) rfl (B4 h285 (Bg (c := si y.fSt) s203 (.here) rfl (B4 h285 (Mg (It h285 (Ad ((decide (y.fSt = 1))) (fun h286 => ?_) fun h286 => ?_)))))))
  refine Cj (nF h286) (Hq (by omega) (by omega) ?_)
  have e287 : Dx kd d x0 pre (y :: t) = Dx kd d x0 (pre ++ [y]) t := by
   clear s0 s202 s203
   try simp only [bne_iff_ne, beq_iff_eq, beq_eq_false_iff_ne, J4] at h13 h204 h205 h257 h285 h286
   rw [Dx]; (repeat' split) <;> first | rfl | (exfalso; omega)
  rw [e287]
  exact Ga n hn x0 kd d b0 h13  t (pre ++ [y]) m _ i10 i5 i3 i1 x8 x7 _ (by rw [he]; simp) (by rw [hi]; simp) (by simpa using hm) lx8 lx7 (by simpa only [zaA, za0, zb0] using (s203.sel (.cons A8 (.cons A8 (.cons A8 (.cons A8 (.cons A8 (.cons A8 .nil))))))))
  refine Dd (nT h286) (Am (o' := 1) rfl (Bg (c := x7) s203 A8 rfl ?_))
  have he288 : (x0.fFl)[(i).toNat]? = some y := by rw [he, hi]; simp
  refine Kh (y := y) (y' := ({ y with fSt := 3 } : Ah)) (k := 5) (v := (.int .i64 y.fSt)) s203 ⟨_, _, rfl, rfl, rfl, rfl⟩ C1 (by omega) he288 Bf (by omega) rfl rfl rfl fun H s289 => Af s289 Co rfl ?_
  have c290 := Oz (n + 8) (by omega) d
  refine G3 s289 rfl (Mv .nil) (c290) ⟨_, rfl, rfl⟩ (Hr _) ?_
  rintro _ _ H ⟨x291, x292, x293, x294, x295, x296, lx291, lx292, lx293, lx294, lx295, lx296, rfl, rfl⟩ s297
  simp only [zah, zau] at s297
  refine Bt (cs' := [si x0.fLast, x7, x8]) s297 K7 (Ac (Ab rfl (Ab lx7 (Ab lx8 rfl)))) rfl (Bd rfl) rfl fun H s298 => Bt (cs' := [si ((Ci d).fType), .sc (.bool (Ci d).fDup), si ((Ci d).fQos), .sc (.bool (Ci d).fRetain), si ((Ci d).fId), ss ((Ci d).fTopic), x291, ss ((Ci d).fClient), si ((Ci d).fLevel), .sc (.bool (Ci d).fClean), si ((Ci d).fKeep), .sc (.bool (Ci d).fHasWill), ss ((Ci d).fWTopic), x292, si ((Ci d).fWQos), .sc (.bool (Ci d).fWRetain), .sc (.bool (Ci d).fHasUser), ss ((Ci d).fUser), .sc (.bool (Ci d).fHasPass), x293, si ((Ci d).fCode), .sc (.bool (Ci d).fPresent), x294, x295, x296]) s298 K7 (Ac (Ab rfl (Ab rfl (Ab rfl (Ab rfl (Ab rfl (Ab rfl (Ab lx291 (Ab rfl (Ab rfl (Ab rfl (Ab rfl (Ab rfl (Ab rfl (Ab lx292 (Ab rfl (Ab rfl (Ab rfl (Ab rfl (Ab rfl (Ab lx293 (Ab rfl (Ab rfl (Ab lx294 (Ab lx295 (Ab lx296 rfl)))))))))))))))))))))))))) rfl (Bd rfl) rfl fun H s299 => Af s299 A8 rfl (Af s299 (.here) rfl ?_)
  refine Ee (Eh s299 rfl (.agg ⟨_, rfl, rfl⟩ (.sc (.own zP8 (.own Xx .nil))) (.agg ⟨_, rfl, rfl⟩ (Ki (.own Qs (Ki (.own Tl (W0 (.own Jg (.sc (.sc (.own Fq (.own C1 (.own Co .nil))))))))))) (.sc .nil))) ⟨(G4 ⟨_, rfl, rfl⟩ ⟨trivial, ⟨(Ay (Cu (x0.fFl.set (i).toNat ({ y with fSt := 3 } : Ah))) (by decide)), ⟨(Ay (Eg x0.fQ) (by decide)), trivial⟩⟩⟩), ⟨(G4 ⟨_, rfl, rfl⟩ (Kp ⟨(Ay (Jd ((Ci d).fBody)) (by decide)), (Kp ⟨(Ay (Jd ((Ci d).fWBody)) (by decide)), (Vz ⟨(Ay (Jd ((Ci d).fPass)) (by decide)), (Tk ⟨(Ay (Lq ((Ci d).fWants)) (by decide)), ⟨(Ay (Zo ((Ci d).fNames)) (by decide)), ⟨(Ay (Kj ((Ci d).fCodes)) (by decide)), trivial⟩⟩⟩)⟩)⟩)⟩)), ⟨trivial, trivial⟩⟩⟩) ?_
  have e : Dx kd d x0 pre (y :: t) = ((⟨x0.fLast, (x0.fFl.set (i).toNat ({ y with fSt := 3 } : Ah)), x0.fQ⟩ : Bs), (Ci d), true) := by
   clear s0 s202 s203 s289 s297 s298 s299
   try simp only [J4] at h13 h204 h205 h257 h285 h286
   try rw [show x0.fFl.take i.toNat ++ x0.fFl.drop (i.toNat + 1) = pre ++ t from by rw [he, hi]; simp]
   try rw [show x0.fFl.set (i).toNat ({ y with fSt := 3 } : Ah) = pre ++ ({ y with fSt := 3 } : Ah) :: t from by rw [he, hi]; simp]
   rw [Dx]
   (repeat' split) <;> first | rfl | (exfalso; omega)
  ·rw [e]
   first | done | rfl
  refine D9 h285 (D9 h285 (D9 h285 (Is h285 (Cj rfl (Hq (by omega) (by omega) ?_)))))
  have e300 : Dx kd d x0 pre (y :: t) = Dx kd d x0 (pre ++ [y]) t := by
   clear s0 s202 s203
   try simp only [bne_iff_ne, beq_iff_eq, beq_eq_false_iff_ne, J4] at h13 h204 h205 h257 h285
   rw [Dx]; (repeat' split) <;> first | rfl | (exfalso; omega)
  rw [e300]
  exact Ga n hn x0 kd d b0 h13  t (pre ++ [y]) m _ i10 i5 i3 i1 x8 x7 _ (by rw [he]; simp) (by rw [hi]; simp) (by simpa using hm) lx8 lx7 (by simpa only [zaA, za0, zb0] using (s203.sel (.cons A8 (.cons A8 (.cons A8 (.cons A8 (.cons A8 (.cons A8 .nil))))))))
  refine Dd (nT h204) (Hq (by omega) (by omega) ?_)
  have e301 : Dx kd d x0 pre (y :: t) = Dx kd d x0 (pre ++ [y]) t := by
   clear s0 s202 s203
   try simp only [bne_iff_ne, beq_iff_eq, beq_eq_false_iff_ne, J4] at h13 h204
   rw [Dx]; (repeat' split) <;> first | rfl | (exfalso; omega)
  rw [e301]
  exact Ga n hn x0 kd d b0 h13  t (pre ++ [y]) m _ i10 i5 i3 i1 x8 x7 _ (by rw [he]; simp) (by rw [hi]; simp) (by simpa using hm) lx8 lx7 (by simpa only [zaA, za0, zb0] using (s203.sel (.cons A8 (.cons A8 (.cons A8 (.cons A8 (.cons A8 (.cons A8 .nil))))))))
theorem AeI (n : Nat) (hn : 1048576 < n) (x0 : Bs) (kd : Int) (d : Int) (b0 : D6 x0 ≤ 1048576) : Cy E0 (n + 13) 45 16 [.agg (A5 x0), .sc (.int .i64 kd), .sc (.int .i64 d)] = some (.tup [.agg (A5 (F7 x0 kd d).1), .agg (C4 (F7 x0 kd d).2.1), .sc (.bool (F7 x0 kd d).2.2)]) := by
 rw [Az, AhB, f16]
 refine Iq (G := (· = some (.tup [.agg (A5 (F7 x0 kd d).1), .agg (C4 (F7 x0 kd d).2.1), .sc (.bool (F7 x0 kd d).2.2)]))) ?_
 have hfl := Ve x0 b0
 try simp only [X1, Xz]
 have s0 : Sep [] [] := Io
 refine Nd s0 (Gq (Gs _)) fun i1 H s2 => Dz s2 fun i3 H s4 => Dz s4 fun i5 H s6 => Af s6 Co rfl (G3 s6 rfl (.aggF (Gs _) .nil) (Oi (n + 8) (by omega) x0 (AkO x0 b0)) ⟨_, rfl, rfl⟩ (Mi _) ?_)
 rintro _ _ H ⟨x7, x8, lx7, lx8, rfl, rfl⟩ s9
 simp only [zah, zau] at s9
 refine Dz s9 fun i10 H s11 => Bt (cs' := [si x0.fLast, x7, x8]) s11 (.here) (Ac (Ab rfl (Ab lx7 (Ab lx8 rfl)))) rfl (Bd rfl) rfl fun H s12 => Af s12 Jg rfl (Fm (v := (.bool (F5 x0))) s12 rfl (.aggF (Gs _) .nil) (Oy (n + 2) (by omega) _ x0 b0) (L4 (Ad ((F5 x0)) (fun h13 => ?_) fun h13 => ?_)))
 refine Cj (nF h13) ?_
 have hv : F7 x0 kd d = Dx kd d x0 [] x0.fFl := by unfold F7; rw [if_pos h13]
 rw [hv]
 exact Ga n hn x0 kd d b0 h13  x0.fFl [] _ 0 i10 i5 i3 i1 x8 x7 _ rfl rfl (by omega) lx8 lx7 s12
 refine Dd (nT h13) (Af s12 (.here) rfl (Bp (cs := Q1) rfl (Bt (cs' := [si x0.fLast, x7, x8]) s12 Fq (Ac (Ab rfl (Ab lx7 (Ab lx8 rfl)))) rfl (Bd rfl) rfl fun H s14 => Bt (cs' := Q1) s14 Fq (Ac rfl) rfl (Bd rfl) rfl fun H s15 => Af s15 A8 rfl (Af s15 (.here) rfl (Ee (Eh s15 rfl (.agg ⟨_, rfl, rfl⟩ (.sc (.own Fq (.own C1 .nil))) (.agg ⟨_, rfl, rfl⟩ (Ki (.nl (Ki (.nl (W0 (.nl (.sc (.sc (.nl (.nl (.nl .nil))))))))))) (.sc .nil))) ⟨(G4 ⟨_, rfl, rfl⟩ ⟨trivial, ⟨(Ay (Cu x0.fFl) (by decide)), ⟨(Ay (Eg x0.fQ) (by decide)), trivial⟩⟩⟩), ⟨(G4 ⟨_, rfl, rfl⟩ (Kp ⟨H5, (Kp ⟨H5, (Vz ⟨H5, (Tk ⟨H5, ⟨H5, ⟨H5, trivial⟩⟩⟩)⟩)⟩)⟩)), ⟨trivial, trivial⟩⟩⟩) ?_)))))
 have e : F7 x0 kd d = ((⟨x0.fLast, x0.fFl, x0.fQ⟩ : Bs), Qv, false) := by
  try simp only [J4] at h13
  unfold F7; simp only [h13, if_true, if_false, zan]
 ·rw [e]
  first | done | rfl
end
section
open Go
def Gf (q : List Br) (m : Br) : List Br := if (Ed q && Dk m) = true ∧ q.length < 6 then q ++ [m] else q
def Du (q : List Br) (m : Br) : Int := if (Ed q && Dk m) = true then (if q.length < 6 then 0 else if m.fQos == 0 then 1 else 2) else 2
theorem AaF {ty : Nat} {H : Aa} {ts : List Nat} {raw cells : List AV} {ids : List Nat} (hts : E0.tp ty = some ts) (h : Cc (Bx An E0.tp H 7) ts raw = some (cells, ids)) (hn : ids.Nodup) : A0 An E0.tp ty H (.tup raw) = some (.tup cells) := by
 rw [A0, F4, hts, zab, h, zab, zab, if_pos hn]
theorem Up {α : Type} {H : Aa} {w tyS : Nat} {cty : List Nat} {enc : α → List AV} (hw : ∀ x, (enc x).length = w) (hty : ∃ i j, An tyS = some i ∧ An i.elem = some j ∧ j.size = w ∧ j.cty = cty) (hc : cty.length = w) (hok : ∀ x, El (Gp An E0.tp 6) cty (enc x)) (l : List α) :
  OwnS 6 (H ++ (Bh An E0.tp H.length tyS (Aj enc l)).2) w cty (Bh An E0.tp H.length tyS (Aj enc l)).1 l.length (l.map enc).flatten := by
 obtain ⟨i, j, h1, h2, rfl, rfl⟩ := hty
 have hi : Bh An E0.tp H.length tyS (Aj enc l) = (.sl H.length 0 l.length j.size, ⟨(Bu An E0.tp (H.length + 1) (zad l.length j.cty).flatten (l.map enc).flatten).1, true, true⟩ :: (Bu An E0.tp (H.length + 1) (zad l.length j.cty).flatten (l.map enc).flatten).2) := by
  show Bh An E0.tp H.length tyS (.ro l.length (l.map enc).flatten) = _
  simp only [Bh, h1, zab, h2, za5]
 rw [hi]
 simp only
 generalize hQ : Bu An E0.tp (H.length + 1) (zad l.length j.cty).flatten (l.map enc).flatten = Q
 have lQ : Lies (H ++ ⟨Q.1, true, true⟩ :: Q.2) (H.length + 1) Q.2 := by
  have := Jk (H ++ [⟨Q.1, true, true⟩]) Q.2
  rw [zae, zal, zaj] at this
  exact this
 have ho : OwnC 6 (H ++ ⟨Q.1, true, true⟩ :: Q.2) (zad l.length j.cty).flatten Q.1 (l.map enc).flatten (zaW (H.length + 1) Q.2.length) := by
  have := Ig (H := H ++ ⟨Q.1, true, true⟩ :: Q.2) (fun ty t N h h' _ => Fu 6 ty t N h h') (zad l.length j.cty).flatten (l.map enc).flatten (H.length + 1) (M3 l fun x _ => hok x) (by rw [hQ]; exact lQ) (E3 _ _ _)
  rw [hQ] at this
  exact this
 refine .inr ⟨H.length, Q.1, _, rfl, Iy _ _ _, by rw [← hQ, Jh, Fj hw], ho, ?_⟩
 rw [zaH]
 refine ⟨fun hm => ?_, zaP⟩
 rw [zaK] at hm
 omega
theorem Ts {H : Aa} {tyT : Nat} {k : Nat} {x : AV} {cells : List AV} {c : Int} (hts : E0.tp tyT = some [25, 3]) (h : OwnS 6 H 4 G6 x k cells) : A0 An E0.tp tyT H (.tup [x, .sc (.int .i64 c)]) = some (.tup [.ro k cells, .sc (.int .i64 c)]) := by
 obtain ⟨ids, ho, hno⟩ := Q6 (d := 6) (tyS := 25) Ju h
 refine AaF hts (ids := ids) ?_ hno
 simp only [Cc, ho, Hf, zab, zam]
theorem Zx (n : Nat) (hn : 1048576 < n) (x0 : List Br) (x1 : Br) (k0 : x0.length ≤ 9223372036854775807 ∧ ∀ z ∈ x0, Ce z) (k1 : Ce x1) (b0 : Fp Bc x0 ≤ 1048576) (b1 : Bc x1 ≤ 1048576) : Cy E0 (n + 8) 90 68 [Aj Ag x0, .agg (Ag x1)] = some (.tup [Aj Ag (Gf x0 x1), .sc (.int .i64 (Du x0 x1))]) := by
 obtain ⟨hlen, htop⟩ := Pu x0 b0
 have hsm := (Acc Qo Nt x0 b0).2
 have hs : ∀ x ∈ x0, x.fBody.size ≤ 1048576 := fun x hx => (hsm x hx).1
 have hm : x1.fBody.size ≤ 1048576 := (Nt x1 b1).1
 have ht : x1.fTopic.size ≤ 1048576 := by unfold Bc at b1; omega
 rw [Az, Aii, f68]
 simp only [Ct, Ea, Bi, Pr.gT, Pr.gF, Pr.hT, Pr.hF, Pr.kT, Pr.kF, A2, Bz, At, Bm, A4, Bk, Be, Ba, Cg]
 refine Jv (Ej _) fun i e hi => ?_
 rw [E8 (vs := [Aj Ag x0]) rfl (A6 (Ff _ _ _) Dl) (Og (n + 4) (by omega) x0 hlen hs)]
 have hO := Up (H := [] ++ [⟨Ag x1, true, true⟩]) Dw Ju rfl (Hm 4) x0
 replace hi := Ir hi (Bh An E0.tp ([] ++ [⟨Ag x1, true, true⟩] : Aa).length 25 (Aj Ag x0)).2
 generalize (Bh An E0.tp ([] ++ [⟨Ag x1, true, true⟩] : Aa).length 25 (Aj Ag x0)).1 = y at hO ⊢
 generalize ([] ++ [⟨Ag x1, true, true⟩] ++ (Bh An E0.tp ([] ++ [⟨Ag x1, true, true⟩] : Aa).length 25 (Aj Ag x0)).2 : Aa) = G at hO hi ⊢
 refine De rfl (A6 (Ff _ _ _) Dl) (S8 n hn _ x0 hlen htop) (Gg ?_)
 cases hq : Ed x0
 refine C5 rfl (C5 rfl (C5 rfl (P2 rfl (Ey rfl ?_))))
 have e1 : Gf x0 x1 = x0 := by simp [Gf, hq]
 have e2 : Du x0 x1 = 2 := by simp [Du, hq]
 rw [e1, e2]
 exact Ts rfl hO
 refine Cz rfl (Ok hi (Dw _) (Cz rfl (De rfl (A6 (E1 _ (Ej _)) Dl) (S5 (n + 1) (by omega) _ x1 ht) (Cz rfl (Gg (Q0 rfl ?_))))))
 cases hmk : Dk x1
 refine Ey rfl ?_
 have e1 : Gf x0 x1 = x0 := by simp [Gf, hq, hmk]
 have e2 : Du x0 x1 = 2 := by simp [Du, hq, hmk]
 rw [e1, e2]
 exact Ts rfl hO
 refine E7 rfl (Dh (Av (v := sb ((x0.length : Int) == 6)) (fun k => rfl) ?_))
 have hl6 : x0.length ≤ 6 := by
  unfold Ed at hq
  simp at hq
  omega
 by_cases h6 : x0.length = 6
 refine Ey (by simp [h6]) (Ai (Bo (c := .sc (.int .i64 x1.fQos)) hi (Bd rfl) rfl (Av (v := .sc (.bool (x1.fQos == 0))) (fun k => rfl) ?_)))
 have e1 : Gf x0 x1 = x0 := by simp [Gf, h6]
 rw [e1]
 cases hz : (x1.fQos == 0)
 refine E7 rfl ?_
 have e2 : Du x0 x1 = 2 := by simp [Du, h6, hq, hmk, hz]
 rw [e2]
 exact Ts rfl hO
 refine Ey rfl ?_
 have e2 : Du x0 x1 = 1 := by simp [Du, h6, hq, hmk, hz]
 rw [e2]
 exact Ts rfl hO
 refine E7 (by simp; omega) (Ok hi (Dw _) ?_)
 have e1 : Gf x0 x1 = x0 ++ [x1] := by simp [Gf, hq, hmk]; omega
 have e2 : Du x0 x1 = 0 := by simp [Du, hq, hmk]; omega
 rw [e1, e2]
 have hst := fun K h => Mx (β := AV) (n := n + 7) (X0 := []) (bytes := 56) (z := G5) (K := K) (r := some (.tup [Aj Ag (x0 ++ [x1]), i0])) hO rfl (A6 (E1 _ (Ej x1)) Dl) (Q5 (n + 6) x1 hm) Ni (Hm 4 x1) (Ej x1) (Dw x1) rfl (by omega) h
 simp only [zam] at hst
 refine hst _ fun x' H' hx' => ?_
 have := Ts (tyT := 90) (c := 0) rfl hx'
 rw [show Aj Ag (x0 ++ [x1]) = .ro (x0.length + 1) ((x0.map Ag).flatten ++ Ag x1) by
  show AV.ro _ _ = _
  simp]
 exact this
theorem Zd (n : Nat) (hn : 1048576 < n) (x0 : List Br) (x1 : Br) (k0 : x0.length ≤ 9223372036854775807 ∧ ∀ z ∈ x0, Ce z) (k1 : Ce x1) (b0 : Fp Bc x0 ≤ 1048576) (b1 : Bc x1 ≤ 1048576) : Cy E0 (n + 9) 90 67 [Aj Ag x0, .agg (Ag x1)] = some (.tup [Aj Ag (Gf x0 x1), .sc (.int .i64 (Du x0 x1))]) := by
 obtain ⟨hlen, htop⟩ := Pu x0 b0
 have hsm := (Acc Qo Nt x0 b0).2
 have hs : ∀ x ∈ x0, x.fBody.size ≤ 1048576 := fun x hx => (hsm x hx).1
 have hm : x1.fBody.size ≤ 1048576 := (Nt x1 b1).1
 have ht : x1.fTopic.size ≤ 1048576 := by unfold Bc at b1; omega
 rw [Az, Aih, f67]
 simp only [Ct, Ea, Bi, Pr.gT, Pr.gF, Pr.hT, Pr.hF, Pr.kT, Pr.kF, A2, Bz, At, Bm, A4, Bk, Be, Ba, Cg]
 refine Jv (Ej _) fun i e hi => ?_
 rw [E8 (vs := [Aj Ag x0]) rfl (A6 (Ff _ _ _) Dl) (Pa (n + 5) (by omega) x0 hlen hs)]
 have hO := Up (H := [] ++ [⟨Ag x1, true, true⟩]) Dw Ju rfl (Hm 4) x0
 replace hi := Ir hi (Bh An E0.tp ([] ++ [⟨Ag x1, true, true⟩] : Aa).length 25 (Aj Ag x0)).2
 generalize (Bh An E0.tp ([] ++ [⟨Ag x1, true, true⟩] : Aa).length 25 (Aj Ag x0)).1 = y at hO ⊢
 generalize ([] ++ [⟨Ag x1, true, true⟩] ++ (Bh An E0.tp ([] ++ [⟨Ag x1, true, true⟩] : Aa).length 25 (Aj Ag x0)).2 : Aa) = G at hO hi ⊢
 refine De rfl (A6 (Ff _ _ _) Dl) (R2 n hn _ x0 hlen htop) (Gg ?_)
 cases hq : Ed x0
 refine C5 rfl (C5 rfl (C5 rfl (P2 rfl (Ey rfl ?_))))
 have e1 : Gf x0 x1 = x0 := by simp [Gf, hq]
 have e2 : Du x0 x1 = 2 := by simp [Du, hq]
 rw [e1, e2]
 exact Ts rfl hO
 refine Cz rfl (Ok hi (Dw _) (Cz rfl (De rfl (A6 (E1 _ (Ej _)) Dl) (Rz (n + 2) (by omega) _ x1 ht) (Cz rfl (Gg (Q0 rfl ?_))))))
 cases hmk : Dk x1
 refine Ey rfl ?_
 have e1 : Gf x0 x1 = x0 := by simp [Gf, hq, hmk]
 have e2 : Du x0 x1 = 2 := by simp [Du, hq, hmk]
 rw [e1, e2]
 exact Ts rfl hO
 refine E7 rfl (Dh (Av (v := sb (decide ((x0.length : Int) < 6))) (fun k => rfl) ?_))
 by_cases h6 : x0.length < 6
 refine Ey (by simp; omega) (Ok hi (Dw _) ?_)
 have e1 : Gf x0 x1 = x0 ++ [x1] := by simp [Gf, hq, hmk, h6]
 have e2 : Du x0 x1 = 0 := by simp [Du, hq, hmk, h6]
 rw [e1, e2]
 have hst := fun K h => Mx (β := AV) (n := n + 8) (X0 := []) (bytes := 56) (z := G5) (K := K) (r := some (.tup [Aj Ag (x0 ++ [x1]), i0])) hO rfl (A6 (E1 _ (Ej x1)) Dl) (Rg (n + 6) (by omega) x1 hm) Ni (Hm 4 x1) (Ej x1) (Dw x1) rfl (by omega) h
 simp only [zam] at hst
 refine hst _ fun x' H' hx' => ?_
 have := Ts (tyT := 90) (c := 0) rfl hx'
 rw [show Aj Ag (x0 ++ [x1]) = .ro (x0.length + 1) ((x0.map Ag).flatten ++ Ag x1) by
  show AV.ro _ _ = _
  simp]
 exact this
 refine E7 (by simp; omega) (Ai (Bo (c := .sc (.int .i64 x1.fQos)) hi (Bd rfl) rfl (Av (v := .sc (.bool (x1.fQos == 0))) (fun k => rfl) ?_)))
 have e1 : Gf x0 x1 = x0 := by simp [Gf, h6]
 rw [e1]
 cases hz : (x1.fQos == 0)
 refine E7 rfl ?_
 have e2 : Du x0 x1 = 2 := by simp [Du, h6, hq, hmk, hz]
 rw [e2]
 exact Ts rfl hO
 refine Ey rfl ?_
 have e2 : Du x0 x1 = 1 := by simp [Du, h6, hq, hmk, hz]
 rw [e2]
 exact Ts rfl hO
end
section
open Go
theorem Zg {y : AV} (hl : Al y = true) : Cq y = some [y] := by
 cases y <;> first | (simp [Al] at hl; done) | (simp only [Cq, hl, if_true]) | rfl
theorem Acy {v : Value} {x z : AV} (hv : Al (.sc v) = true) (hx : Al x = true) (hz : Al z = true) : Cq (.agg [.sc v, x, z]) = some [.sc v, x, z] := by
 show (if (Al (.sc v) && (Al x && (Al z && true))) = true then _ else none) = _
 rw [hv, hx, hz]
 rfl
theorem Aa7 {H : Aa} {i6 : Nat} {o : Bs} {q' : List Br} {x z : AV} {ids1 ids2 : List Nat} {c : Int} (h6 : H[i6]? = some ⟨[.sc (.int .i64 o.fLast), x, z], true, true⟩) (h2 : H[2]? = some ⟨Cs, true, true⟩) (lx : Al x = true) (lz : Al z = true)
  (ox : Bx An E0.tp H 6 24 x = some (Aj Aq o.fFl, ids1)) (oz : Bx An E0.tp H 6 25 z = some (Aj Ag q', ids2)) (hn : (ids1 ++ ids2).Nodup) (n1 : 2 ∉ ids1) (n2 : 2 ∉ ids2) :
  (Cx true 3 (.ptr i6 0) H fun t => D5 3 (.ptr 2 0) t H fun H => Cx true 3 (.ptr 2 0) H fun r0 => A0 An E0.tp 49 H (C3 [r0, si c])) = some (.tup [.agg (A5 { o with fQ := q' }), si c]) := by
 have l2 : 2 < H.length := (zac.1 h2).1
 refine F6 (ds := [si o.fLast, x, z]) h6 (Bd rfl) rfl ?_
 rw [Fv 3 2 0 _ ⟨Cs, true, true⟩ [.sc (.int .i64 o.fLast), x, z] H _ h2 (Acy rfl lx lz) rfl (Bd rfl) rfl]
 refine F6 (ds := [.sc (.int .i64 o.fLast), x, z]) (cs := [.sc (.int .i64 o.fLast), x, z]) (by rw [zaY l2]; rfl) (Bd rfl) rfl ?_
 generalize hb : (⟨Cd Cs 0 [si o.fLast, x, z], true, true⟩ : Gm) = b
 have e1 := Di (H' := H.set 2 b) 6 _ _ _ ox fun i hi => by rw [za4 (fun (e : 2 = i) => n1 (e ▸ hi))]
 have e2 := Di (H' := H.set 2 b) 6 _ _ _ oz fun i hi => by rw [za4 (fun (e : 2 = i) => n2 (e ▸ hi))]
 obtain ⟨i, hi, hcy⟩ := Xv
 have e3 : Bx An E0.tp (H.set 2 b) 7 27 (.agg [si o.fLast, x, z]) = some (.agg (A5 { o with fQ := q' }), ids1 ++ ids2) := by
  rw [Ek, hi, zab, hcy]
  simp only [Gj, Cc, Hf, e1, e2, zab, zah, zam]
  rfl
 have e4 : Cc (Bx An E0.tp (H.set 2 b) 7) [27, 3] [.agg [si o.fLast, x, z], si c] = some ([.agg (A5 { o with fQ := q' }), si c], ids1 ++ ids2) := by
  simp only [Cc, e3, Hf, zab, zam]
 exact AaF rfl e4 hn
theorem Aep (N : Nat) (o : Bs) : Bu An E0.tp N Gj (A5 o) = ([.sc (.int .i64 o.fLast), (Bh An E0.tp N 24 (Aj Aq o.fFl)).1, (Bh An E0.tp (N + (Bh An E0.tp N 24 (Aj Aq o.fFl)).2.length) 25 (Aj Ag o.fQ)).1], (Bh An E0.tp N 24 (Aj Aq o.fFl)).2 ++ (Bh An E0.tp (N + (Bh An E0.tp N 24 (Aj Aq o.fFl)).2.length) 25 (Aj Ag o.fQ)).2) := by
 show Bu An E0.tp N [3, 24, 25] [.sc (.int .i64 o.fLast), Aj Aq o.fFl, Aj Ag o.fQ] = _
 simp only [Bu, zb9, zbC, G9, zar, zaZ, zah, zam]
theorem AbR (N : Nat) (q : List Br) (c : Int) : Bh An E0.tp N 90 (.tup [Aj Ag q, .sc (.int .i64 c)]) = (.tup [(Bh An E0.tp N 25 (Aj Ag q)).1, .sc (.int .i64 c)], (Bh An E0.tp N 25 (Aj Ag q)).2) := by
 rw [Pi, show E0.tp 90 = some [25, 3] from rfl, za5]
 simp only [Bu, zb9, zbC, G9, zam]
theorem K0 {α : Type} (N ty : Nat) (enc : α → List AV) (l : List α) : Al (Bh An E0.tp N ty (Aj enc l)).1 = true := rfl
theorem Agz {n gC : Nat} {o : Bs} {m : Br} {K : AV → AV → AV → AV → Aa → Option AV} {r : Option AV} (hC : Fy gC = false) (tC : Cy E0 n 27 gC [.agg (A5 o)] = some (.agg (A5 o)))
  (h : ∀ (X Q : AV × List Gm), Bh An E0.tp 3 24 (Aj Aq o.fFl) = X → Bh An E0.tp (3 + X.2.length) 25 (Aj Ag o.fQ) = Q → K (.ptr 0 0) (.ptr 1 0) (.ptr 2 0) (.ptr (3 + (X.2.length + Q.2.length)) 0) ([⟨A5 o, true, true⟩, ⟨Ag m, true, true⟩, ⟨Cs, true, true⟩] ++ (X.2 ++ Q.2) ++ [⟨[si o.fLast, X.1, Q.1], true, true⟩]) = r) :
  (Or (.agg (A5 o)) [] fun t2 H => Or (.agg (Ag m)) H fun t3 H => Iw [i0, .nl, .nl] H fun t4 H => Cx true 3 t2 H fun t9 => (PR n AV).call 27 (.fn gC [] []) [t9] H fun t10 H => Iw [i0, .nl, .nl] H fun t6 H => D5 3 t6 t10 H fun H => K t2 t3 t4 t6 H) = r := by
 rw [Lc _ _ _ (Gs o), Lc _ _ _ (Ej m)]
 simp only [Iw, zar, zah, zao, zaw, zae, zau]
 refine F6 (ds := A5 o) (cs := A5 o) rfl (Bd rfl) rfl ?_
 rw [E8 hC (A6 (E1 _ (Gs _)) Dl) tC]
 obtain ⟨i, hi, hc⟩ := Xv
 rw [Gi, hi, za5, hc, Aep]
 have hlX := K0 3 24 Aq o.fFl
 generalize hX : Bh An E0.tp 3 24 (Aj Aq o.fFl) = X at hlX
 have hlQ := K0 (3 + X.2.length) 25 Ag o.fQ
 generalize hQ : Bh An E0.tp (3 + X.2.length) 25 (Aj Ag o.fQ) = Q at hlQ
 have hX' : Bh An E0.tp ([⟨A5 o, true, true⟩, ⟨Ag m, true, true⟩, ⟨[i0, .nl, .nl], true, true⟩] : Aa).length 24 (Aj Aq o.fFl) = X := hX
 have hQ' : Bh An E0.tp (([⟨A5 o, true, true⟩, ⟨Ag m, true, true⟩, ⟨[i0, .nl, .nl], true, true⟩] : Aa).length + X.2.length) 25 (Aj Ag o.fQ) = Q := hQ
 have hh := h X Q hX hQ
 simp only [hX', hQ']
 generalize hb0 : (⟨A5 o, true, true⟩ : Gm) = b0 at hh ⊢
 generalize hb1 : (⟨Ag m, true, true⟩ : Gm) = b1 at hh ⊢
 have hN : ([b0, b1, ⟨Cs, true, true⟩] ++ (X.2 ++ Q.2) : Aa).length = 3 + (X.2.length + Q.2.length) := by simp; omega
 have hg : ([b0, b1, ⟨Cs, true, true⟩] ++ (X.2 ++ Q.2) ++ [⟨Cs, true, true⟩] : Aa)[3 + (X.2.length + Q.2.length)]? = some ⟨Cs, true, true⟩ := by
  rw [← hN]
  exact Iy _ _ []
 have hs : ([b0, b1, ⟨Cs, true, true⟩] ++ (X.2 ++ Q.2) ++ [⟨Cs, true, true⟩] : Aa).set (3 + (X.2.length + Q.2.length)) ⟨Cd Cs 0 [si o.fLast, X.1, Q.1], true, true⟩ = [b0, b1, ⟨Cs, true, true⟩] ++ (X.2 ++ Q.2) ++ [⟨[si o.fLast, X.1, Q.1], true, true⟩] := by
  rw [← hN]
  exact Zv _ _ _ []
 have hst := Fv (β := AV) 3 (3 + (X.2.length + Q.2.length)) 0 (.agg [si o.fLast, X.1, Q.1]) ⟨Cs, true, true⟩ [si o.fLast, X.1, Q.1] ([b0, b1, ⟨Cs, true, true⟩] ++ (X.2 ++ Q.2) ++ [⟨Cs, true, true⟩]) (fun H => K (.ptr 0 0) (.ptr 1 0) (.ptr 2 0) (.ptr (3 + (X.2.length + Q.2.length)) 0) H) hg (Acy rfl hlX hlQ) rfl (Bd rfl) rfl
 rw [hs] at hst
 have e : D5 3 (.ptr ([b0, b1, ⟨Cs, true, true⟩] ++ (X.2 ++ Q.2) : Aa).length 0) (.agg [si o.fLast, X.1, Q.1]) ([b0, b1, ⟨Cs, true, true⟩] ++ (X.2 ++ Q.2) ++ [⟨Cs, true, true⟩]) (fun H => K (.ptr 0 0) (.ptr 1 0) (.ptr 2 0) (.ptr ([b0, b1, ⟨Cs, true, true⟩] ++ (X.2 ++ Q.2) : Aa).length 0) H) = r := by
  rw [hN]
  exact hst.trans hh
 exact e
theorem Qj {n gC gO gP : Nat} {o : Bs} {m : Br} {q' : List Br} {c : Int} {ok : Bool} (hC : Fy gC = false) (hO : Fy gO = false) (hP : Fy gP = false) (tC : Cy E0 n 27 gC [.agg (A5 o)] = some (.agg (A5 o)))
  (tO : Cy E0 n 4 gO [.agg (A5 o)] = some (sb ok)) (tP : Cy E0 n 90 gP [Aj Ag o.fQ, .agg (Ag m)] = some (.tup [Aj Ag q', si c])) :
  (Or (.agg (A5 o)) [] fun t2 H => Or (.agg (Ag m)) H fun t3 H => Iw [i0, .nl, .nl] H fun t4 H => Cx true 3 t2 H fun t9 => (PR n AV).call 27 (.fn gC [] []) [t9] H fun t10 H => Iw [i0, .nl, .nl] H fun t6 H => D5 3 t6 t10 H fun H => Cx true 3 t2 H fun t11 => (PR n AV).call 4 (.fn gO [] []) [t11] H fun t12 H => pUn .not t12 fun t13 => Gz t13
   (Cx true 3 t6 H fun t14 => D5 3 t4 t14 H fun H => Cx true 3 t4 H fun r0 => A0 An E0.tp 49 H (C3 [r0, si 2]))
   (Ef 2 t2 fun t16 => Cx false 1 t16 H fun t17 => Cx true 4 t3 H fun t18 => (PR n AV).call 90 (.fn gP [] []) [t17, t18] H fun t19 H => Ot t19 0 fun t20 => Ot t19 1 fun t21 => Ef 2 t6 fun t23 => D5 1 t23 t20 H fun H => Cx true 3 t6 H fun t24 => D5 3 t4 t24 H fun H => Cx true 3 t4 H fun r0 => A0 An E0.tp 49 H (C3 [r0, t21]))) =
  some (.tup [.agg (A5 (if ok then { o with fQ := q' } else o)), si (if ok then c else 2)]) := by
 refine Agz hC tC fun X Q hX hQ => ?_
 have hlX : Al X.1 = true := by rw [← hX]; exact K0 _ _ _ _
 have hlQ : Al Q.1 = true := by rw [← hQ]; exact K0 _ _ _ _
 generalize hb0 : (⟨A5 o, true, true⟩ : Gm) = b0
 generalize hb1 : (⟨Ag m, true, true⟩ : Gm) = b1
 have hN : ([b0, b1, ⟨Cs, true, true⟩] ++ (X.2 ++ Q.2) : Aa).length = 3 + (X.2.length + Q.2.length) := by simp; omega
 have own1 : ∀ R : Aa, Bx An E0.tp ([b0, b1, ⟨Cs, true, true⟩] ++ (X.2 ++ Q.2) ++ R) 6 24 X.1 = some (Aj Aq o.fFl, zaW 3 X.2.length) := by
  intro R
  rw [← hX]
  refine Fu 6 _ _ 3 (Gy (d := 5) Bf P1 (M4 3) o.fFl) ?_
  rw [hX]
  have := K9 [b0, b1, ⟨Cs, true, true⟩] X.2 (Q.2 ++ R)
  rw [zaj] at this
  rw [zaj, zaj]
  exact this
 have own2' : ∀ R : Aa, Bx An E0.tp ([b0, b1, ⟨Cs, true, true⟩] ++ (X.2 ++ Q.2) ++ R) 6 25 Q.1 = some (Aj Ag o.fQ, zaW (3 + X.2.length) Q.2.length) := by
  intro R
  rw [← hQ]
  refine Fu 6 _ _ (3 + X.2.length) (Gy (d := 5) Dw Ju (Hm 3) o.fQ) ?_
  rw [hQ]
  have := K9 ([b0, b1, ⟨Cs, true, true⟩] ++ X.2) Q.2 R
  rw [zae, zaj [b0, b1, ⟨Cs, true, true⟩] X.2 Q.2] at this
  exact this
 have g0 : ∀ R : Aa, ([b0, b1, ⟨Cs, true, true⟩] ++ (X.2 ++ Q.2) ++ R : Aa)[0]? = some ⟨A5 o, true, true⟩ := fun R => by rw [hb0]; rfl
 have g1 : ∀ R : Aa, ([b0, b1, ⟨Cs, true, true⟩] ++ (X.2 ++ Q.2) ++ R : Aa)[1]? = some ⟨Ag m, true, true⟩ := fun R => by rw [hb1]; rfl
 have g2 : ∀ R : Aa, ([b0, b1, ⟨Cs, true, true⟩] ++ (X.2 ++ Q.2) ++ R : Aa)[2]? = some ⟨Cs, true, true⟩ := fun R => rfl
 generalize hA : ([b0, b1, ⟨Cs, true, true⟩] ++ (X.2 ++ Q.2) : Aa) = A at hN own1 own2' g0 g1 g2 ⊢
 refine Ok (g0 _) (AiG _) (De hO (A6 (E1 _ (Gs _)) Dl) tO (Gg ?_))
 cases ok
 refine Ey rfl (Aa7 (q' := o.fQ) (by rw [← hN]; exact Iy A _ []) (g2 _) hlX hlQ (own1 _) (own2' _) ?_ ?_ ?_)
 have := List.range'_append (s := 3) (m := X.2.length) (n := Q.2.length) (step := 1)
 rw [zbv] at this
 rw [this]
 exact zaP
 rw [zaK]; omega
 rw [zaK]; omega
 refine E7 rfl (Ai (Bo (c := Aj Ag o.fQ) (g0 _) (Bd rfl) rfl (Ok (g1 _) (Dw _) ?_)))
 rw [E8 hP (A6 (Ff _ _ _) (A6 (E1 _ (Ej _)) Dl)) tP, AbR]
 have hlP := K0 (A ++ [⟨[si o.fLast, X.1, Q.1], true, true⟩] : Aa).length 25 Ag q'
 generalize hP : Bh An E0.tp (A ++ [⟨[si o.fLast, X.1, Q.1], true, true⟩] : Aa).length 25 (Aj Ag q') = P at hlP
 refine Jw (x := P.1) rfl (Jw (x := si c) rfl (Ai ?_))
 have hg : (A ++ [⟨[si o.fLast, X.1, Q.1], true, true⟩] ++ P.2 : Aa)[3 + (X.2.length + Q.2.length)]? = some ⟨[si o.fLast, X.1, Q.1], true, true⟩ := by
  rw [← hN, zaj]
  exact Iy A _ P.2
 rw [Fv 1 (3 + (X.2.length + Q.2.length)) (0 + 2) P.1 _ [P.1] _ _ hg (Zg hlP) rfl (Bd rfl) rfl]
 have hs : (A ++ [⟨[si o.fLast, X.1, Q.1], true, true⟩] ++ P.2 : Aa).set (3 + (X.2.length + Q.2.length)) ⟨Cd [si o.fLast, X.1, Q.1] (0 + 2) [P.1], true, true⟩ = A ++ (⟨[si o.fLast, X.1, P.1], true, true⟩ :: P.2) := by
  rw [← hN, zaj]
  exact Zv A _ _ P.2
 rw [hs]
 have oP : Bx An E0.tp (A ++ (⟨[si o.fLast, X.1, P.1], true, true⟩ :: P.2)) 6 25 P.1 = some (Aj Ag q', zaW (A.length + 1) P.2.length) := by
  have hP2 : Bh An E0.tp (A.length + 1) 25 (Aj Ag q') = P := by
   rw [← hP, zae, zal]
  rw [← hP2]
  refine Fu 6 _ _ (A.length + 1) (Gy (d := 5) Dw Ju (Hm 3) q') ?_
  rw [hP2]
  have := Jk (A ++ [⟨[si o.fLast, X.1, P.1], true, true⟩]) P.2
  rw [zae, zal, zaj] at this
  exact this
 refine Aa7 (q' := q') (by rw [← hN]; exact Iy A _ P.2) (g2 _) hlX hlP (own1 _) oP ?_ ?_ ?_
 rw [zaJ]
 refine ⟨zaP, zaP, fun a ha b hb => ?_⟩
 rw [zaK] at ha hb
 omega
 rw [zaK]; omega
 rw [zaK]; omega
def A1 (o : Bs) (m : Br) : Bs := if F5 o then { o with fQ := Gf o.fQ m } else o
def En (o : Bs) (m : Br) : Int := if F5 o then Du o.fQ m else 2
theorem Akq (o : Bs) (h : D6 o ≤ 1048576) : Ms o := by
 have h1 := Zw o h
 exact ⟨⟨h1.1.1, fun y hy => (h1.1.2 y hy).1⟩, ⟨h1.2.1.1, fun y hy => (h1.2.1.2 y hy).1⟩⟩
theorem Ko (n : Nat) (hn : 1048576 < n) (x0 : Bs) (x1 : Br) (k0 : Qi x0) (k1 : Ce x1) (b0 : D6 x0 ≤ 1048576) (b1 : Bc x1 ≤ 1048576) : Cy E0 (n + 11) 49 19 [.agg (A5 x0), .agg (Ag x1)] = some (.tup [.agg (A5 (A1 x0 x1)), .sc (.int .i64 (En x0 x1))]) := by
 rw [Az, AhD, f19]
 simp only [Ct, Cf, A2, A9, Bk, Ea, At, J6]
 exact Qj rfl rfl rfl (Oi (n + 6) (by omega) x0 (Akq x0 b0)) (Oy n hn _ x0 b0) (Zx (n + 2) (by omega) x0.fQ x1 k0.2.2 k1 (by unfold D6 at b0; omega) b1)
theorem Tq (n : Nat) (hn : 1048576 < n) (x0 : Bs) (x1 : Br) (k0 : Qi x0) (k1 : Ce x1) (b0 : D6 x0 ≤ 1048576) (b1 : Bc x1 ≤ 1048576) : Cy E0 (n + 11) 49 18 [.agg (A5 x0), .agg (Ag x1)] = some (.tup [.agg (A5 (A1 x0 x1)), .sc (.int .i64 (En x0 x1))]) := by
 rw [Az, AhC, f18]
 simp only [Ct, Cf, A2, A9, Bk, Ea, At, J6]
 exact Qj rfl rfl rfl (Wj (n + 6) (by omega) x0 (Akq x0 b0)) (Wt n hn _ x0 b0) (Zd (n + 1) (by omega) x0.fQ x1 k0.2.2 k1 (by unfold D6 at b0; omega) b1)
end
section
open Go
section
variable {β : Type} {n : Nat} {H : Aa} {L L' L1 L2 : List Ck} {G : Option β → Prop} {K : AV → Option β} {KH : KO β}
theorem AiN {cty : List Nat} {m i : Nat} (hi : i < m) : (zad m cty).flatten = (zad i cty).flatten ++ (cty ++ (zad (m - i - 1) cty).flatten) := by
 rw [show (zad m cty) = zad i cty ++ (cty :: zad (m - i - 1) cty) from by
  rw [← List.replicate_succ, zaB]
  congr 1
  omega]
 simp
theorem AaE {α : Type} {enc : α → List AV} {l : List α} {i : Nat} {y : α} (hy : l[i]? = some y) : (l.map enc).flatten = ((l.take i).map enc).flatten ++ (enc y ++ ((l.drop (i + 1)).map enc).flatten) := by
 have h := (zac.1 hy)
 obtain ⟨h1, h2⟩ := h
 have e : l = l.take i ++ y :: l.drop (i + 1) := by
  rw [← h2, List.getElem_cons_drop, zaR]
 have e2 : l.map enc = (l.take i).map enc ++ (enc y :: (l.drop (i + 1)).map enc) := by
  rw [← za0, ← zaA, ← e]
 rw [e2]
 simp
theorem AkB {l : List AV} {a b : Nat} (h : a + b ≤ l.length) : l = l.take a ++ ((l.drop a).take b ++ l.drop (a + b)) := by
 rw [← zbb, zaR, zaR]
theorem Ach {c ds : List AV} {off p m : Nat} (h : p + ds.length ≤ m) (hm : off + m ≤ c.length) : ((Cd c (off + p) ds).drop off).take m = ((c.drop off).take m).take p ++ (ds ++ (((c.drop off).take m).drop p).drop ds.length) := by
 have h1 : Cd c (off + p) ds = c.take off ++ ((c.drop off).take p ++ (ds ++ c.drop (off + p + ds.length))) := by
  unfold Cd
  rw [List.take_add]
  simp only [zaj]
 rw [h1, zbA (by rw [zaL]; omega), List.take_append, List.take_append]
 have l1 : ((c.drop off).take p).length = p := by rw [zaL, zaF]; omega
 rw [zbi (by rw [l1]; omega : ((c.drop off).take p).length ≤ m), l1, zbi (l := ds) (i := m - p) (by omega), List.take_take, zaQ (by omega), zbb, List.drop_take, zbb]
 rw [show m - p - ds.length = m - (p + ds.length) by omega, show off + p + ds.length = off + (p + ds.length) by omega]
theorem Aef {α : Type} {enc : α → List AV} {w ty k v : Nat} {cty : List Nat} {x yv : AV} {l : List α} {y y' : α} {i : Int} {ds cm : List AV} {KS : Aa → Option β} (hs : Sep H L) (hty : ∃ i j, An ty = some i ∧ An i.elem = some j ∧ j.size = w ∧ j.cty = cty) (hc : cty.length = w) (hp : Pk L (.own x ty (Aj enc l)) L1)
  (hr : OwnR L1 ds ((cty.drop k).take v) cm L2) (hok : El (Gp An E0.tp 5) ((cty.drop k).take v) cm) (hi : 0 ≤ i) (hy : l[i.toNat]? = some y) (hw : ∀ x, (enc x).length = w) (hk : k + v ≤ w) (hyv : Cq yv = some ds) (hdl : ds.length = v) (hcl : cm.length = v) (he : enc y' = Cd (enc y) k cm)
  (h : ∀ H', Sep H' (.own x ty (Aj enc (l.set i.toNat y')) :: L2) → Gd G (KS H')) : Gd G (Eu w x (si i) fun t => Ef k t fun t => D5 v t yv H fun H => KS H) := by
 obtain ⟨ti, tj, e1, e2, rfl, rfl⟩ := hty
 obtain ⟨I, ⟨J, R, rfl, ⟨hlf, hok1, e⟩, h2⟩, h3⟩ := hs.pick hp
 have hlt : i.toNat < l.length := (zac.1 hy).1
 rcases Lr e1 e2 e with ⟨rfl, h0, _, _⟩ | ⟨id, off, raw, J', b, rfl, rfl, hb, hlv, ha, h4, h5⟩
 omega
 obtain ⟨hl4, b', hb', _, hle, hcs⟩ := Hh h4
 rw [hb] at hb'
 cases hb'
 have hm : (i.toNat + 1) * tj.size ≤ l.length * tj.size := zbd _ hlt
 rw [zaV, zbv] at hm
 have hlc : ((l.map enc).flatten).length = l.length * tj.size := Fj hw l
 have hid : id < H.length := (zac.1 hb).1
 refine N9 hi (by omega) (Am (o' := off + (i.toNat * tj.size + k)) (by omega) ?_)
 have hst := Fv v id (off + (i.toNat * tj.size + k)) yv b ds H (fun H => KS H) hb hyv hdl (by omega) hlv
 refine D7 hst (h _ ?_)
 generalize hT1 : (zad i.toNat tj.cty).flatten ++ tj.cty.take k = T1
 generalize hT3 : tj.cty.drop (k + v) ++ (zad (l.length - i.toNat - 1) tj.cty).flatten = T3
 have hT : (zad l.length tj.cty).flatten = T1 ++ ((tj.cty.drop k).take v ++ T3) := by
  rw [AiN hlt, ← hT1, ← hT3]
  have : tj.cty = tj.cty.take k ++ ((tj.cty.drop k).take v ++ tj.cty.drop (k + v)) := by rw [← zbb, zaR, zaR]
  conv => lhs; rw [show tj.cty ++ (zad (l.length - i.toNat - 1) tj.cty).flatten = (tj.cty.take k ++ ((tj.cty.drop k).take v ++ tj.cty.drop (k + v))) ++ (zad (l.length - i.toNat - 1) tj.cty).flatten by rw [← this]]
  simp only [zaj]
 have hT1l : T1.length = i.toNat * tj.size + k := by rw [← hT1]; simp [hc]; omega
 have hT2l : ((tj.cty.drop k).take v).length = v := by simp [hc]; omega
 generalize hA : ((l.take i.toNat).map enc).flatten ++ (enc y).take k = A
 generalize hD : (enc y).drop (k + v) ++ ((l.drop (i.toNat + 1)).map enc).flatten = D
 have hC : (l.map enc).flatten = A ++ (((enc y).drop k).take v ++ D) := by
  rw [AaE hy, ← hA, ← hD]
  have : enc y = (enc y).take k ++ (((enc y).drop k).take v ++ (enc y).drop (k + v)) := AkB (by rw [hw]; exact hk)
  conv => lhs; rw [show enc y ++ ((l.drop (i.toNat + 1)).map enc).flatten = ((enc y).take k ++ (((enc y).drop k).take v ++ (enc y).drop (k + v))) ++ ((l.drop (i.toNat + 1)).map enc).flatten by rw [← this]]
  simp only [zaj]
 have hAl : A.length = i.toNat * tj.size + k := by
  rw [← hA, zae, Fj hw, zaL, zaL, hw]
  rw [zaQ (by omega), zaQ (by omega)]
 have hBl : (((enc y).drop k).take v).length = v := by rw [zaL, zaF, hw]; omega
 have hC2 : ((l.set i.toNat y').map enc).flatten = A ++ (cm ++ D) := by
  have hy' : (l.set i.toNat y')[i.toNat]? = some y' := by rw [zaY hlt]
  rw [AaE hy', ← hA, ← hD, he, List.take_set_of_le (zai _), List.drop_set_of_lt (Nat.lt_succ_self _)]
  unfold Cd
  rw [hcl]
  simp only [zaj]
 rw [hT, hC] at h5
 have hrl : raw.length = l.length * tj.size := hl4
 obtain ⟨IA, IX, q1, q2, rfl⟩ := Iv h5 (by rw [hT1l]; omega)
 obtain ⟨IB, ID, q3, q4, rfl⟩ := Iv q2 (by rw [hT2l, zaF, hT1l]; omega)
 rw [hT1l] at q1 q3 q4
 rw [hT2l] at q3 q4
 rw [show (A ++ (((enc y).drop k).take v ++ D)).take (i.toNat * tj.size + k) = A by rw [← hAl]; simp] at q1
 rw [show ((A ++ (((enc y).drop k).take v ++ D)).drop (i.toNat * tj.size + k)).drop v = D by
  rw [← hAl, zbA rfl]
  exact zbA hBl] at q4
 have hn1 := zaH.1 (show (id :: (IA ++ (IB ++ ID) ++ R)).Nodup from h3)
 generalize hH : H.set id { b with cells := Cd b.cells (off + (i.toNat * tj.size + k)) ds } = H'
 have hfr : ∀ z, z ≠ id → H'[z]? = H[z]? := fun z hz => by rw [← hH, za4 (fun e => hz e.symm)]
 have hRf : SepI H' L1 R := h2.frame fun z hz => hfr z (fun e => hn1.1 (e ▸ zaq _ hz))
 obtain ⟨JM, R', g1, g2, g3⟩ := hr.sound hRf 5 hok
 have q1' := Ec (f' := Bx An E0.tp H' 5) (fun t x a h hi => Di 5 t x a h fun z hz => hfr z (fun e => hn1.1 (e ▸ zat _ (zat _ (hi z hz))))) q1
 have q4' := Ec (f' := Bx An E0.tp H' 5) (fun t x a h hi => Di 5 t x a h fun z hz => hfr z (fun e => hn1.1 (e ▸ zat _ (zaq _ (zaq _ (hi z hz)))))) q4
 have h7 := F8 q1' (F8 g1 q4')
 have hnd : (id :: (IA ++ (JM ++ ID)) ++ R').Nodup := by
  have h4' := (zb1.append_left (id :: (IA ++ (IB ++ ID))) g3).nodup h3
  have hpm : (id :: (IA ++ (IB ++ ID)) ++ (JM ++ R')).Perm (IB ++ (id :: (IA ++ (JM ++ ID)) ++ R')) := by
   rw [List.perm_iff_count]
   intro a
   simp only [List.count_append, zau, List.count_cons]
   omega
  exact (zaJ.1 (hpm.nodup h4')).2.1
 refine ⟨(id :: (IA ++ (JM ++ ID))) ++ R', ⟨id :: (IA ++ (JM ++ ID)), R', rfl, ⟨rfl, ?_, ?_⟩, g2⟩, hnd⟩
 obtain ⟨i', j', u1, u2, u3, u4⟩ := hok1
 rw [e1] at u1
 cases u1
 rw [e2] at u2
 cases u2
 refine ⟨ti, tj, e1, e2, ?_, ?_⟩
 show ((l.set i.toNat y').map enc).flatten.length = (l.set i.toNat y').length * tj.size
 rw [Fj hw]
 rw [zbh, hT]
 rw [hT, hC] at u4
 obtain ⟨v1, v2⟩ := Gc u4
 obtain ⟨_, v3⟩ := Gc v2
 rw [hT1l, ← hAl, List.take_left' rfl] at v1
 rw [hT1l, hT2l, ← hAl, zbA rfl, zbA hBl] at v3
 show El _ _ (((l.set i.toNat y').map enc).flatten)
 rw [hC2]
 exact Gx v1 (Gx hok v3)
 have hg : H'[id]? = some { b with cells := Cd b.cells (off + (i.toNat * tj.size + k)) ds } := by rw [← hH]; exact zaY hid
 rw [show Aj enc (l.set i.toNat y') = .ro (l.set i.toNat y').length (((l.set i.toNat y').map enc).flatten) from rfl, zbh, Ft, hC2]
 have hap : Fh H' id = true := by simp only [Fh, hg]; exact ha
 have hrd : Aw H' id off (l.length * tj.size) = some (raw.take (i.toNat * tj.size + k) ++ (ds ++ (raw.drop (i.toNat * tj.size + k)).drop v)) := by
  unfold Aw
  rw [hg]
  simp only [hlv, if_true]
  have hsl : (Cd b.cells (off + (i.toNat * tj.size + k)) ds).length = b.cells.length := by
   unfold Cd
   simp only [zae, zaL, zaF]
   omega
  rw [if_pos (by rw [hsl]; exact hle), Ach (by omega) hle, hcs, hdl]
 simp only [e1, e2, zab, if_true, hap, hrd, hT, h7]
end
end
end Go.Proofs.YtdofipeaomgbbaaGreatDoor.Abs
