/- What the proof needs, part 6: a sound evaluator over trees, the program's functions on it, and what they come to. -/
import Derived.Test.YtlcpigdmekgajaaGreatDoorMoe
import Derived.Test.YtlcpigdmekgajaaGreatDoorRows
import Derived.Test.YtlcpigdmekgajaaGreatDoorTie
import Derived.Test.YtlcpigdmekgajaaGreatDoorCards
import Derived.Lib.LaidIn
import Derived.Lib.LaidU8T
import Derived.PinnedBridge
import Derived.SevenTiedAt
import Derived.Deep.DeepHandedRow
import Derived.Deep.DeepWitnessRowRef
import Derived.WalkKit
import Derived.ProofKit
import Derived.OpenShut
import Derived.ShutString
import Derived.ChangeOld
import Derived.Below
import Derived.SizedLaws
set_option linter.unusedVariables false
set_option linter.unusedSimpArgs false
set_option maxRecDepth 100000
set_option maxHeartbeats 32000000
namespace Go.Proofs.YtlcpigdmekgajaaGreatDoor.Abs
open _root_.Bool renaming false_eq_true → zaa, and_eq_true → zae, not_true → zax, not_false → za0, true_and → za5, false_or → zaC, not_not → zaE, false_and → zaH, or_eq_true → zaP, and_true → zaS, true_or → zbg, and_false → zbn, eq_iff_iff → zbq, and_comm → zbG
open _root_.Option renaming map_eq_some_iff → zaK
open _root_.List renaming length_append → zaf, nil_append → zag, append_assoc → zai, length_cons → zal, append_nil → zan, length_nil → zao, length_singleton → zaq, eq_nil_of_length_eq_zero → zar, all_cons → zas, map_cons → zat, cons_append → zau, map_append → za2, flatten_cons → za3, all_eq_true → za6, all_nil → za7, map_nil → zaB, flatten_nil → zbw
open _root_.ByteArray renaming size_append → zaj, size_extract → zaw
open _root_.Nat renaming le_trans → za9
section
open Go
theorem AeE (n : Nat) (hn : 1048576 < n) (c : Nat) (B : ByteArray) (a : Int) (b : Bool) (hB : B.size ≤ 1099511627776) (h0 : 0 ≤ a) (h1 : a ≤ ((B.size : Nat) : Int)) {β : Type} {G : Option β → Prop} {KH : KO β} {H : Ac} {L : List Ck} (s0 : Sep H (.blk c [Af B, .sc (.int .i64 a), .sc (.bool b)] true :: L)) (hk : ∀ (v : Int) (a' : Int) (b' : Bool) (H' : Ac), Lv B (a, b) = (v, a', b') → Sep H' (.blk c [Af B, .sc (.int .i64 a'), .sc (.bool b')] true :: L) → Gd G (KH (.sc (.int .i64 v)) H')) : Gd G (E7 E0 (n + 1) β 100 [.ptr c 0] H fun x H => KH x H) := by
 rw [Aio, f100]
 try simp only [Fc, Fb]
 refine C8 (Pe (Al (c := sb b) s0 (.here) rfl (Aa (b) (fun h1 => ?_) fun h1 => ?_)))
 refine Ab h1 (Ab h1 (Ab h1 (Ab h1 (Ab h1 (Ab h1 (Ab h1 (Ab h1 (Ab h1 (Ab h1 (Ef h1 (Aq rfl (C8 (Pe (A8 s0 (.here) rfl rfl fun H s2 => ?_))))))))))))))
 have e : Lv B (a, b) = (0, a, true) := by
  unfold Lv; simp [h1]
 exact hk _ _ _ _ e s2
 refine Ad h1 (Ad h1 (C8 (Ad h1 (V3 (Ad h1 (Al (c := si a) s0 (.here) rfl (Ad h1 (Ad h1 (C8 (Ad h1 (N9 (Ad h1 (Al (c := Af B) s0 (.here) rfl (Ad h1 (Cn (Ad h1 (Ya (Dq h1 (Aa ((decide (((B.size : Nat) : Int) ≤ a))) (fun h3 => ?_) fun h3 => ?_)))))))))))))))))))
 have dh3 := of_decide_eq_true h3
 refine Aq h3 (C8 (Pe (A8 s0 (.here) rfl rfl fun H s4 => ?_)))
 have e : Lv B (a, b) = (0, a, true) := by
  simp only [Cw] at h3
  unfold Lv; simp [h1, h3]
 exact hk _ _ _ _ e s4
 have dh3 := of_decide_eq_false h3
 refine Av h3 (C8 (V3 (Al (c := si a) s0 (.here) rfl (Bx (by omega) (by omega) (C8 (V3 (A8 s0 (.here) rfl rfl fun H s5 => C8 (N9 (Al (c := Af B) s5 (.here) rfl (C8 (V3 (Al (c := si (a + 1)) s5 (.here) rfl (Nt (by omega) (by omega) ?_)))))))))))))
 have w6 := D6 B ((a + 1) - 1)
 refine G0 (by omega) (by omega) fun _ => Fh (c := su (A7 B ((a + 1) - 1))) rfl (Lg (by omega) (by omega) ?_)
 have e : Lv B (a, b) = ((A7 B ((a + 1) - 1)), (a + 1), b) := by
  clear hk s0 s5
  simp only [Cw] at h3
  unfold Lv; simp [h1, h3]; try omega
 exact hk _ _ _ _ e s5
theorem AhT (n : Nat) (hn : 1048576 < n) (c : Nat) (B : ByteArray) (a : Int) (b : Bool) (hB : B.size ≤ 1099511627776) (h0 : 0 ≤ a) (h1 : a ≤ ((B.size : Nat) : Int)) {β : Type} {G : Option β → Prop} {KH : KO β} {H : Ac} {L : List Ck} (s0 : Sep H (.blk c [Af B, .sc (.int .i64 a), .sc (.bool b)] true :: L)) (hk : ∀ (v : Int) (a' : Int) (b' : Bool) (H' : Ac), Hs B (a, b) = (v, a', b') → Sep H' (.blk c [Af B, .sc (.int .i64 a'), .sc (.bool b')] true :: L) → Gd G (KH (.sc (.int .i64 v)) H')) : Gd G (E7 E0 (n + 2) β 102 [.ptr c 0] H fun x H => KH x H) := by
 rw [Aip, f102]
 try simp only [Fc, Fb]
 refine C8 (N9 (Al (c := Af B) s0 (.here) rfl (C8 (V3 (Al (c := si a) s0 (.here) rfl ?_)))))
 obtain ⟨wq1, yq1, oq1, q1⟩ : ∃ w y o, Bo B a = (w, y, o) := ⟨_, _, _, rfl⟩
 have bq1 := Gj q1
 refine Ek s0 rfl (.cons .ro (.cons .sc .nil)) (by have h := AcO n (by omega) B a (by omega) (by omega); rw [q1] at h; exact h) rfl (Bg (Bg (Bg Ed))) ?_
 rintro _ _ H ⟨_, rfl, ⟨_, rfl, ⟨_, rfl, ⟨rfl, rfl⟩⟩⟩⟩ s2
 simp only [zag] at s2
 refine Bp (v := si wq1) rfl (Bp (v := si yq1) rfl (Bp (v := sb oq1) rfl (C8 (Pe (Al (c := sb b) s2 (.here) rfl (Aa (b) (fun h3 => ?_) fun h3 => ?_))))))
 refine Ab h3 (Ab h3 (Ef h3 (Aq rfl (C8 (Pe (A8 s2 (.here) rfl rfl fun H s4 => ?_))))))
 have e : Hs B (a, b) = (0, a, true) := by
  unfold Hs; simp [q1, h3]
 exact hk _ _ _ _ e s4
 refine Ad h3 (Ad h3 (B4 (Dq h3 (Aa (oq1) (fun h5 => ?_) fun h5 => ?_))))
 refine Av (nF h5) (C8 (V3 (A8 s2 (.here) rfl rfl fun H s6 => ?_)))
 have e : Hs B (a, b) = (wq1, yq1, b) := by
  unfold Hs; simp [q1, h3, h5]
 exact hk _ _ _ _ e s6
 refine Aq (nT h5) (C8 (Pe (A8 s2 (.here) rfl rfl fun H s7 => ?_)))
 have e : Hs B (a, b) = (0, a, true) := by
  unfold Hs; simp [q1, h3, h5]
 exact hk _ _ _ _ e s7
theorem Kd (n : Nat) (hn : 1048576 < n) (c : Nat) (B : ByteArray) (a : Int) (b : Bool) (hB : B.size ≤ 1099511627776) (h0 : 0 ≤ a) (h1 : a ≤ ((B.size : Nat) : Int)) {β : Type} {G : Option β → Prop} {KH : KO β} {H : Ac} {L : List Ck} (s0 : Sep H (.blk c [Af B, .sc (.int .i64 a), .sc (.bool b)] true :: L)) (hk : ∀ (x : AV) (v : ByteArray) (a' : Int) (b' : Bool) (H' : Ac), Bj x = true → Et B (a, b) = (v, a', b') → Sep H' (.own x 22 (Af v) :: .blk c [Af B, .sc (.int .i64 a'), .sc (.bool b')] true :: L) → Gd G (KH x H')) : Gd G (E7 E0 (n + 6) β 129 [.ptr c 0] H fun x H => KH x H) := by
 rw [AiF, f129]
 try simp only [Fc, Fb]
 refine C8 (N9 (Al (c := Af B) s0 (.here) rfl (C8 (V3 (Al (c := si a) s0 (.here) rfl ?_)))))
 obtain ⟨vq1, yq1, oq1, q1⟩ : ∃ w y o, Bi B a = (w, y, o) := ⟨_, _, _, rfl⟩
 have bq1 := Fw q1
 refine Ek s0 rfl (.cons .ro (.cons .sc .nil)) (by have h := Ajz n (by omega) B a (by omega) (by omega); rw [q1] at h; exact h) rfl (Kj (ty := 22) rfl (C2 vq1) (Bg (Bg Ed))) ?_
 rintro _ _ H ⟨x2, _, _, lx2, rfl, rfl, ⟨_, rfl, ⟨_, rfl, ⟨rfl, rfl⟩⟩⟩⟩ s3
 simp only [zag, zau] at s3
 refine Bp (v := x2) rfl (Bp (v := si yq1) rfl (Bp (v := sb oq1) rfl (C8 (Pe (Al (c := sb b) s3 Ct rfl (Aa (b) (fun h4 => ?_) fun h4 => ?_))))))
 refine Ab h4 (Ab h4 (Ef h4 (Aq rfl (C8 (Pe (A8 s3 Ct rfl rfl fun H s5 => ?_))))))
 have e : Et B (a, b) = (bs0, a, true) := by
  unfold Et; simp [q1, h4]
 have s6 := s5.nl (ty := 22) ⟨_, _, rfl, rfl⟩
 exact hk .nl _ _ _ _ rfl e (s6.sel (.cons (.here) (.cons (.here) (.skip .rest))))
 refine Ad h4 (Ad h4 (B4 (Dq h4 (Aa (oq1) (fun h7 => ?_) fun h7 => ?_))))
 refine Av (nF h7) (C8 (V3 (A8 s3 Ct rfl rfl fun H s8 => ?_)))
 have e : Et B (a, b) = (vq1, yq1, b) := by
  unfold Et; simp [q1, h4, h7]
 exact hk x2 _ _ _ _ lx2 e (s8.pick Ct)
 refine Aq (nT h7) (C8 (Pe (A8 s3 Ct rfl rfl fun H s9 => ?_)))
 have e : Et B (a, b) = (bs0, a, true) := by
  unfold Et; simp [q1, h4, h7]
 have s10 := s9.nl (ty := 22) ⟨_, _, rfl, rfl⟩
 exact hk .nl _ _ _ _ rfl e (s10.sel (.cons (.here) (.cons (.here) (.skip .rest))))
theorem Wg (n : Nat) (hn : 1048576 < n) (t : Int) (B : ByteArray) (c d : Nat) (id : Int) (hB : B.size ≤ 1099511627776) {β : Type} {G : Option β → Prop} {L : List Ck} (k : KO β) : ∀ (f m : Nat) (a : Int) (b : Bool) (ws : List WantV) (cs : List Int) (ns : List ByteArray) (xw xc xn : AV) (H : Ac), f ≤ m → ((b = true ∧ 1 ≤ f) ∨ 6 ≤ f + (ws.length + cs.length + ns.length)) → ws.length + cs.length + ns.length ≤ 5 → 0 ≤ a → a ≤ ((B.size : Nat) : Int) → Bj xw = true → Bj xc = true → Bj xn = true → Sep H (.own xw 55 (Ci Bn ws) :: .own xc 57 (Ei cs) :: .own xn 56 (Ee ns) :: .blk c [Af B, .sc (.int .i64 a), .sc (.bool b)] true :: .blk d [.sc (.int .i64 t), .sc (.bool false), .sc (.int .i64 0), .sc (.bool false), .sc (.int .i64 id), .sc (.string (⟨#[]⟩)), .nl, .sc (.string (⟨#[]⟩)), .sc (.int .i64 0), .sc (.bool false), .sc (.int .i64 0), .sc (.bool false), .sc (.string (⟨#[]⟩)), .nl, .sc (.int .i64 0), .sc (.bool false), .sc (.bool false), .sc (.string (⟨#[]⟩)), .sc (.bool false), .nl, .sc (.int .i64 0), .sc (.bool false), xw, xn, xc] true :: L) → (∀ (yw yc yn : AV) (a' : Int) (b' : Bool) (H' : Ac), Bj yw = true → Bj yc = true → Bj yn = true → Sep H' (.own yw 55 (Ci Bn ((Cc t B f (a, b) ws cs ns).1)) :: .own yc 57 (Ei ((Cc t B f (a, b) ws cs ns).2.1)) :: .own yn 56 (Ee ((Cc t B f (a, b) ws cs ns).2.2)) :: .blk c [Af B, .sc (.int .i64 (a')), .sc (.bool b')] true :: .blk d [.sc (.int .i64 t), .sc (.bool false), .sc (.int .i64 0), .sc (.bool false), .sc (.int .i64 id), .sc (.string (⟨#[]⟩)), .nl, .sc (.string (⟨#[]⟩)), .sc (.int .i64 0), .sc (.bool false), .sc (.int .i64 0), .sc (.bool false), .sc (.string (⟨#[]⟩)), .nl, .sc (.int .i64 0), .sc (.bool false), .sc (.bool false), .sc (.string (⟨#[]⟩)), .sc (.bool false), .nl, .sc (.int .i64 0), .sc (.bool false), yw, yn, yc] true :: L) → Gd G (k (Dk []) H')) → Gd G (Lk (PR (n + 8) β) (n + 8) k m (.ptr c 0) (.ptr d 0) H)
 | 0, m, a, b, ws, cs, ns, xw, xc, xn, H, hm, hM, ht, h0, h1, lxw, lxc, lxn, s0, hk => by
  exfalso
  omega
 | f + 1, m + 1, a, b, ws, cs, ns, xw, xc, xn, H, hm, hM, ht, h0, h1, lxw, lxc, lxn, s0, hk => by
  rw [Lk]
  try simp only [Fc, Fb]
  refine Pt rfl rfl ?_
  rw [AiH, f131]
  try simp only [Fc, Fb]
  refine C8 (Pe (Al (c := sb b) s0 Nk rfl (B4 (Aa (b) (fun h1 => ?_) fun h1 => ?_))))
  refine Ab (nF h1) (Ab (nF h1) (Ab (nF h1) (Ab (nF h1) (Ab (nF h1) (Ab (nF h1) (Ab (nF h1) (Ab (nF h1) (Ab (nF h1) (Ab (nF h1) (Dq (nF h1) (Ab rfl (Ab rfl (Ab rfl (Ab rfl (Ab rfl (Ab rfl (Ab rfl (Ab rfl (Ab rfl (Ab rfl (Ab rfl (Ab rfl (Ab rfl (Ab rfl (Ab rfl (Ab rfl (Ab rfl (Ab rfl (Dq rfl (Av rfl ?_))))))))))))))))))))))))))))))
  have e : Cc t B (f + 1) (a, b) ws cs ns = (ws, cs, ns) := by
   rw [Cc]; simp [h1]
  rw [e] at hk
  exact hk xw xc xn a b _ lxw lxc lxn (s0.sel (.cons (.here) (.cons (.here) (.cons (.here) (.cons (.here) (.cons (.here) .rest))))))
  refine Ad (nT h1) (Ad (nT h1) (C8 (Ad (nT h1) (V3 (Ad (nT h1) (Al (c := si a) s0 Nk rfl (Ad (nT h1) (Ad (nT h1) (C8 (Ad (nT h1) (N9 (Ad (nT h1) (Al (c := Af B) s0 Nk rfl (Ad (nT h1) (Cn (Ad (nT h1) (Dd (Ef (nT h1) (Aa ((decide (a < ((B.size : Nat) : Int)))) (fun h2 => ?_) fun h2 => ?_)))))))))))))))))))
  have dh2 := of_decide_eq_true h2
  refine Ad h2 (Ad h2 (C8 (Ad h2 (Ky (Ad h2 (Al (c := xw) s0 Nl rfl (Ad h2 (Kh s0 (.here) (Ad h2 (Ad h2 (C8 (Ad h2 (La (Ad h2 (Al (c := xc) s0 Nl rfl (Ad h2 (Kh s0 Ct (Ad h2 (Bx (by omega) (by omega) (Ad h2 (Ad h2 (C8 (Ad h2 (K9 (Ad h2 (Al (c := xn) s0 Nl rfl (Ad h2 (Kh s0 Df (Ad h2 (Bx (by omega) (by omega) (Ad h2 (O5 (Ef h2 (Aa ((decide (((((ws.length : Nat) : Int) + ((cs.length : Nat) : Int)) + ((ns.length : Nat) : Int)) ≤ 4))) (fun h3 => ?_) fun h3 => ?_))))))))))))))))))))))))))))))))))
  have dh3 := of_decide_eq_true h3
  refine Aq h3 (C8 (N9 (Al (c := si t) s0 Nl rfl (A2 (Aa ((decide (t = 8))) (fun h4 => ?_) fun h4 => ?_)))))
  have dh4 := of_decide_eq_true h4
  refine Aq h4 (Bf (cs := [sE, i0]) rfl (Ie s0 fun i5 H s6 => Ca (cs' := [sE, i0]) s6 (.here) (Ag rfl) rfl (B9 rfl) rfl fun H s7 => Pt rfl rfl ?_))
  rw [M4, f101]
  try simp only [Fc, Fb]
  have s9 := s7.pick Nl
  refine Kg rfl rfl (Kd (n + 1) (by omega) c B a (b) hB (by omega) (by omega) s9 fun xq8 vq8 aq8 bq8 H lxq8 q8 s10 => ?_)
  have b_q8 := Fq q8 (by omega) (by omega)
  refine Nd s10 ⟨_, _, rfl, rfl, rfl, rfl⟩ (.here) (N9 (A8 s10 Df rfl rfl fun H s11 => ?_))
  have s13 := s11.pick Df
  refine Kg rfl rfl (AeE (n + 7) (by omega) c B aq8 (bq8) hB (by omega) (by omega) s13 fun vq12 aq12 bq12 H q12 s14 => ?_)
  have b_q12 := Qw q12 (by omega) (by omega)
  refine V3 (A8 s14 Ct rfl rfl fun H s15 => C8 (Ky (Al (c := xw) s15 Z9 rfl (Ar s15 (.here) rfl (Bf (cs := [ss vq8, si vq12]) (K7 (z' := [ss vq8, si vq12]) (Ag rfl) rfl (B9 rfl) rfl (rfl)) (Cg s15 fun i16 H s17 => Zk (cty := [9, 3]) (e := (⟨vq8, vq12⟩ : WantV)) s17 ⟨_, _, rfl, rfl, rfl, rfl⟩ Nl (.here) rfl rfl (.sc (.sc .nil)) (Fu trivial) rfl (by omega) fun x18 H lx18 s19 => C8 (Ky (Ca (cs' := [si t, bF, i0, bF, si id, sE, .nl, sE, i0, bF, i0, bF, sE, .nl, i0, bF, bF, sE, bF, .nl, i0, bF, x18, xn, xc]) s19 Z9 (D8 lx18) rfl (B9 rfl) rfl fun H s20 => ?_))))))))
  have e : Cc t B (f + 1) (a, b) ws cs ns = Cc t B f (aq12, bq12) (ws ++ [⟨vq8, vq12⟩]) cs ns := by
   simp only [Cw] at h2 h3 h4
   rw [Cc]; simp only [q8, q12]; simp [h1, h2, h3, h4]
  rw [e] at hk
  have hM2 : 6 ≤ f + 1 + (ws.length + cs.length + ns.length) := hM.resolve_left (by simp [h1])
  exact Wg n hn t B c d id hB k f m aq12 bq12 (ws ++ [⟨vq8, vq12⟩]) cs ns x18 xc xn _ (by omega) (by (simp only [zaf, zaq]; omega)) (by (simp only [zaf, zaq]; omega)) (by omega) (by omega) lx18 lxc lxn (s20.sel (.cons Ct (.cons Nl (.cons Nl (.cons Df (.cons (.here) zS2)))))) hk
  have dh4 := of_decide_eq_false h4
  refine Av h4 (A2 (Aa ((decide (t = 9))) (fun h21 => ?_) fun h21 => ?_))
  have dh21 := of_decide_eq_true h21
  refine Aq h21 ?_
  have s23 := s0.pick Nk
  refine Kg rfl rfl (AeE (n + 7) (by omega) c B a (b) hB (by omega) (by omega) s23 fun vq22 aq22 bq22 H q22 s24 => ?_)
  have b_q22 := Qw q22 (by omega) (by omega)
  refine C8 (La (Al (c := xc) s24 Nl rfl (Bf (cs := [si vq22]) rfl (Cg s24 fun i25 H s26 => AcM s26 Nk (.here) ⟨_, _, rfl, rfl, rfl, rfl⟩ rfl (by omega) fun x27 H lx27 s28 => C8 (La (Ca (cs' := [si t, bF, i0, bF, si id, sE, .nl, sE, i0, bF, i0, bF, sE, .nl, i0, bF, bF, sE, bF, .nl, i0, bF, xw, xn, x27]) s28 Nl (D8 lx27) rfl (B9 rfl) rfl fun H s29 => ?_))))))
  have e : Cc t B (f + 1) (a, b) ws cs ns = Cc t B f (aq22, bq22) ws (cs ++ [vq22]) ns := by
   simp only [Cw] at h2 h3 h4 h21
   rw [Cc]; simp only [q22]; simp [h1, h2, h3, h4, h21]
  rw [e] at hk
  have hM2 : 6 ≤ f + 1 + (ws.length + cs.length + ns.length) := hM.resolve_left (by simp [h1])
  exact Wg n hn t B c d id hB k f m aq22 bq22 ws (cs ++ [vq22]) ns xw x27 xn _ (by omega) (by (simp only [zaf, zaq]; omega)) (by (simp only [zaf, zaq]; omega)) (by omega) (by omega) lxw lx27 lxn (s29.sel (.cons Nk (.cons Ct (.cons Df (.cons Ct (.cons (.here) .rest)))))) hk
  have dh21 := of_decide_eq_false h21
  refine Av h21 (A2 (Aa ((decide (t = 10))) (fun h30 => ?_) fun h30 => ?_))
  have dh30 := of_decide_eq_true h30
  refine Aq h30 (Pt rfl rfl ?_)
  rw [M4, f101]
  try simp only [Fc, Fb]
  have s32 := s0.pick Nk
  refine Kg rfl rfl (Kd (n + 1) (by omega) c B a (b) hB (by omega) (by omega) s32 fun xq31 vq31 aq31 bq31 H lxq31 q31 s33 => ?_)
  have b_q31 := Fq q31 (by omega) (by omega)
  refine Nd s33 ⟨_, _, rfl, rfl, rfl, rfl⟩ (.here) (C8 (K9 (Al (c := xn) s33 Xq rfl (Bf (cs := [ss vq31]) rfl (Cg s33 fun i34 H s35 => Zl s35 Xq (.here) ⟨_, _, rfl, rfl, rfl, rfl⟩ rfl (by omega) fun x36 H lx36 s37 => C8 (K9 (Ca (cs' := [si t, bF, i0, bF, si id, sE, .nl, sE, i0, bF, i0, bF, sE, .nl, i0, bF, bF, sE, bF, .nl, i0, bF, xw, x36, xc]) s37 Xq (D8 lx36) rfl (B9 rfl) rfl fun H s38 => ?_)))))))
  have e : Cc t B (f + 1) (a, b) ws cs ns = Cc t B f (aq31, bq31) ws cs (ns ++ [vq31]) := by
   simp only [Cw] at h2 h3 h4 h21 h30
   rw [Cc]; simp only [q31]; simp [h1, h2, h3, h4, h21, h30]
  rw [e] at hk
  have hM2 : 6 ≤ f + 1 + (ws.length + cs.length + ns.length) := hM.resolve_left (by simp [h1])
  exact Wg n hn t B c d id hB k f m aq31 bq31 ws cs (ns ++ [vq31]) xw xc x36 _ (by omega) (by (simp only [zaf, zaq]; omega)) (by (simp only [zaf, zaq]; omega)) (by omega) (by omega) lxw lxc lx36 (s38.sel (.cons Nl (.cons Nl (.cons Ct (.cons Df (.cons (.here) (.skip .rest))))))) hk
  have dh30 := of_decide_eq_false h30
  refine Av h30 (C8 (Pe (Ca (cs' := [Af B, si a, bT]) s0 Nk (D8 rfl) rfl (B9 rfl) rfl fun H s39 => ?_)))
  have e : Cc t B (f + 1) (a, b) ws cs ns = Cc t B f (a, true) ws cs ns := by
   simp only [Cw] at h2 h3 h4 h21 h30
   rw [Cc]; simp [h1, h2, h3, h4, h21, h30]
  rw [e] at hk
  have hM2 : 6 ≤ f + 1 + (ws.length + cs.length + ns.length) := hM.resolve_left (by simp [h1])
  exact Wg n hn t B c d id hB k f m a true ws cs ns xw xc xn _ (by omega) (by exact Or.inl ⟨rfl, by omega⟩) (by omega) (by omega) (by omega) lxw lxc lxn (s39.sel (.cons Ct (.cons Ct (.cons Ct (.cons (.here) (.cons (.here) .rest)))))) hk
  have dh3 := of_decide_eq_false h3
  refine Av h3 ?_
  have e : Cc t B (f + 1) (a, b) ws cs ns = (ws, cs, ns) := by
   clear hk s0
   simp only [Cw] at h2 h3
   rw [Cc]; simp [h1, h2, h3]; try omega
  rw [e] at hk
  exact hk xw xc xn a b _ lxw lxc lxn (s0.sel (.cons (.here) (.cons (.here) (.cons (.here) (.cons (.here) (.cons (.here) .rest))))))
  have dh2 := of_decide_eq_false h2
  refine Ab h2 (Ab h2 (Ab h2 (Ab h2 (Ab h2 (Ab h2 (Ab h2 (Ab h2 (Ab h2 (Ab h2 (Ab h2 (Ab h2 (Ab h2 (Ab h2 (Ab h2 (Ab h2 (Ab h2 (Ab h2 (Dq h2 (Av rfl ?_)))))))))))))))))))
  have e : Cc t B (f + 1) (a, b) ws cs ns = (ws, cs, ns) := by
   simp only [Cw] at h2
   rw [Cc]; simp [h1, h2]
  rw [e] at hk
  exact hk xw xc xn a b _ lxw lxc lxn (s0.sel (.cons (.here) (.cons (.here) (.cons (.here) (.cons (.here) (.cons (.here) .rest))))))
theorem AkJ (n : Nat) (hn : 1048576 < n) (first : Int) (B : ByteArray) (hf : 0 ≤ first ∧ first < 256) (hB : B.size ≤ 1099511627776) : Bz E0 (n + 11) 59 69 [.sc (.int .i64 first), Af B] = some (.agg (Ap (Dr first B))) := by
 rw [At, AlC, f69]
 refine Ce (G := (· = some (.agg (Ap (Dr first B))))) ?_
 try simp only [Fc, Fb]
 have s0 : Sep [] [] := B5
 refine Ie s0 fun i1 H s2 => Bf (cs := [Af B, i0, bF]) rfl (Id s2 (Ag rfl) fun i3 H s4 => Ns (by omega) (by omega) (by decide) (Bf (cs := [si (first / 16), bF, i0, bF, i0, sE, .nl, sE, i0, bF, i0, bF, sE, .nl, i0, bF, bF, sE, bF, .nl, i0, bF, .nl, .nl, .nl]) rfl (Ie s4 fun i5 H s6 => Ca (cs' := [si (first / 16), bF, i0, bF, i0, sE, .nl, sE, i0, bF, i0, bF, sE, .nl, i0, bF, bF, sE, bF, .nl, i0, bF, .nl, .nl, .nl]) s6 (.here) (Ag rfl) rfl (B9 rfl) rfl fun H s7 => N9 (Al (c := si (first / 16)) s7 (.here) rfl (A2 (De (Aa ((decide ((first / 16) = 1))) (fun h8 => ?_) fun h8 => ?_)))))))
 have dh8 := of_decide_eq_true h8
 refine Aq h8 (Pt rfl rfl ?_)
 rw [Ame, f99]
 try simp only [Fc, Fb]
 refine Pt rfl rfl ?_
 rw [M4, f101]
 try simp only [Fc, Fb]
 have s10 := s7.pick Ct
 refine Kg rfl rfl (Kd (n + 2) (by omega) i3 B 0 (false) hB (by omega) (by omega) s10 fun xq9 vq9 aq9 bq9 H lxq9 q9 s11 => ?_)
 have b_q9 := Fq q9 (by omega) (by omega)
 refine Nd s11 ⟨_, _, rfl, rfl, rfl, rfl⟩ (.here) ?_
 have s13 := s11.pick Ct
 refine Kg rfl rfl (AeE (n + 8) (by omega) i3 B aq9 (bq9) hB (by omega) (by omega) s13 fun vq12 aq12 bq12 H q12 s14 => ?_)
 have b_q12 := Qw q12 (by omega) (by omega)
 refine C8 (gf8 (A8 s14 Df rfl rfl fun H s15 => ?_))
 have s17 := s15.pick Ct
 refine Kg rfl rfl (AeE (n + 8) (by omega) i3 B aq12 (bq12) hB (by omega) (by omega) s17 fun vq16 aq16 bq16 H q16 s18 => ?_)
 have b_q16 := Qw q16 (by omega) (by omega)
 have s20 := s18.pick (.here)
 refine Kg rfl rfl (AhT (n + 7) (by omega) i3 B aq16 (bq16) hB (by omega) (by omega) s20 fun vq19 aq19 bq19 H q19 s21 => ?_)
 have b_q19 := Ty q19 (by omega) (by omega)
 refine C8 (V4 (A8 s21 Ct rfl rfl fun H s22 => Pt rfl rfl ?_))
 rw [M4, f101]
 try simp only [Fc, Fb]
 have s24 := s22.pick Ct
 refine Kg rfl rfl (Kd (n + 2) (by omega) i3 B aq19 (bq19) hB (by omega) (by omega) s24 fun xq23 vq23 aq23 bq23 H lxq23 q23 s25 => ?_)
 have b_q23 := Fq q23 (by omega) (by omega)
 refine Nd s25 ⟨_, _, rfl, rfl, rfl, rfl⟩ (.here) (C8 (gf7 (A8 s25 Df rfl rfl fun H s26 => Gz rfl (Lh (Gz rfl (Lh (Gz rfl (Lh (Gz rfl (Lh (C8 (gf9 (A8 s26 (.here) rfl rfl fun H s27 => C8 (Qy (A8 s27 (.here) rfl rfl fun H s28 => C8 (Kx (A8 s28 (.here) rfl rfl fun H s29 => C8 (Pd (A8 s29 (.here) rfl rfl fun H s30 => C8 (Qy (Al (c := sb (!(decide ((bits .and .i64 vq16 4) = 0)))) s30 (.here) rfl (De (Aa ((decide ((bits .and .i64 vq16 4) = 0))) (fun h31 => ?_) fun h31 => ?_)))))))))))))))))))))))
 have dh31 := of_decide_eq_true h31
 refine Av (nF h31) (C8 (Pd (Al (c := sb (!(decide ((bits .and .i64 vq16 128) = 0)))) s30 (.here) rfl (De (Aa ((decide ((bits .and .i64 vq16 128) = 0))) (fun h32 => ?_) fun h32 => ?_)))))
 have dh32 := of_decide_eq_true h32
 refine Av (nF h32) (C8 (Kx (Al (c := sb (!(decide ((bits .and .i64 vq16 64) = 0)))) s30 (.here) rfl (Aa ((decide ((bits .and .i64 vq16 64) = 0))) (fun h33 => ?_) fun h33 => ?_))))
 have dh33 := of_decide_eq_true h33
 refine Av (nF h33) (Ar s30 (.here) rfl (Ca (cs' := [si (first / 16), bF, i0, bF, i0, sE, .nl, ss vq23, si vq12, sb (!(decide ((bits .and .i64 vq16 2) = 0))), si vq19, sb (!(decide ((bits .and .i64 vq16 4) = 0))), sE, .nl, i0, bF, sb (!(decide ((bits .and .i64 vq16 128) = 0))), sE, sb (!(decide ((bits .and .i64 vq16 64) = 0))), .nl, i0, bF, .nl, .nl, .nl]) s30 Nl (Ag rfl) rfl (B9 rfl) rfl fun H s34 => Ar s34 (.here) rfl (Ai (B8 s34 ⟨_, rfl, rfl⟩ (D4 (.nl (D4 (.nl (Hw (.nl (.sc (.sc (.nl (.nl (.nl .nil))))))))))) (D5 ⟨Be, (D5 ⟨Be, (Hx ⟨Be, (Fu ⟨Be, ⟨Be, ⟨Be, trivial⟩⟩⟩)⟩)⟩)⟩)) ?_)))
 have e : Dr first B = (⟨(first / 16), false, 0, false, 0, ⟨#[]⟩, ⟨#[]⟩, vq23, vq12, (!(decide ((bits .and .i64 vq16 2) = 0))), vq19, (!(decide ((bits .and .i64 vq16 4) = 0))), ⟨#[]⟩, ⟨#[]⟩, 0, false, (!(decide ((bits .and .i64 vq16 128) = 0))), ⟨#[]⟩, (!(decide ((bits .and .i64 vq16 64) = 0))), ⟨#[]⟩, 0, false, [], [], []⟩ : PacketV) := by
  simp only [Cw] at h8
  unfold Dr Ft Gy; simp only [h8, h31, h32, h33, q9, q12, q16, q19, q23, if_true, if_false, or_true, or_false, false_or, true_or, zax, za0, zaa, reduceIte]; simp [B7, h8, h31, h32, h33]
 rw [e]
 rfl
 have dh33 := of_decide_eq_false h33
 refine Aq (nT h33) ?_
 have s36 := s30.pick Df
 refine Kg rfl rfl (Kd (n + 3) (by omega) i3 B aq23 (bq23) hB (by omega) (by omega) s36 fun xq35 vq35 aq35 bq35 H lxq35 q35 s37 => ?_)
 have b_q35 := Fq q35 (by omega) (by omega)
 refine C8 (Nf (A8 s37 Df lxq35 rfl fun H s38 => Ar s38 (.here) rfl (Ca (cs' := [si (first / 16), bF, i0, bF, i0, sE, .nl, ss vq23, si vq12, sb (!(decide ((bits .and .i64 vq16 2) = 0))), si vq19, sb (!(decide ((bits .and .i64 vq16 4) = 0))), sE, .nl, i0, bF, sb (!(decide ((bits .and .i64 vq16 128) = 0))), sE, sb (!(decide ((bits .and .i64 vq16 64) = 0))), xq35, i0, bF, .nl, .nl, .nl]) s38 Xq (Ag (Ae rfl (Ae rfl (Ae rfl (Ae rfl (Ae rfl (Ae rfl (Ae rfl (Ae rfl (Ae rfl (Ae rfl (Ae rfl (Ae rfl (Ae rfl (Ae rfl (Ae rfl (Ae rfl (Ae rfl (Ae rfl (Ae rfl (Ae lxq35 rfl))))))))))))))))))))) rfl (B9 rfl) rfl fun H s39 => Ar s39 (.here) rfl (Ai (B8 s39 ⟨_, rfl, rfl⟩ (D4 (.nl (D4 (.nl (Hw (.own Df (.sc (.sc (.nl (.nl (.nl .nil))))))))))) (D5 ⟨Be, (D5 ⟨Be, (Hx ⟨(B6 (C2 vq35) (by decide)), (Fu ⟨Be, ⟨Be, ⟨Be, trivial⟩⟩⟩)⟩)⟩)⟩)) ?_))))
 have e : Dr first B = (⟨(first / 16), false, 0, false, 0, ⟨#[]⟩, ⟨#[]⟩, vq23, vq12, (!(decide ((bits .and .i64 vq16 2) = 0))), vq19, (!(decide ((bits .and .i64 vq16 4) = 0))), ⟨#[]⟩, ⟨#[]⟩, 0, false, (!(decide ((bits .and .i64 vq16 128) = 0))), ⟨#[]⟩, (!(decide ((bits .and .i64 vq16 64) = 0))), vq35, 0, false, [], [], []⟩ : PacketV) := by
  simp only [Cw] at h8
  unfold Dr Ft Gy; simp only [h8, h31, h32, h33, q9, q12, q16, q19, q23, q35, if_true, if_false, or_true, or_false, false_or, true_or, zax, za0, zaa, reduceIte]; simp [B7, h8, h31, h32, h33]
 rw [e]
 rfl
 have dh32 := of_decide_eq_false h32
 refine Aq (nT h32) (Pt rfl rfl ?_)
 rw [M4, f101]
 try simp only [Fc, Fb]
 have s41 := s30.pick Df
 refine Kg rfl rfl (Kd (n + 2) (by omega) i3 B aq23 (bq23) hB (by omega) (by omega) s41 fun xq40 vq40 aq40 bq40 H lxq40 q40 s42 => ?_)
 have b_q40 := Fq q40 (by omega) (by omega)
 refine Nd s42 ⟨_, _, rfl, rfl, rfl, rfl⟩ (.here) (C8 (Pw (A8 s42 Df rfl rfl fun H s43 => C8 (Kx (Al (c := sb (!(decide ((bits .and .i64 vq16 64) = 0)))) s43 (.here) rfl (Aa ((decide ((bits .and .i64 vq16 64) = 0))) (fun h44 => ?_) fun h44 => ?_))))))
 have dh44 := of_decide_eq_true h44
 refine Av (nF h44) (Ar s43 (.here) rfl (Ca (cs' := [si (first / 16), bF, i0, bF, i0, sE, .nl, ss vq23, si vq12, sb (!(decide ((bits .and .i64 vq16 2) = 0))), si vq19, sb (!(decide ((bits .and .i64 vq16 4) = 0))), sE, .nl, i0, bF, sb (!(decide ((bits .and .i64 vq16 128) = 0))), ss vq40, sb (!(decide ((bits .and .i64 vq16 64) = 0))), .nl, i0, bF, .nl, .nl, .nl]) s43 Xq (Ag rfl) rfl (B9 rfl) rfl fun H s45 => Ar s45 (.here) rfl (Ai (B8 s45 ⟨_, rfl, rfl⟩ (D4 (.nl (D4 (.nl (Hw (.nl (.sc (.sc (.nl (.nl (.nl .nil))))))))))) (D5 ⟨Be, (D5 ⟨Be, (Hx ⟨Be, (Fu ⟨Be, ⟨Be, ⟨Be, trivial⟩⟩⟩)⟩)⟩)⟩)) ?_)))
 have e : Dr first B = (⟨(first / 16), false, 0, false, 0, ⟨#[]⟩, ⟨#[]⟩, vq23, vq12, (!(decide ((bits .and .i64 vq16 2) = 0))), vq19, (!(decide ((bits .and .i64 vq16 4) = 0))), ⟨#[]⟩, ⟨#[]⟩, 0, false, (!(decide ((bits .and .i64 vq16 128) = 0))), vq40, (!(decide ((bits .and .i64 vq16 64) = 0))), ⟨#[]⟩, 0, false, [], [], []⟩ : PacketV) := by
  simp only [Cw] at h8
  unfold Dr Ft Gy; simp only [h8, h31, h32, h44, q9, q12, q16, q19, q23, q40, if_true, if_false, or_true, or_false, false_or, true_or, zax, za0, zaa, reduceIte]; simp [B7, h8, h31, h32, h44]
 rw [e]
 rfl
 have dh44 := of_decide_eq_false h44
 refine Aq (nT h44) ?_
 have s47 := s43.pick Df
 refine Kg rfl rfl (Kd (n + 3) (by omega) i3 B aq40 (bq40) hB (by omega) (by omega) s47 fun xq46 vq46 aq46 bq46 H lxq46 q46 s48 => ?_)
 have b_q46 := Fq q46 (by omega) (by omega)
 refine C8 (Nf (A8 s48 Df lxq46 rfl fun H s49 => Ar s49 (.here) rfl (Ca (cs' := [si (first / 16), bF, i0, bF, i0, sE, .nl, ss vq23, si vq12, sb (!(decide ((bits .and .i64 vq16 2) = 0))), si vq19, sb (!(decide ((bits .and .i64 vq16 4) = 0))), sE, .nl, i0, bF, sb (!(decide ((bits .and .i64 vq16 128) = 0))), ss vq40, sb (!(decide ((bits .and .i64 vq16 64) = 0))), xq46, i0, bF, .nl, .nl, .nl]) s49 Z9 (Ag (Ae rfl (Ae rfl (Ae rfl (Ae rfl (Ae rfl (Ae rfl (Ae rfl (Ae rfl (Ae rfl (Ae rfl (Ae rfl (Ae rfl (Ae rfl (Ae rfl (Ae rfl (Ae rfl (Ae rfl (Ae rfl (Ae rfl (Ae lxq46 rfl))))))))))))))))))))) rfl (B9 rfl) rfl fun H s50 => Ar s50 (.here) rfl (Ai (B8 s50 ⟨_, rfl, rfl⟩ (D4 (.nl (D4 (.nl (Hw (.own Df (.sc (.sc (.nl (.nl (.nl .nil))))))))))) (D5 ⟨Be, (D5 ⟨Be, (Hx ⟨(B6 (C2 vq46) (by decide)), (Fu ⟨Be, ⟨Be, ⟨Be, trivial⟩⟩⟩)⟩)⟩)⟩)) ?_))))
 have e : Dr first B = (⟨(first / 16), false, 0, false, 0, ⟨#[]⟩, ⟨#[]⟩, vq23, vq12, (!(decide ((bits .and .i64 vq16 2) = 0))), vq19, (!(decide ((bits .and .i64 vq16 4) = 0))), ⟨#[]⟩, ⟨#[]⟩, 0, false, (!(decide ((bits .and .i64 vq16 128) = 0))), vq40, (!(decide ((bits .and .i64 vq16 64) = 0))), vq46, 0, false, [], [], []⟩ : PacketV) := by
  simp only [Cw] at h8
  unfold Dr Ft Gy; simp only [h8, h31, h32, h44, q9, q12, q16, q19, q23, q40, q46, if_true, if_false, or_true, or_false, false_or, true_or, zax, za0, zaa, reduceIte]; simp [B7, h8, h31, h32, h44]
 rw [e]
 rfl
 have dh31 := of_decide_eq_false h31
 refine Aq (nT h31) (T8 8 rfl (by decide) (Gz rfl (Gz rfl (Lh (C8 (V7 (A8 s30 (.here) rfl rfl fun H s51 => C8 (Aa6 (A8 s51 (.here) rfl rfl fun H s52 => Pt rfl rfl ?_)))))))))
 rw [M4, f101]
 try simp only [Fc, Fb]
 have s54 := s52.pick Df
 refine Kg rfl rfl (Kd (n + 2) (by omega) i3 B aq23 (bq23) hB (by omega) (by omega) s54 fun xq53 vq53 aq53 bq53 H lxq53 q53 s55 => ?_)
 have b_q53 := Fq q53 (by omega) (by omega)
 refine Nd s55 ⟨_, _, rfl, rfl, rfl, rfl⟩ (.here) (C8 (V5 (A8 s55 Df rfl rfl fun H s56 => ?_)))
 have s58 := s56.pick Df
 refine Kg rfl rfl (Kd (n + 3) (by omega) i3 B aq53 (bq53) hB (by omega) (by omega) s58 fun xq57 vq57 aq57 bq57 H lxq57 q57 s59 => ?_)
 have b_q57 := Fq q57 (by omega) (by omega)
 refine C8 (V6 (A8 s59 Df lxq57 rfl fun H s60 => C8 (Pd (Al (c := sb (!(decide ((bits .and .i64 vq16 128) = 0)))) s60 (.here) rfl (De (Aa ((decide ((bits .and .i64 vq16 128) = 0))) (fun h61 => ?_) fun h61 => ?_))))))
 have dh61 := of_decide_eq_true h61
 refine Av (nF h61) (C8 (Kx (Al (c := sb (!(decide ((bits .and .i64 vq16 64) = 0)))) s60 (.here) rfl (Aa ((decide ((bits .and .i64 vq16 64) = 0))) (fun h62 => ?_) fun h62 => ?_))))
 have dh62 := of_decide_eq_true h62
 refine Av (nF h62) (Ar s60 (.here) rfl (Ca (cs' := [si (first / 16), bF, i0, bF, i0, sE, .nl, ss vq23, si vq12, sb (!(decide ((bits .and .i64 vq16 2) = 0))), si vq19, sb (!(decide ((bits .and .i64 vq16 4) = 0))), ss vq53, xq57, si (bits .and .i64 (vq16 / 8) 3), sb (!(decide ((bits .and .i64 vq16 32) = 0))), sb (!(decide ((bits .and .i64 vq16 128) = 0))), sE, sb (!(decide ((bits .and .i64 vq16 64) = 0))), .nl, i0, bF, .nl, .nl, .nl]) s60 Z9 (Ag (Ae rfl (Ae rfl (Ae rfl (Ae rfl (Ae rfl (Ae rfl (Ae rfl (Ae rfl (Ae rfl (Ae rfl (Ae rfl (Ae rfl (Ae rfl (Ae lxq57 rfl))))))))))))))) rfl (B9 rfl) rfl fun H s63 => Ar s63 (.here) rfl (Ai (B8 s63 ⟨_, rfl, rfl⟩ (D4 (.nl (D4 (.own Df (Hw (.nl (.sc (.sc (.nl (.nl (.nl .nil))))))))))) (D5 ⟨Be, (D5 ⟨(B6 (C2 vq57) (by decide)), (Hx ⟨Be, (Fu ⟨Be, ⟨Be, ⟨Be, trivial⟩⟩⟩)⟩)⟩)⟩)) ?_)))
 have e : Dr first B = (⟨(first / 16), false, 0, false, 0, ⟨#[]⟩, ⟨#[]⟩, vq23, vq12, (!(decide ((bits .and .i64 vq16 2) = 0))), vq19, (!(decide ((bits .and .i64 vq16 4) = 0))), vq53, vq57, (bits .and .i64 (vq16 / 8) 3), (!(decide ((bits .and .i64 vq16 32) = 0))), (!(decide ((bits .and .i64 vq16 128) = 0))), ⟨#[]⟩, (!(decide ((bits .and .i64 vq16 64) = 0))), ⟨#[]⟩, 0, false, [], [], []⟩ : PacketV) := by
  simp only [Cw] at h8
  unfold Dr Ft Gy; simp only [h8, h31, h61, h62, q9, q12, q16, q19, q23, q53, q57, if_true, if_false, or_true, or_false, false_or, true_or, zax, za0, zaa, reduceIte]; simp [B7, h8, h31, h61, h62]
 rw [e]
 rfl
 have dh62 := of_decide_eq_false h62
 refine Aq (nT h62) ?_
 have s65 := s60.pick Df
 refine Kg rfl rfl (Kd (n + 3) (by omega) i3 B aq57 (bq57) hB (by omega) (by omega) s65 fun xq64 vq64 aq64 bq64 H lxq64 q64 s66 => ?_)
 have b_q64 := Fq q64 (by omega) (by omega)
 refine C8 (Nf (A8 s66 Df lxq64 rfl fun H s67 => Ar s67 (.here) rfl (Ca (cs' := [si (first / 16), bF, i0, bF, i0, sE, .nl, ss vq23, si vq12, sb (!(decide ((bits .and .i64 vq16 2) = 0))), si vq19, sb (!(decide ((bits .and .i64 vq16 4) = 0))), ss vq53, xq57, si (bits .and .i64 (vq16 / 8) 3), sb (!(decide ((bits .and .i64 vq16 32) = 0))), sb (!(decide ((bits .and .i64 vq16 128) = 0))), sE, sb (!(decide ((bits .and .i64 vq16 64) = 0))), xq64, i0, bF, .nl, .nl, .nl]) s67 zP7 (Ag (Ae rfl (Ae rfl (Ae rfl (Ae rfl (Ae rfl (Ae rfl (Ae rfl (Ae rfl (Ae rfl (Ae rfl (Ae rfl (Ae rfl (Ae rfl (Ae lxq57 (Ae rfl (Ae rfl (Ae rfl (Ae rfl (Ae rfl (Ae lxq64 rfl))))))))))))))))))))) rfl (B9 rfl) rfl fun H s68 => Ar s68 (.here) rfl (Ai (B8 s68 ⟨_, rfl, rfl⟩ (D4 (.nl (D4 (.own Nl (Hw (.own Df (.sc (.sc (.nl (.nl (.nl .nil))))))))))) (D5 ⟨Be, (D5 ⟨(B6 (C2 vq57) (by decide)), (Hx ⟨(B6 (C2 vq64) (by decide)), (Fu ⟨Be, ⟨Be, ⟨Be, trivial⟩⟩⟩)⟩)⟩)⟩)) ?_))))
 have e : Dr first B = (⟨(first / 16), false, 0, false, 0, ⟨#[]⟩, ⟨#[]⟩, vq23, vq12, (!(decide ((bits .and .i64 vq16 2) = 0))), vq19, (!(decide ((bits .and .i64 vq16 4) = 0))), vq53, vq57, (bits .and .i64 (vq16 / 8) 3), (!(decide ((bits .and .i64 vq16 32) = 0))), (!(decide ((bits .and .i64 vq16 128) = 0))), ⟨#[]⟩, (!(decide ((bits .and .i64 vq16 64) = 0))), vq64, 0, false, [], [], []⟩ : PacketV) := by
  simp only [Cw] at h8
  unfold Dr Ft Gy; simp only [h8, h31, h61, h62, q9, q12, q16, q19, q23, q53, q57, q64, if_true, if_false, or_true, or_false, false_or, true_or, zax, za0, zaa, reduceIte]; simp [B7, h8, h31, h61, h62]
 rw [e]
 rfl
 have dh61 := of_decide_eq_false h61
 refine Aq (nT h61) (Pt rfl rfl ?_)
 rw [M4, f101]
 try simp only [Fc, Fb]
 have s70 := s60.pick Df
 refine Kg rfl rfl (Kd (n + 2) (by omega) i3 B aq57 (bq57) hB (by omega) (by omega) s70 fun xq69 vq69 aq69 bq69 H lxq69 q69 s71 => ?_)
 have b_q69 := Fq q69 (by omega) (by omega)
 refine Nd s71 ⟨_, _, rfl, rfl, rfl, rfl⟩ (.here) (C8 (Pw (A8 s71 Df rfl rfl fun H s72 => C8 (Kx (Al (c := sb (!(decide ((bits .and .i64 vq16 64) = 0)))) s72 (.here) rfl (Aa ((decide ((bits .and .i64 vq16 64) = 0))) (fun h73 => ?_) fun h73 => ?_))))))
 have dh73 := of_decide_eq_true h73
 refine Av (nF h73) (Ar s72 (.here) rfl (Ca (cs' := [si (first / 16), bF, i0, bF, i0, sE, .nl, ss vq23, si vq12, sb (!(decide ((bits .and .i64 vq16 2) = 0))), si vq19, sb (!(decide ((bits .and .i64 vq16 4) = 0))), ss vq53, xq57, si (bits .and .i64 (vq16 / 8) 3), sb (!(decide ((bits .and .i64 vq16 32) = 0))), sb (!(decide ((bits .and .i64 vq16 128) = 0))), ss vq69, sb (!(decide ((bits .and .i64 vq16 64) = 0))), .nl, i0, bF, .nl, .nl, .nl]) s72 zP7 (Ag (Ae rfl (Ae rfl (Ae rfl (Ae rfl (Ae rfl (Ae rfl (Ae rfl (Ae rfl (Ae rfl (Ae rfl (Ae rfl (Ae rfl (Ae rfl (Ae lxq57 rfl))))))))))))))) rfl (B9 rfl) rfl fun H s74 => Ar s74 (.here) rfl (Ai (B8 s74 ⟨_, rfl, rfl⟩ (D4 (.nl (D4 (.own Nl (Hw (.nl (.sc (.sc (.nl (.nl (.nl .nil))))))))))) (D5 ⟨Be, (D5 ⟨(B6 (C2 vq57) (by decide)), (Hx ⟨Be, (Fu ⟨Be, ⟨Be, ⟨Be, trivial⟩⟩⟩)⟩)⟩)⟩)) ?_)))
 have e : Dr first B = (⟨(first / 16), false, 0, false, 0, ⟨#[]⟩, ⟨#[]⟩, vq23, vq12, (!(decide ((bits .and .i64 vq16 2) = 0))), vq19, (!(decide ((bits .and .i64 vq16 4) = 0))), vq53, vq57, (bits .and .i64 (vq16 / 8) 3), (!(decide ((bits .and .i64 vq16 32) = 0))), (!(decide ((bits .and .i64 vq16 128) = 0))), vq69, (!(decide ((bits .and .i64 vq16 64) = 0))), ⟨#[]⟩, 0, false, [], [], []⟩ : PacketV) := by
  simp only [Cw] at h8
  unfold Dr Ft Gy; simp only [h8, h31, h61, h73, q9, q12, q16, q19, q23, q53, q57, q69, if_true, if_false, or_true, or_false, false_or, true_or, zax, za0, zaa, reduceIte]; simp [B7, h8, h31, h61, h73]
 rw [e]
 rfl
 have dh73 := of_decide_eq_false h73
 refine Aq (nT h73) ?_
 have s76 := s72.pick Df
 refine Kg rfl rfl (Kd (n + 3) (by omega) i3 B aq69 (bq69) hB (by omega) (by omega) s76 fun xq75 vq75 aq75 bq75 H lxq75 q75 s77 => ?_)
 have b_q75 := Fq q75 (by omega) (by omega)
 refine C8 (Nf (A8 s77 Df lxq75 rfl fun H s78 => Ar s78 (.here) rfl (Ca (cs' := [si (first / 16), bF, i0, bF, i0, sE, .nl, ss vq23, si vq12, sb (!(decide ((bits .and .i64 vq16 2) = 0))), si vq19, sb (!(decide ((bits .and .i64 vq16 4) = 0))), ss vq53, xq57, si (bits .and .i64 (vq16 / 8) 3), sb (!(decide ((bits .and .i64 vq16 32) = 0))), sb (!(decide ((bits .and .i64 vq16 128) = 0))), ss vq69, sb (!(decide ((bits .and .i64 vq16 64) = 0))), xq75, i0, bF, .nl, .nl, .nl]) s78 zP8 (Ag (Ae rfl (Ae rfl (Ae rfl (Ae rfl (Ae rfl (Ae rfl (Ae rfl (Ae rfl (Ae rfl (Ae rfl (Ae rfl (Ae rfl (Ae rfl (Ae lxq57 (Ae rfl (Ae rfl (Ae rfl (Ae rfl (Ae rfl (Ae lxq75 rfl))))))))))))))))))))) rfl (B9 rfl) rfl fun H s79 => Ar s79 (.here) rfl (Ai (B8 s79 ⟨_, rfl, rfl⟩ (D4 (.nl (D4 (.own Xq (Hw (.own Df (.sc (.sc (.nl (.nl (.nl .nil))))))))))) (D5 ⟨Be, (D5 ⟨(B6 (C2 vq57) (by decide)), (Hx ⟨(B6 (C2 vq75) (by decide)), (Fu ⟨Be, ⟨Be, ⟨Be, trivial⟩⟩⟩)⟩)⟩)⟩)) ?_))))
 have e : Dr first B = (⟨(first / 16), false, 0, false, 0, ⟨#[]⟩, ⟨#[]⟩, vq23, vq12, (!(decide ((bits .and .i64 vq16 2) = 0))), vq19, (!(decide ((bits .and .i64 vq16 4) = 0))), vq53, vq57, (bits .and .i64 (vq16 / 8) 3), (!(decide ((bits .and .i64 vq16 32) = 0))), (!(decide ((bits .and .i64 vq16 128) = 0))), vq69, (!(decide ((bits .and .i64 vq16 64) = 0))), vq75, 0, false, [], [], []⟩ : PacketV) := by
  simp only [Cw] at h8
  unfold Dr Ft Gy; simp only [h8, h31, h61, h73, q9, q12, q16, q19, q23, q53, q57, q69, q75, if_true, if_false, or_true, or_false, false_or, true_or, zax, za0, zaa, reduceIte]; simp [B7, h8, h31, h61, h73]
 rw [e]
 rfl
 have dh8 := of_decide_eq_false h8
 refine Av h8 (A2 (Aa ((decide ((first / 16) = 2))) (fun h80 => ?_) fun h80 => ?_))
 have dh80 := of_decide_eq_true h80
 refine Aq h80 ?_
 have s82 := s7.pick Ct
 refine Kg rfl rfl (AeE (n + 9) (by omega) i3 B 0 (false) hB (by omega) (by omega) s82 fun vq81 aq81 bq81 H q81 s83 => ?_)
 have b_q81 := Qw q81 (by omega) (by omega)
 refine A2 (V8 (A8 s83 Ct rfl rfl fun H s84 => ?_))
 have s86 := s84.pick Ct
 refine Kg rfl rfl (AeE (n + 9) (by omega) i3 B aq81 (bq81) hB (by omega) (by omega) s86 fun vq85 aq85 bq85 H q85 s87 => ?_)
 have b_q85 := Qw q85 (by omega) (by omega)
 refine Ro (A8 s87 Ct rfl rfl fun H s88 => Ar s88 (.here) rfl (Ca (cs' := [si (first / 16), bF, i0, bF, i0, sE, .nl, sE, i0, bF, i0, bF, sE, .nl, i0, bF, bF, sE, bF, .nl, si vq85, sb (decide (vq81 = 1)), .nl, .nl, .nl]) s88 Df (Ag rfl) rfl (B9 rfl) rfl fun H s89 => Ar s89 (.here) rfl (Ai (B8 s89 ⟨_, rfl, rfl⟩ (D4 (.nl (D4 (.nl (Hw (.nl (.sc (.sc (.nl (.nl (.nl .nil))))))))))) (D5 ⟨Be, (D5 ⟨Be, (Hx ⟨Be, (Fu ⟨Be, ⟨Be, ⟨Be, trivial⟩⟩⟩)⟩)⟩)⟩)) ?_)))
 have e : Dr first B = (⟨(first / 16), false, 0, false, 0, ⟨#[]⟩, ⟨#[]⟩, ⟨#[]⟩, 0, false, 0, false, ⟨#[]⟩, ⟨#[]⟩, 0, false, false, ⟨#[]⟩, false, ⟨#[]⟩, vq85, (decide (vq81 = 1)), [], [], []⟩ : PacketV) := by
  simp only [Cw] at h8 h80
  unfold Dr Ft Gy; simp only [h8, h80, q81, q85, if_true, if_false, or_true, or_false, false_or, true_or, zax, za0, zaa, reduceIte]; simp [B7, h8, h80]
 rw [e]
 rfl
 have dh80 := of_decide_eq_false h80
 refine Av h80 (A2 (Aa ((decide ((first / 16) = 3))) (fun h90 => ?_) fun h90 => ?_))
 have dh90 := of_decide_eq_true h90
 refine Aq h90 (Gz rfl (Lh (T8 2 rfl (by decide) (Gz rfl (Gz rfl (Lh (V3 (A8 s7 (.here) rfl rfl fun H s91 => Pe (A8 s91 (.here) rfl rfl fun H s92 => gf3 (A8 s92 (.here) rfl rfl fun H s93 => Pt rfl rfl ?_))))))))))
 rw [M4, f101]
 try simp only [Fc, Fb]
 have s95 := s93.pick Ct
 refine Kg rfl rfl (Kd (n + 3) (by omega) i3 B 0 (false) hB (by omega) (by omega) s95 fun xq94 vq94 aq94 bq94 H lxq94 q94 s96 => ?_)
 have b_q94 := Fq q94 (by omega) (by omega)
 refine Nd s96 ⟨_, _, rfl, rfl, rfl, rfl⟩ (.here) (gf5 (A8 s96 Df rfl rfl fun H s97 => Pe (Al (c := si (bits .and .i64 (first / 2) 3)) s97 (.here) rfl (Ec (De (Aa ((decide (0 < (bits .and .i64 (first / 2) 3)))) (fun h98 => ?_) fun h98 => ?_))))))
 have dh98 := of_decide_eq_true h98
 refine Aq h98 ?_
 have s100 := s97.pick Df
 refine Kg rfl rfl (AhT (n + 8) (by omega) i3 B aq94 (bq94) hB (by omega) (by omega) s100 fun vq99 aq99 bq99 H q99 s101 => ?_)
 have b_q99 := Ty q99 (by omega) (by omega)
 refine Iu (A8 s101 Ct rfl rfl fun H s102 => C8 (Pe (Al (c := sb bq99) s102 Ct rfl (B4 (Aa (bq99) (fun h103 => ?_) fun h103 => ?_)))))
 refine Av (nF h103) (Ar s102 (.here) rfl (Ca (cs' := [si (first / 16), sb (!(decide ((bits .and .i64 first 8) = 0))), si (bits .and .i64 (first / 2) 3), sb (!(decide ((bits .and .i64 first 1) = 0))), si vq99, ss vq94, .nl, sE, i0, bF, i0, bF, sE, .nl, i0, bF, bF, sE, bF, .nl, i0, bF, .nl, .nl, .nl]) s102 Nk (Ag rfl) rfl (B9 rfl) rfl fun H s104 => Ar s104 (.here) rfl (Ai (B8 s104 ⟨_, rfl, rfl⟩ (D4 (.nl (D4 (.nl (Hw (.nl (.sc (.sc (.nl (.nl (.nl .nil))))))))))) (D5 ⟨Be, (D5 ⟨Be, (Hx ⟨Be, (Fu ⟨Be, ⟨Be, ⟨Be, trivial⟩⟩⟩)⟩)⟩)⟩)) ?_)))
 have e : Dr first B = (⟨(first / 16), (!(decide ((bits .and .i64 first 8) = 0))), (bits .and .i64 (first / 2) 3), (!(decide ((bits .and .i64 first 1) = 0))), vq99, vq94, ⟨#[]⟩, ⟨#[]⟩, 0, false, 0, false, ⟨#[]⟩, ⟨#[]⟩, 0, false, false, ⟨#[]⟩, false, ⟨#[]⟩, 0, false, [], [], []⟩ : PacketV) := by
  simp only [Cw] at h8 h80 h90 h98
  unfold Dr Ft Gy; simp only [h8, h80, h90, h98, h103, q94, q99, if_true, if_false, or_true, or_false, false_or, true_or, zax, za0, zaa, reduceIte]; simp [B7, h8, h80, h90, h98, h103]
 rw [e]
 rfl
 refine Aq (nT h103) (C8 (V3 (Al (c := si aq99) s102 Ct rfl (G1 aq99 ((B.size : Nat) : Int) rfl rfl (by omega) (by omega) (by omega) ?_))))
 have z105 := zaw (a := B) (b := aq99.toNat) (e := ((B.size : Nat) : Int).toNat)
 refine Bf (cs := [Af (B.extract aq99.toNat ((B.size : Nat) : Int).toNat)]) rfl (Cg s102 fun i106 H s107 => Cb s107 rfl (.sl (.here) rfl (.cons .ro .nil) .nil) (Nu (n + 6) (by omega) (B.extract aq99.toNat ((B.size : Nat) : Int).toNat) (by omega)) (C2 (B.extract aq99.toNat ((B.size : Nat) : Int).toNat)) fun x108 H lx108 s109 => gf6 (A8 s109 Df lx108 rfl fun H s110 => Ar s110 (.here) rfl (Ca (cs' := [si (first / 16), sb (!(decide ((bits .and .i64 first 8) = 0))), si (bits .and .i64 (first / 2) 3), sb (!(decide ((bits .and .i64 first 1) = 0))), si vq99, ss vq94, x108, sE, i0, bF, i0, bF, sE, .nl, i0, bF, bF, sE, bF, .nl, i0, bF, .nl, .nl, .nl]) s110 Xq (Ag (Ae rfl (Ae rfl (Ae rfl (Ae rfl (Ae rfl (Ae rfl (Ae lx108 rfl)))))))) rfl (B9 rfl) rfl fun H s111 => Ar s111 (.here) rfl (Ai (B8 s111 ⟨_, rfl, rfl⟩ (D4 (.own Df (D4 (.nl (Hw (.nl (.sc (.sc (.nl (.nl (.nl .nil))))))))))) (D5 ⟨(B6 (C2 (B.extract aq99.toNat ((B.size : Nat) : Int).toNat)) (by decide)), (D5 ⟨Be, (Hx ⟨Be, (Fu ⟨Be, ⟨Be, ⟨Be, trivial⟩⟩⟩)⟩)⟩)⟩)) ?_))))
 have e : Dr first B = (⟨(first / 16), (!(decide ((bits .and .i64 first 8) = 0))), (bits .and .i64 (first / 2) 3), (!(decide ((bits .and .i64 first 1) = 0))), vq99, vq94, (B.extract aq99.toNat ((B.size : Nat) : Int).toNat), ⟨#[]⟩, 0, false, 0, false, ⟨#[]⟩, ⟨#[]⟩, 0, false, false, ⟨#[]⟩, false, ⟨#[]⟩, 0, false, [], [], []⟩ : PacketV) := by
  simp only [Cw] at h8 h80 h90 h98
  unfold Dr Ft Gy; simp only [h8, h80, h90, h98, h103, q94, q99, if_true, if_false, or_true, or_false, false_or, true_or, zax, za0, zaa, reduceIte]; simp [B7, h8, h80, h90, h98, h103]
 rw [e]
 rfl
 have dh98 := of_decide_eq_false h98
 refine Av h98 (C8 (Pe (Al (c := sb bq94) s97 Df rfl (B4 (Aa (bq94) (fun h112 => ?_) fun h112 => ?_)))))
 refine Av (nF h112) (Ar s97 (.here) rfl (Ca (cs' := [si (first / 16), sb (!(decide ((bits .and .i64 first 8) = 0))), si (bits .and .i64 (first / 2) 3), sb (!(decide ((bits .and .i64 first 1) = 0))), i0, ss vq94, .nl, sE, i0, bF, i0, bF, sE, .nl, i0, bF, bF, sE, bF, .nl, i0, bF, .nl, .nl, .nl]) s97 Nk (Ag rfl) rfl (B9 rfl) rfl fun H s113 => Ar s113 (.here) rfl (Ai (B8 s113 ⟨_, rfl, rfl⟩ (D4 (.nl (D4 (.nl (Hw (.nl (.sc (.sc (.nl (.nl (.nl .nil))))))))))) (D5 ⟨Be, (D5 ⟨Be, (Hx ⟨Be, (Fu ⟨Be, ⟨Be, ⟨Be, trivial⟩⟩⟩)⟩)⟩)⟩)) ?_)))
 have e : Dr first B = (⟨(first / 16), (!(decide ((bits .and .i64 first 8) = 0))), (bits .and .i64 (first / 2) 3), (!(decide ((bits .and .i64 first 1) = 0))), 0, vq94, ⟨#[]⟩, ⟨#[]⟩, 0, false, 0, false, ⟨#[]⟩, ⟨#[]⟩, 0, false, false, ⟨#[]⟩, false, ⟨#[]⟩, 0, false, [], [], []⟩ : PacketV) := by
  simp only [Cw] at h8 h80 h90 h98
  unfold Dr Ft Gy; simp only [h8, h80, h90, h98, h112, q94, if_true, if_false, or_true, or_false, false_or, true_or, zax, za0, zaa, reduceIte]; simp [B7, h8, h80, h90, h98, h112]
 rw [e]
 rfl
 refine Aq (nT h112) (C8 (V3 (Al (c := si aq94) s97 Df rfl (G1 aq94 ((B.size : Nat) : Int) rfl rfl (by omega) (by omega) (by omega) ?_))))
 have z114 := zaw (a := B) (b := aq94.toNat) (e := ((B.size : Nat) : Int).toNat)
 refine Bf (cs := [Af (B.extract aq94.toNat ((B.size : Nat) : Int).toNat)]) rfl (Cg s97 fun i115 H s116 => Cb s116 rfl (.sl (.here) rfl (.cons .ro .nil) .nil) (Nu (n + 6) (by omega) (B.extract aq94.toNat ((B.size : Nat) : Int).toNat) (by omega)) (C2 (B.extract aq94.toNat ((B.size : Nat) : Int).toNat)) fun x117 H lx117 s118 => gf6 (A8 s118 Df lx117 rfl fun H s119 => Ar s119 (.here) rfl (Ca (cs' := [si (first / 16), sb (!(decide ((bits .and .i64 first 8) = 0))), si (bits .and .i64 (first / 2) 3), sb (!(decide ((bits .and .i64 first 1) = 0))), i0, ss vq94, x117, sE, i0, bF, i0, bF, sE, .nl, i0, bF, bF, sE, bF, .nl, i0, bF, .nl, .nl, .nl]) s119 Xq (Ag (Ae rfl (Ae rfl (Ae rfl (Ae rfl (Ae rfl (Ae rfl (Ae lx117 rfl)))))))) rfl (B9 rfl) rfl fun H s120 => Ar s120 (.here) rfl (Ai (B8 s120 ⟨_, rfl, rfl⟩ (D4 (.own Df (D4 (.nl (Hw (.nl (.sc (.sc (.nl (.nl (.nl .nil))))))))))) (D5 ⟨(B6 (C2 (B.extract aq94.toNat ((B.size : Nat) : Int).toNat)) (by decide)), (D5 ⟨Be, (Hx ⟨Be, (Fu ⟨Be, ⟨Be, ⟨Be, trivial⟩⟩⟩)⟩)⟩)⟩)) ?_))))
 have e : Dr first B = (⟨(first / 16), (!(decide ((bits .and .i64 first 8) = 0))), (bits .and .i64 (first / 2) 3), (!(decide ((bits .and .i64 first 1) = 0))), 0, vq94, (B.extract aq94.toNat ((B.size : Nat) : Int).toNat), ⟨#[]⟩, 0, false, 0, false, ⟨#[]⟩, ⟨#[]⟩, 0, false, false, ⟨#[]⟩, false, ⟨#[]⟩, 0, false, [], [], []⟩ : PacketV) := by
  simp only [Cw] at h8 h80 h90 h98
  unfold Dr Ft Gy; simp only [h8, h80, h90, h98, h112, q94, if_true, if_false, or_true, or_false, false_or, true_or, zax, za0, zaa, reduceIte]; simp [B7, h8, h80, h90, h98, h112]
 rw [e]
 rfl
 have dh90 := of_decide_eq_false h90
 refine Av h90 (A2 (De (Aa ((decide ((first / 16) = 12))) (fun h121 => ?_) fun h121 => ?_)))
 have dh121 := of_decide_eq_true h121
 refine Aq h121 (Aq h121 (Ar s7 (.here) rfl (Ca (cs' := [si (first / 16), bF, i0, bF, i0, sE, .nl, sE, i0, bF, i0, bF, sE, .nl, i0, bF, bF, sE, bF, .nl, i0, bF, .nl, .nl, .nl]) s7 Df (Ag rfl) rfl (B9 rfl) rfl fun H s122 => Ar s122 (.here) rfl (Ai (B8 s122 ⟨_, rfl, rfl⟩ (D4 (.nl (D4 (.nl (Hw (.nl (.sc (.sc (.nl (.nl (.nl .nil))))))))))) (D5 ⟨Be, (D5 ⟨Be, (Hx ⟨Be, (Fu ⟨Be, ⟨Be, ⟨Be, trivial⟩⟩⟩)⟩)⟩)⟩)) ?_))))
 have e : Dr first B = (⟨(first / 16), false, 0, false, 0, ⟨#[]⟩, ⟨#[]⟩, ⟨#[]⟩, 0, false, 0, false, ⟨#[]⟩, ⟨#[]⟩, 0, false, false, ⟨#[]⟩, false, ⟨#[]⟩, 0, false, [], [], []⟩ : PacketV) := by
  simp only [Cw] at h8 h80 h90 h121
  unfold Dr Ft Gy; simp only [h8, h80, h90, h121, if_true, if_false, or_true, or_false, false_or, true_or, zax, za0, zaa, reduceIte]; simp [B7, h8, h80, h90, h121]
 rw [e]
 rfl
 have dh121 := of_decide_eq_false h121
 refine Av h121 (A2 (Aa ((decide ((first / 16) = 13))) (fun h123 => ?_) fun h123 => ?_))
 have dh123 := of_decide_eq_true h123
 refine Aq h123 (Aq h123 (Ar s7 (.here) rfl (Ca (cs' := [si (first / 16), bF, i0, bF, i0, sE, .nl, sE, i0, bF, i0, bF, sE, .nl, i0, bF, bF, sE, bF, .nl, i0, bF, .nl, .nl, .nl]) s7 Df (Ag rfl) rfl (B9 rfl) rfl fun H s124 => Ar s124 (.here) rfl (Ai (B8 s124 ⟨_, rfl, rfl⟩ (D4 (.nl (D4 (.nl (Hw (.nl (.sc (.sc (.nl (.nl (.nl .nil))))))))))) (D5 ⟨Be, (D5 ⟨Be, (Hx ⟨Be, (Fu ⟨Be, ⟨Be, ⟨Be, trivial⟩⟩⟩)⟩)⟩)⟩)) ?_))))
 have e : Dr first B = (⟨(first / 16), false, 0, false, 0, ⟨#[]⟩, ⟨#[]⟩, ⟨#[]⟩, 0, false, 0, false, ⟨#[]⟩, ⟨#[]⟩, 0, false, false, ⟨#[]⟩, false, ⟨#[]⟩, 0, false, [], [], []⟩ : PacketV) := by
  simp only [Cw] at h8 h80 h90 h121 h123
  unfold Dr Ft Gy; simp only [h8, h80, h90, h121, h123, if_true, if_false, or_true, or_false, false_or, true_or, zax, za0, zaa, reduceIte]; simp [B7, h8, h80, h90, h121, h123]
 rw [e]
 rfl
 have dh123 := of_decide_eq_false h123
 refine Av h123 (A2 (Aa ((decide ((first / 16) = 14))) (fun h125 => ?_) fun h125 => ?_))
 have dh125 := of_decide_eq_true h125
 refine Aq h125 (Ar s7 (.here) rfl (Ca (cs' := [si (first / 16), bF, i0, bF, i0, sE, .nl, sE, i0, bF, i0, bF, sE, .nl, i0, bF, bF, sE, bF, .nl, i0, bF, .nl, .nl, .nl]) s7 Df (Ag rfl) rfl (B9 rfl) rfl fun H s126 => Ar s126 (.here) rfl (Ai (B8 s126 ⟨_, rfl, rfl⟩ (D4 (.nl (D4 (.nl (Hw (.nl (.sc (.sc (.nl (.nl (.nl .nil))))))))))) (D5 ⟨Be, (D5 ⟨Be, (Hx ⟨Be, (Fu ⟨Be, ⟨Be, ⟨Be, trivial⟩⟩⟩)⟩)⟩)⟩)) ?_)))
 have e : Dr first B = (⟨(first / 16), false, 0, false, 0, ⟨#[]⟩, ⟨#[]⟩, ⟨#[]⟩, 0, false, 0, false, ⟨#[]⟩, ⟨#[]⟩, 0, false, false, ⟨#[]⟩, false, ⟨#[]⟩, 0, false, [], [], []⟩ : PacketV) := by
  simp only [Cw] at h8 h80 h90 h121 h123 h125
  unfold Dr Ft Gy; simp only [h8, h80, h90, h121, h123, h125, if_true, if_false, or_true, or_false, false_or, true_or, zax, za0, zaa, reduceIte]; simp [B7, h8, h80, h90, h121, h123, h125]
 rw [e]
 rfl
 have dh125 := of_decide_eq_false h125
 refine Av h125 ?_
 have s128 := s7.pick Ct
 refine Kg rfl rfl (AhT (n + 8) (by omega) i3 B 0 (false) hB (by omega) (by omega) s128 fun vq127 aq127 bq127 H q127 s129 => ?_)
 have b_q127 := Ty q127 (by omega) (by omega)
 refine Iu (A8 s129 Ct rfl rfl fun H s130 => Pt rfl rfl ?_)
 rw [Aiq, f103]
 have s131 := s130.nl (ty := 56) ⟨_, _, rfl, rfl⟩
 have s132 := s131.nl (ty := 57) ⟨_, _, rfl, rfl⟩
 have s133 := s132.nl (ty := 55) ⟨_, _, rfl, rfl⟩
 have s135a := s133.sel (.cons .here (.cons .here (.cons .here (.cons Ct (.cons (.here) .rest)))))
 refine Wg (n + 1) (by omega) (first / 16) B i3 i5 vq127 hB _ 8 _ aq127 bq127 [] [] [] .nl .nl .nl _ (by omega) (Or.inr (by decide)) (by decide) (by omega) (by omega) rfl rfl rfl s135a fun wq134 cq134 nq134 aq134 bq134 H lwq134 lcq134 lnq134 s135 => Ar s135 Nl rfl (Ca (cs' := [si (first / 16), bF, i0, bF, si vq127, sE, .nl, sE, i0, bF, i0, bF, sE, .nl, i0, bF, bF, sE, bF, .nl, i0, bF, wq134, nq134, cq134]) s135 Xq (Ag (Ae rfl (Ae rfl (Ae rfl (Ae rfl (Ae rfl (Ae rfl (Ae rfl (Ae rfl (Ae rfl (Ae rfl (Ae rfl (Ae rfl (Ae rfl (Ae rfl (Ae rfl (Ae rfl (Ae rfl (Ae rfl (Ae rfl (Ae rfl (Ae rfl (Ae rfl (Ae lwq134 (Ae lnq134 (Ae lcq134 rfl)))))))))))))))))))))))))) rfl (B9 rfl) rfl fun H s136 => Ar s136 (.here) rfl (Ai (B8 s136 ⟨_, rfl, rfl⟩ (D4 (.nl (D4 (.nl (Hw (.nl (.sc (.sc (.own Ct (.own Df (.own Ct .nil))))))))))) (D5 ⟨Be, (D5 ⟨Be, (Hx ⟨Be, (Fu ⟨(B6 (Lr ((Cc (first / 16) B 8 (aq127, bq127) [] [] []).1)) (by decide)), ⟨(B6 (Wl ((Cc (first / 16) B 8 (aq127, bq127) [] [] []).2.2)) (by decide)), ⟨(B6 (Zs ((Cc (first / 16) B 8 (aq127, bq127) [] [] []).2.1)) (by decide)), trivial⟩⟩⟩)⟩)⟩)⟩)) ?_))
 have e : Dr first B = (⟨(first / 16), false, 0, false, vq127, ⟨#[]⟩, ⟨#[]⟩, ⟨#[]⟩, 0, false, 0, false, ⟨#[]⟩, ⟨#[]⟩, 0, false, false, ⟨#[]⟩, false, ⟨#[]⟩, 0, false, ((Cc (first / 16) B 8 (aq127, bq127) [] [] []).1), (Cc (first / 16) B 8 (aq127, bq127) [] [] []).2.2, (Cc (first / 16) B 8 (aq127, bq127) [] [] []).2.1⟩ : PacketV) := by
  simp only [Cw] at h8 h80 h90 h121 h123 h125
  unfold Dr Ft Gy; simp only [h8, h80, h90, h121, h123, h125, q127, if_true, if_false, or_true, or_false, false_or, true_or, zax, za0, zaa, reduceIte]; simp [B7, h8, h80, h90, h121, h123, h125]
 rw [e]
 rfl
end
section
open Go
theorem Ace (n : Nat) (hn : 1048576 < n) (B : ByteArray) (hB : B.size ≤ 1048576) : Bz E0 (n + 6) 59 86 [Af B] = some (.agg (Ap (A1 B))) := by
 rw [At, AlR, f86]
 refine Ce (G := (· = some (.agg (Ap (A1 B))))) ?_
 try simp only [Fc, Fb]
 have s0 : Sep [] [] := B5
 refine Ie s0 fun i1 H s2 => Bf (cs := [si 1, bF, i0, bF, i0, sE, .nl, sE, i0, bF, i0, bF, sE, .nl, i0, bF, bF, sE, bF, .nl, i0, bF, .nl, .nl, .nl]) rfl (Ie s2 fun i3 H s4 => Ca (cs' := [si 1, bF, i0, bF, i0, sE, .nl, sE, i0, bF, i0, bF, sE, .nl, i0, bF, bF, sE, bF, .nl, i0, bF, .nl, .nl, .nl]) s4 (.here) (Ag rfl) rfl (B9 rfl) rfl fun H s5 => ?_)
 obtain ⟨vq6, yq6, oq6, q6⟩ : ∃ w y o, B3 B 0 = (w, y, o) := ⟨_, _, _, rfl⟩
 have bq6 := G5 q6
 refine Ek s5 rfl (.cons .ro (.cons .sc .nil)) (by have h := Ls n (by omega) B 0 (by omega) (by omega); rw [q6] at h; exact h) rfl (Bg (Bg (Bg Ed))) ?_
 rintro _ _ H ⟨_, rfl, ⟨_, rfl, ⟨_, rfl, ⟨rfl, rfl⟩⟩⟩⟩ s7
 simp only [zag] at s7
 refine Bp (v := ss vq6) rfl (Bp (v := si yq6) rfl (Bp (v := sb oq6) rfl (B4 (Aa (oq6) (fun h8 => ?_) fun h8 => ?_))))
 refine Ad (nF h8) (Ad (nF h8) (Pv (Dq (nF h8) (Aa ((vq6.toList == (⟨#[77, 81, 84, 84]⟩ : ByteArray).toList)) (fun h9 => ?_) fun h9 => ?_))))
 refine Ad (nF h9) (Ad (nF h9) (Ad (nF h9) (Cn (Ad (nF h9) (Nt (by omega) (by omega) (Ad (nF h9) (Ec (Dq (nF h9) (Aa ((decide ((((B.size : Nat) : Int) - 2) < yq6))) (fun h10 => ?_) fun h10 => ?_)))))))))
 have dh10 := of_decide_eq_true h10
 refine Aq h10 (Bf (cs := Ep) rfl (Ca (cs' := Ep) s7 Ct (Ag rfl) rfl (B9 rfl) rfl fun H s11 => Ar s11 (.here) rfl (Ai (B8 s11 ⟨_, rfl, rfl⟩ (D4 (.nl (D4 (.nl (Hw (.nl (.sc (.sc (.nl (.nl (.nl .nil))))))))))) (D5 ⟨Be, (D5 ⟨Be, (Hx ⟨Be, (Fu ⟨Be, ⟨Be, ⟨Be, trivial⟩⟩⟩)⟩)⟩)⟩)) ?_)))
 have e : A1 B = (⟨0, false, 0, false, 0, ⟨#[]⟩, ⟨#[]⟩, ⟨#[]⟩, 0, false, 0, false, ⟨#[]⟩, ⟨#[]⟩, 0, false, false, ⟨#[]⟩, false, ⟨#[]⟩, 0, false, [], [], []⟩ : PacketV) := by
  unfold A1 H7 Hv Hu El Ht Gm; simp only [h8, h9, h10, q6, if_true, if_false, or_true, or_false, false_or, true_or, zaa, reduceIte, mqtt, Dv]; (rfl)
 rw [e]
 rfl
 have dh10 := of_decide_eq_false h10
 refine Av h10 ?_
 have w12 := D6 B yq6
 refine G0 (by omega) (by omega) fun _ => Fh (c := su (A7 B yq6)) rfl (Lg (by omega) (by omega) (gf8 (A8 s7 (.here) rfl rfl fun H s13 => Bx (by omega) (by omega) ?_)))
 have w14 := D6 B (yq6 + 1)
 refine G0 (by omega) (by omega) fun _ => Fh (c := su (A7 B (yq6 + 1))) rfl (Lg (by omega) (by omega) (Gz rfl (Ec (gf9 (A8 s13 (.here) rfl rfl fun H s15 => Gz rfl (Ec (Qy (A8 s15 (.here) rfl rfl fun H s16 => T8 8 rfl (by decide) (Gz rfl (V7 (A8 s16 (.here) rfl rfl fun H s17 => Gz rfl (Ec (Aa6 (A8 s17 (.here) rfl rfl fun H s18 => Gz rfl (Ec (Kx (A8 s18 (.here) rfl rfl fun H s19 => Gz rfl (Ec (Pd (A8 s19 (.here) rfl rfl fun H s20 => Bx (by omega) (by omega) ?_))))))))))))))))))))
 obtain ⟨wq21, yq21, oq21, q21⟩ : ∃ w y o, Bo B (yq6 + 2) = (w, y, o) := ⟨_, _, _, rfl⟩
 have bq21 := Gj q21
 refine Ek s20 rfl (.cons .ro (.cons .sc .nil)) (by have h := Qu (n + 4) (by omega) B (yq6 + 2) (by omega) (by omega); rw [q21] at h; exact h) rfl (Bg (Bg (Bg Ed))) ?_
 rintro _ _ H ⟨_, rfl, ⟨_, rfl, ⟨_, rfl, ⟨rfl, rfl⟩⟩⟩⟩ s22
 simp only [zag] at s22
 refine Bp (v := si wq21) rfl (Bp (v := si yq21) rfl (Bp (v := sb oq21) rfl (V4 (A8 s22 (.here) rfl rfl fun H s23 => ?_))))
 obtain ⟨vq24, yq24, oq24, q24⟩ : ∃ w y o, B3 B yq21 = (w, y, o) := ⟨_, _, _, rfl⟩
 have bq24 := G5 q24
 refine Ek s23 rfl (.cons .ro (.cons .sc .nil)) (by have h := Ls n (by omega) B yq21 (by omega) (by omega); rw [q24] at h; exact h) rfl (Bg (Bg (Bg Ed))) ?_
 rintro _ _ H ⟨_, rfl, ⟨_, rfl, ⟨_, rfl, ⟨rfl, rfl⟩⟩⟩⟩ s25
 simp only [zag] at s25
 refine Bp (v := ss vq24) rfl (Bp (v := si yq24) rfl (Bp (v := sb oq24) rfl (gf7 (A8 s25 (.here) rfl rfl fun H s26 => B4 (Aa (oq21) (fun h27 => ?_) fun h27 => ?_)))))
 refine Ad (nF h27) (Ad (nF h27) (B4 (Dq (nF h27) (Aa (oq24) (fun h28 => ?_) fun h28 => ?_))))
 refine Av (nF h28) (Qy (Al (c := .sc (.bool (decide (0 < (bits .and .i64 (A7 B (yq6 + 1)) 4))))) s26 (.here) rfl (De (Aa ((decide (0 < (bits .and .i64 (A7 B (yq6 + 1)) 4)))) (fun h29 => ?_) fun h29 => ?_))))
 have dh29 := of_decide_eq_true h29
 refine Aq h29 ?_
 obtain ⟨vq30, yq30, oq30, q30⟩ : ∃ w y o, B3 B yq24 = (w, y, o) := ⟨_, _, _, rfl⟩
 have bq30 := G5 q30
 refine Ek s26 rfl (.cons .ro (.cons .sc .nil)) (by have h := Ls n (by omega) B yq24 (by omega) (by omega); rw [q30] at h; exact h) rfl (Bg (Bg (Bg Ed))) ?_
 rintro _ _ H ⟨_, rfl, ⟨_, rfl, ⟨_, rfl, ⟨rfl, rfl⟩⟩⟩⟩ s31
 simp only [zag] at s31
 refine Bp (v := ss vq30) rfl (Bp (v := si yq30) rfl (Bp (v := sb oq30) rfl ?_))
 obtain ⟨vq32, yq32, oq32, q32⟩ : ∃ w y o, Bi B yq30 = (w, y, o) := ⟨_, _, _, rfl⟩
 have bq32 := Fw q32
 refine Ek s31 rfl (.cons .ro (.cons .sc .nil)) (by have h := Qt (n + 3) (by omega) B yq30 (by omega) (by omega); rw [q32] at h; exact h) rfl (Kj (ty := 22) rfl (C2 vq32) (Bg (Bg Ed))) ?_
 rintro _ _ H ⟨x33, _, _, lx33, rfl, rfl, ⟨_, rfl, ⟨_, rfl, ⟨rfl, rfl⟩⟩⟩⟩ s34
 simp only [zag, zau] at s34
 refine Bp (v := x33) rfl (Bp (v := si yq32) rfl (Bp (v := sb oq32) rfl (B4 (Aa (oq30) (fun h35 => ?_) fun h35 => ?_))))
 refine Ad (nF h35) (Ad (nF h35) (B4 (Dq (nF h35) (Aa (oq32) (fun h36 => ?_) fun h36 => ?_))))
 refine Av (nF h36) (V5 (A8 s34 Ct rfl rfl fun H s37 => V6 (A8 s37 (.here) lx33 rfl fun H s38 => Pd (Al (c := .sc (.bool (decide (0 < (bits .and .i64 (A7 B (yq6 + 1)) 128))))) s38 (.here) rfl (De (Aa ((decide (0 < (bits .and .i64 (A7 B (yq6 + 1)) 128)))) (fun h39 => ?_) fun h39 => ?_))))))
 have dh39 := of_decide_eq_true h39
 refine Aq h39 ?_
 obtain ⟨vq40, yq40, oq40, q40⟩ : ∃ w y o, B3 B yq32 = (w, y, o) := ⟨_, _, _, rfl⟩
 have bq40 := G5 q40
 refine Ek s38 rfl (.cons .ro (.cons .sc .nil)) (by have h := Ls n (by omega) B yq32 (by omega) (by omega); rw [q40] at h; exact h) rfl (Bg (Bg (Bg Ed))) ?_
 rintro _ _ H ⟨_, rfl, ⟨_, rfl, ⟨_, rfl, ⟨rfl, rfl⟩⟩⟩⟩ s41
 simp only [zag] at s41
 refine Bp (v := ss vq40) rfl (Bp (v := si yq40) rfl (Bp (v := sb oq40) rfl (B4 (Aa (oq40) (fun h42 => ?_) fun h42 => ?_))))
 refine Av (nF h42) (Pw (A8 s41 (.here) rfl rfl fun H s43 => Kx (Al (c := .sc (.bool (decide (0 < (bits .and .i64 (A7 B (yq6 + 1)) 64))))) s43 (.here) rfl (De (Aa ((decide (0 < (bits .and .i64 (A7 B (yq6 + 1)) 64)))) (fun h44 => ?_) fun h44 => ?_)))))
 have dh44 := of_decide_eq_true h44
 refine Aq h44 ?_
 obtain ⟨vq45, yq45, oq45, q45⟩ : ∃ w y o, Bi B yq40 = (w, y, o) := ⟨_, _, _, rfl⟩
 have bq45 := Fw q45
 refine Ek s43 rfl (.cons .ro (.cons .sc .nil)) (by have h := Qt (n + 3) (by omega) B yq40 (by omega) (by omega); rw [q45] at h; exact h) rfl (Kj (ty := 22) rfl (C2 vq45) (Bg (Bg Ed))) ?_
 rintro _ _ H ⟨x46, _, _, lx46, rfl, rfl, ⟨_, rfl, ⟨_, rfl, ⟨rfl, rfl⟩⟩⟩⟩ s47
 simp only [zag, zau] at s47
 refine Bp (v := x46) rfl (Bp (v := si yq45) rfl (Bp (v := sb oq45) rfl (B4 (Aa (oq45) (fun h48 => ?_) fun h48 => ?_))))
 refine Av (nF h48) (Nf (A8 s47 Ct lx46 rfl fun H s49 => Ar s49 (.here) rfl (Ca (cs' := [si 1, bF, i0, bF, i0, sE, .nl, ss vq24, si (A7 B yq6), .sc (.bool (decide (0 < (bits .and .i64 (A7 B (yq6 + 1)) 2)))), si wq21, .sc (.bool (decide (0 < (bits .and .i64 (A7 B (yq6 + 1)) 4)))), ss vq30, x33, si (bits .and .i64 ((A7 B (yq6 + 1)) / 8) 3), .sc (.bool (decide (0 < (bits .and .i64 (A7 B (yq6 + 1)) 32)))), .sc (.bool (decide (0 < (bits .and .i64 (A7 B (yq6 + 1)) 128)))), ss vq40, .sc (.bool (decide (0 < (bits .and .i64 (A7 B (yq6 + 1)) 64)))), x46, i0, bF, .nl, .nl, .nl]) s49 Nk (Ag (Ae rfl (Ae rfl (Ae rfl (Ae rfl (Ae rfl (Ae rfl (Ae rfl (Ae rfl (Ae rfl (Ae rfl (Ae rfl (Ae rfl (Ae rfl (Ae lx33 (Ae rfl (Ae rfl (Ae rfl (Ae rfl (Ae rfl (Ae lx46 rfl))))))))))))))))))))) rfl (B9 rfl) rfl fun H s50 => Ar s50 (.here) rfl (Ai (B8 s50 ⟨_, rfl, rfl⟩ (D4 (.nl (D4 (.own Nk (Hw (.own Df (.sc (.sc (.nl (.nl (.nl .nil))))))))))) (D5 ⟨Be, (D5 ⟨(B6 (C2 vq32) (by decide)), (Hx ⟨(B6 (C2 vq45) (by decide)), (Fu ⟨Be, ⟨Be, ⟨Be, trivial⟩⟩⟩)⟩)⟩)⟩)) ?_))))
 have e : A1 B = (⟨1, false, 0, false, 0, ⟨#[]⟩, ⟨#[]⟩, vq24, (A7 B yq6), (decide (0 < (bits .and .i64 (A7 B (yq6 + 1)) 2))), wq21, (decide (0 < (bits .and .i64 (A7 B (yq6 + 1)) 4))), vq30, vq32, (bits .and .i64 ((A7 B (yq6 + 1)) / 8) 3), (decide (0 < (bits .and .i64 (A7 B (yq6 + 1)) 32))), (decide (0 < (bits .and .i64 (A7 B (yq6 + 1)) 128))), vq40, (decide (0 < (bits .and .i64 (A7 B (yq6 + 1)) 64))), vq45, 0, false, [], [], []⟩ : PacketV) := by
  unfold A1 H7 Hv Hu El Ht Gm; simp only [h8, h9, h10, h27, h28, h29, h35, h36, h39, h42, h44, h48, q6, q21, q24, q30, q32, q40, q45, if_true, if_false, or_true, or_false, false_or, true_or, zaa, reduceIte, mqtt, Dv]; (rfl)
 rw [e]
 rfl
 refine Aq (nT h48) (Bf (cs := Ep) rfl (Ca (cs' := Ep) s47 Nk (Ag rfl) rfl (B9 rfl) rfl fun H s51 => Ar s51 (.here) rfl (Ai (B8 s51 ⟨_, rfl, rfl⟩ (D4 (.nl (D4 (.nl (Hw (.nl (.sc (.sc (.nl (.nl (.nl .nil))))))))))) (D5 ⟨Be, (D5 ⟨Be, (Hx ⟨Be, (Fu ⟨Be, ⟨Be, ⟨Be, trivial⟩⟩⟩)⟩)⟩)⟩)) ?_)))
 have e : A1 B = (⟨0, false, 0, false, 0, ⟨#[]⟩, ⟨#[]⟩, ⟨#[]⟩, 0, false, 0, false, ⟨#[]⟩, ⟨#[]⟩, 0, false, false, ⟨#[]⟩, false, ⟨#[]⟩, 0, false, [], [], []⟩ : PacketV) := by
  unfold A1 H7 Hv Hu El Ht Gm; simp only [h8, h9, h10, h27, h28, h29, h35, h36, h39, h42, h44, h48, q6, q21, q24, q30, q32, q40, q45, if_true, if_false, or_true, or_false, false_or, true_or, zaa, reduceIte, mqtt, Dv]; (rfl)
 rw [e]
 rfl
 have dh44 := of_decide_eq_false h44
 refine Av h44 (Ar s43 (.here) rfl (Ca (cs' := [si 1, bF, i0, bF, i0, sE, .nl, ss vq24, si (A7 B yq6), .sc (.bool (decide (0 < (bits .and .i64 (A7 B (yq6 + 1)) 2)))), si wq21, .sc (.bool (decide (0 < (bits .and .i64 (A7 B (yq6 + 1)) 4)))), ss vq30, x33, si (bits .and .i64 ((A7 B (yq6 + 1)) / 8) 3), .sc (.bool (decide (0 < (bits .and .i64 (A7 B (yq6 + 1)) 32)))), .sc (.bool (decide (0 < (bits .and .i64 (A7 B (yq6 + 1)) 128)))), ss vq40, .sc (.bool (decide (0 < (bits .and .i64 (A7 B (yq6 + 1)) 64)))), .nl, i0, bF, .nl, .nl, .nl]) s43 Df (Ag (Ae rfl (Ae rfl (Ae rfl (Ae rfl (Ae rfl (Ae rfl (Ae rfl (Ae rfl (Ae rfl (Ae rfl (Ae rfl (Ae rfl (Ae rfl (Ae lx33 rfl))))))))))))))) rfl (B9 rfl) rfl fun H s52 => Ar s52 (.here) rfl (Ai (B8 s52 ⟨_, rfl, rfl⟩ (D4 (.nl (D4 (.own Df (Hw (.nl (.sc (.sc (.nl (.nl (.nl .nil))))))))))) (D5 ⟨Be, (D5 ⟨(B6 (C2 vq32) (by decide)), (Hx ⟨Be, (Fu ⟨Be, ⟨Be, ⟨Be, trivial⟩⟩⟩)⟩)⟩)⟩)) ?_)))
 have e : A1 B = (⟨1, false, 0, false, 0, ⟨#[]⟩, ⟨#[]⟩, vq24, (A7 B yq6), (decide (0 < (bits .and .i64 (A7 B (yq6 + 1)) 2))), wq21, (decide (0 < (bits .and .i64 (A7 B (yq6 + 1)) 4))), vq30, vq32, (bits .and .i64 ((A7 B (yq6 + 1)) / 8) 3), (decide (0 < (bits .and .i64 (A7 B (yq6 + 1)) 32))), (decide (0 < (bits .and .i64 (A7 B (yq6 + 1)) 128))), vq40, (decide (0 < (bits .and .i64 (A7 B (yq6 + 1)) 64))), ⟨#[]⟩, 0, false, [], [], []⟩ : PacketV) := by
  unfold A1 H7 Hv Hu El Ht Gm; simp only [h8, h9, h10, h27, h28, h29, h35, h36, h39, h42, h44, q6, q21, q24, q30, q32, q40, if_true, if_false, or_true, or_false, false_or, true_or, zaa, reduceIte, mqtt, Dv]; (rfl)
 rw [e]
 rfl
 refine Aq (nT h42) (Bf (cs := Ep) rfl (Ca (cs' := Ep) s41 Df (Ag rfl) rfl (B9 rfl) rfl fun H s53 => Ar s53 (.here) rfl (Ai (B8 s53 ⟨_, rfl, rfl⟩ (D4 (.nl (D4 (.nl (Hw (.nl (.sc (.sc (.nl (.nl (.nl .nil))))))))))) (D5 ⟨Be, (D5 ⟨Be, (Hx ⟨Be, (Fu ⟨Be, ⟨Be, ⟨Be, trivial⟩⟩⟩)⟩)⟩)⟩)) ?_)))
 have e : A1 B = (⟨0, false, 0, false, 0, ⟨#[]⟩, ⟨#[]⟩, ⟨#[]⟩, 0, false, 0, false, ⟨#[]⟩, ⟨#[]⟩, 0, false, false, ⟨#[]⟩, false, ⟨#[]⟩, 0, false, [], [], []⟩ : PacketV) := by
  unfold A1 H7 Hv Hu El Ht Gm; simp only [h8, h9, h10, h27, h28, h29, h35, h36, h39, h42, q6, q21, q24, q30, q32, q40, if_true, if_false, or_true, or_false, false_or, true_or, zaa, reduceIte, mqtt, Dv]; (rfl)
 rw [e]
 rfl
 have dh39 := of_decide_eq_false h39
 refine Av h39 (Kx (Al (c := .sc (.bool (decide (0 < (bits .and .i64 (A7 B (yq6 + 1)) 64))))) s38 (.here) rfl (De (Aa ((decide (0 < (bits .and .i64 (A7 B (yq6 + 1)) 64)))) (fun h54 => ?_) fun h54 => ?_))))
 have dh54 := of_decide_eq_true h54
 refine Aq h54 ?_
 obtain ⟨vq55, yq55, oq55, q55⟩ : ∃ w y o, Bi B yq32 = (w, y, o) := ⟨_, _, _, rfl⟩
 have bq55 := Fw q55
 refine Ek s38 rfl (.cons .ro (.cons .sc .nil)) (by have h := Qt (n + 3) (by omega) B yq32 (by omega) (by omega); rw [q55] at h; exact h) rfl (Kj (ty := 22) rfl (C2 vq55) (Bg (Bg Ed))) ?_
 rintro _ _ H ⟨x56, _, _, lx56, rfl, rfl, ⟨_, rfl, ⟨_, rfl, ⟨rfl, rfl⟩⟩⟩⟩ s57
 simp only [zag, zau] at s57
 refine Bp (v := x56) rfl (Bp (v := si yq55) rfl (Bp (v := sb oq55) rfl (B4 (Aa (oq55) (fun h58 => ?_) fun h58 => ?_))))
 refine Av (nF h58) (Nf (A8 s57 Ct lx56 rfl fun H s59 => Ar s59 (.here) rfl (Ca (cs' := [si 1, bF, i0, bF, i0, sE, .nl, ss vq24, si (A7 B yq6), .sc (.bool (decide (0 < (bits .and .i64 (A7 B (yq6 + 1)) 2)))), si wq21, .sc (.bool (decide (0 < (bits .and .i64 (A7 B (yq6 + 1)) 4)))), ss vq30, x33, si (bits .and .i64 ((A7 B (yq6 + 1)) / 8) 3), .sc (.bool (decide (0 < (bits .and .i64 (A7 B (yq6 + 1)) 32)))), .sc (.bool (decide (0 < (bits .and .i64 (A7 B (yq6 + 1)) 128)))), sE, .sc (.bool (decide (0 < (bits .and .i64 (A7 B (yq6 + 1)) 64)))), x56, i0, bF, .nl, .nl, .nl]) s59 Nk (Ag (Ae rfl (Ae rfl (Ae rfl (Ae rfl (Ae rfl (Ae rfl (Ae rfl (Ae rfl (Ae rfl (Ae rfl (Ae rfl (Ae rfl (Ae rfl (Ae lx33 (Ae rfl (Ae rfl (Ae rfl (Ae rfl (Ae rfl (Ae lx56 rfl))))))))))))))))))))) rfl (B9 rfl) rfl fun H s60 => Ar s60 (.here) rfl (Ai (B8 s60 ⟨_, rfl, rfl⟩ (D4 (.nl (D4 (.own Nk (Hw (.own Df (.sc (.sc (.nl (.nl (.nl .nil))))))))))) (D5 ⟨Be, (D5 ⟨(B6 (C2 vq32) (by decide)), (Hx ⟨(B6 (C2 vq55) (by decide)), (Fu ⟨Be, ⟨Be, ⟨Be, trivial⟩⟩⟩)⟩)⟩)⟩)) ?_))))
 have e : A1 B = (⟨1, false, 0, false, 0, ⟨#[]⟩, ⟨#[]⟩, vq24, (A7 B yq6), (decide (0 < (bits .and .i64 (A7 B (yq6 + 1)) 2))), wq21, (decide (0 < (bits .and .i64 (A7 B (yq6 + 1)) 4))), vq30, vq32, (bits .and .i64 ((A7 B (yq6 + 1)) / 8) 3), (decide (0 < (bits .and .i64 (A7 B (yq6 + 1)) 32))), (decide (0 < (bits .and .i64 (A7 B (yq6 + 1)) 128))), ⟨#[]⟩, (decide (0 < (bits .and .i64 (A7 B (yq6 + 1)) 64))), vq55, 0, false, [], [], []⟩ : PacketV) := by
  unfold A1 H7 Hv Hu El Ht Gm; simp only [h8, h9, h10, h27, h28, h29, h35, h36, h39, h54, h58, q6, q21, q24, q30, q32, q55, if_true, if_false, or_true, or_false, false_or, true_or, zaa, reduceIte, mqtt, Dv]; (rfl)
 rw [e]
 rfl
 refine Aq (nT h58) (Bf (cs := Ep) rfl (Ca (cs' := Ep) s57 Nk (Ag rfl) rfl (B9 rfl) rfl fun H s61 => Ar s61 (.here) rfl (Ai (B8 s61 ⟨_, rfl, rfl⟩ (D4 (.nl (D4 (.nl (Hw (.nl (.sc (.sc (.nl (.nl (.nl .nil))))))))))) (D5 ⟨Be, (D5 ⟨Be, (Hx ⟨Be, (Fu ⟨Be, ⟨Be, ⟨Be, trivial⟩⟩⟩)⟩)⟩)⟩)) ?_)))
 have e : A1 B = (⟨0, false, 0, false, 0, ⟨#[]⟩, ⟨#[]⟩, ⟨#[]⟩, 0, false, 0, false, ⟨#[]⟩, ⟨#[]⟩, 0, false, false, ⟨#[]⟩, false, ⟨#[]⟩, 0, false, [], [], []⟩ : PacketV) := by
  unfold A1 H7 Hv Hu El Ht Gm; simp only [h8, h9, h10, h27, h28, h29, h35, h36, h39, h54, h58, q6, q21, q24, q30, q32, q55, if_true, if_false, or_true, or_false, false_or, true_or, zaa, reduceIte, mqtt, Dv]; (rfl)
 rw [e]
 rfl
 have dh54 := of_decide_eq_false h54
 refine Av h54 (Ar s38 (.here) rfl (Ca (cs' := [si 1, bF, i0, bF, i0, sE, .nl, ss vq24, si (A7 B yq6), .sc (.bool (decide (0 < (bits .and .i64 (A7 B (yq6 + 1)) 2)))), si wq21, .sc (.bool (decide (0 < (bits .and .i64 (A7 B (yq6 + 1)) 4)))), ss vq30, x33, si (bits .and .i64 ((A7 B (yq6 + 1)) / 8) 3), .sc (.bool (decide (0 < (bits .and .i64 (A7 B (yq6 + 1)) 32)))), .sc (.bool (decide (0 < (bits .and .i64 (A7 B (yq6 + 1)) 128)))), sE, .sc (.bool (decide (0 < (bits .and .i64 (A7 B (yq6 + 1)) 64)))), .nl, i0, bF, .nl, .nl, .nl]) s38 Df (Ag (Ae rfl (Ae rfl (Ae rfl (Ae rfl (Ae rfl (Ae rfl (Ae rfl (Ae rfl (Ae rfl (Ae rfl (Ae rfl (Ae rfl (Ae rfl (Ae lx33 rfl))))))))))))))) rfl (B9 rfl) rfl fun H s62 => Ar s62 (.here) rfl (Ai (B8 s62 ⟨_, rfl, rfl⟩ (D4 (.nl (D4 (.own Df (Hw (.nl (.sc (.sc (.nl (.nl (.nl .nil))))))))))) (D5 ⟨Be, (D5 ⟨(B6 (C2 vq32) (by decide)), (Hx ⟨Be, (Fu ⟨Be, ⟨Be, ⟨Be, trivial⟩⟩⟩)⟩)⟩)⟩)) ?_)))
 have e : A1 B = (⟨1, false, 0, false, 0, ⟨#[]⟩, ⟨#[]⟩, vq24, (A7 B yq6), (decide (0 < (bits .and .i64 (A7 B (yq6 + 1)) 2))), wq21, (decide (0 < (bits .and .i64 (A7 B (yq6 + 1)) 4))), vq30, vq32, (bits .and .i64 ((A7 B (yq6 + 1)) / 8) 3), (decide (0 < (bits .and .i64 (A7 B (yq6 + 1)) 32))), (decide (0 < (bits .and .i64 (A7 B (yq6 + 1)) 128))), ⟨#[]⟩, (decide (0 < (bits .and .i64 (A7 B (yq6 + 1)) 64))), ⟨#[]⟩, 0, false, [], [], []⟩ : PacketV) := by
  unfold A1 H7 Hv Hu El Ht Gm; simp only [h8, h9, h10, h27, h28, h29, h35, h36, h39, h54, q6, q21, q24, q30, q32, if_true, if_false, or_true, or_false, false_or, true_or, zaa, reduceIte, mqtt, Dv]; (rfl)
 rw [e]
 rfl
 refine Aq (nT h36) (Bf (cs := Ep) rfl (Ca (cs' := Ep) s34 Df (Ag rfl) rfl (B9 rfl) rfl fun H s63 => Ar s63 (.here) rfl (Ai (B8 s63 ⟨_, rfl, rfl⟩ (D4 (.nl (D4 (.nl (Hw (.nl (.sc (.sc (.nl (.nl (.nl .nil))))))))))) (D5 ⟨Be, (D5 ⟨Be, (Hx ⟨Be, (Fu ⟨Be, ⟨Be, ⟨Be, trivial⟩⟩⟩)⟩)⟩)⟩)) ?_)))
 have e : A1 B = (⟨0, false, 0, false, 0, ⟨#[]⟩, ⟨#[]⟩, ⟨#[]⟩, 0, false, 0, false, ⟨#[]⟩, ⟨#[]⟩, 0, false, false, ⟨#[]⟩, false, ⟨#[]⟩, 0, false, [], [], []⟩ : PacketV) := by
  unfold A1 H7 Hv Hu El Ht Gm; simp only [h8, h9, h10, h27, h28, h29, h35, h36, q6, q21, q24, q30, q32, if_true, if_false, or_true, or_false, false_or, true_or, zaa, reduceIte, mqtt, Dv]; (rfl)
 rw [e]
 rfl
 refine Ab (nT h35) (Ab (nT h35) (Ef (nT h35) (Aq rfl (Bf (cs := Ep) rfl (Ca (cs' := Ep) s34 Df (Ag rfl) rfl (B9 rfl) rfl fun H s64 => Ar s64 (.here) rfl (Ai (B8 s64 ⟨_, rfl, rfl⟩ (D4 (.nl (D4 (.nl (Hw (.nl (.sc (.sc (.nl (.nl (.nl .nil))))))))))) (D5 ⟨Be, (D5 ⟨Be, (Hx ⟨Be, (Fu ⟨Be, ⟨Be, ⟨Be, trivial⟩⟩⟩)⟩)⟩)⟩)) ?_))))))
 have e : A1 B = (⟨0, false, 0, false, 0, ⟨#[]⟩, ⟨#[]⟩, ⟨#[]⟩, 0, false, 0, false, ⟨#[]⟩, ⟨#[]⟩, 0, false, false, ⟨#[]⟩, false, ⟨#[]⟩, 0, false, [], [], []⟩ : PacketV) := by
  unfold A1 H7 Hv Hu El Ht Gm; simp only [h8, h9, h10, h27, h28, h29, h35, q6, q21, q24, q30, q32, if_true, if_false, or_true, or_false, false_or, true_or, zaa, reduceIte, mqtt, Dv]; (rfl)
 rw [e]
 rfl
 have dh29 := of_decide_eq_false h29
 refine Av h29 (Pd (Al (c := .sc (.bool (decide (0 < (bits .and .i64 (A7 B (yq6 + 1)) 128))))) s26 (.here) rfl (De (Aa ((decide (0 < (bits .and .i64 (A7 B (yq6 + 1)) 128)))) (fun h65 => ?_) fun h65 => ?_))))
 have dh65 := of_decide_eq_true h65
 refine Aq h65 ?_
 obtain ⟨vq66, yq66, oq66, q66⟩ : ∃ w y o, B3 B yq24 = (w, y, o) := ⟨_, _, _, rfl⟩
 have bq66 := G5 q66
 refine Ek s26 rfl (.cons .ro (.cons .sc .nil)) (by have h := Ls n (by omega) B yq24 (by omega) (by omega); rw [q66] at h; exact h) rfl (Bg (Bg (Bg Ed))) ?_
 rintro _ _ H ⟨_, rfl, ⟨_, rfl, ⟨_, rfl, ⟨rfl, rfl⟩⟩⟩⟩ s67
 simp only [zag] at s67
 refine Bp (v := ss vq66) rfl (Bp (v := si yq66) rfl (Bp (v := sb oq66) rfl (B4 (Aa (oq66) (fun h68 => ?_) fun h68 => ?_))))
 refine Av (nF h68) (Pw (A8 s67 (.here) rfl rfl fun H s69 => Kx (Al (c := .sc (.bool (decide (0 < (bits .and .i64 (A7 B (yq6 + 1)) 64))))) s69 (.here) rfl (De (Aa ((decide (0 < (bits .and .i64 (A7 B (yq6 + 1)) 64)))) (fun h70 => ?_) fun h70 => ?_)))))
 have dh70 := of_decide_eq_true h70
 refine Aq h70 ?_
 obtain ⟨vq71, yq71, oq71, q71⟩ : ∃ w y o, Bi B yq66 = (w, y, o) := ⟨_, _, _, rfl⟩
 have bq71 := Fw q71
 refine Ek s69 rfl (.cons .ro (.cons .sc .nil)) (by have h := Qt (n + 3) (by omega) B yq66 (by omega) (by omega); rw [q71] at h; exact h) rfl (Kj (ty := 22) rfl (C2 vq71) (Bg (Bg Ed))) ?_
 rintro _ _ H ⟨x72, _, _, lx72, rfl, rfl, ⟨_, rfl, ⟨_, rfl, ⟨rfl, rfl⟩⟩⟩⟩ s73
 simp only [zag, zau] at s73
 refine Bp (v := x72) rfl (Bp (v := si yq71) rfl (Bp (v := sb oq71) rfl (B4 (Aa (oq71) (fun h74 => ?_) fun h74 => ?_))))
 refine Av (nF h74) (Nf (A8 s73 Ct lx72 rfl fun H s75 => Ar s75 (.here) rfl (Ca (cs' := [si 1, bF, i0, bF, i0, sE, .nl, ss vq24, si (A7 B yq6), .sc (.bool (decide (0 < (bits .and .i64 (A7 B (yq6 + 1)) 2)))), si wq21, .sc (.bool (decide (0 < (bits .and .i64 (A7 B (yq6 + 1)) 4)))), sE, .nl, si (bits .and .i64 ((A7 B (yq6 + 1)) / 8) 3), .sc (.bool (decide (0 < (bits .and .i64 (A7 B (yq6 + 1)) 32)))), .sc (.bool (decide (0 < (bits .and .i64 (A7 B (yq6 + 1)) 128)))), ss vq66, .sc (.bool (decide (0 < (bits .and .i64 (A7 B (yq6 + 1)) 64)))), x72, i0, bF, .nl, .nl, .nl]) s75 Df (Ag (Ae rfl (Ae rfl (Ae rfl (Ae rfl (Ae rfl (Ae rfl (Ae rfl (Ae rfl (Ae rfl (Ae rfl (Ae rfl (Ae rfl (Ae rfl (Ae rfl (Ae rfl (Ae rfl (Ae rfl (Ae rfl (Ae rfl (Ae lx72 rfl))))))))))))))))))))) rfl (B9 rfl) rfl fun H s76 => Ar s76 (.here) rfl (Ai (B8 s76 ⟨_, rfl, rfl⟩ (D4 (.nl (D4 (.nl (Hw (.own Df (.sc (.sc (.nl (.nl (.nl .nil))))))))))) (D5 ⟨Be, (D5 ⟨Be, (Hx ⟨(B6 (C2 vq71) (by decide)), (Fu ⟨Be, ⟨Be, ⟨Be, trivial⟩⟩⟩)⟩)⟩)⟩)) ?_))))
 have e : A1 B = (⟨1, false, 0, false, 0, ⟨#[]⟩, ⟨#[]⟩, vq24, (A7 B yq6), (decide (0 < (bits .and .i64 (A7 B (yq6 + 1)) 2))), wq21, (decide (0 < (bits .and .i64 (A7 B (yq6 + 1)) 4))), ⟨#[]⟩, ⟨#[]⟩, (bits .and .i64 ((A7 B (yq6 + 1)) / 8) 3), (decide (0 < (bits .and .i64 (A7 B (yq6 + 1)) 32))), (decide (0 < (bits .and .i64 (A7 B (yq6 + 1)) 128))), vq66, (decide (0 < (bits .and .i64 (A7 B (yq6 + 1)) 64))), vq71, 0, false, [], [], []⟩ : PacketV) := by
  unfold A1 H7 Hv Hu El Ht Gm; simp only [h8, h9, h10, h27, h28, h29, h65, h68, h70, h74, q6, q21, q24, q66, q71, if_true, if_false, or_true, or_false, false_or, true_or, zaa, reduceIte, mqtt, Dv]; (rfl)
 rw [e]
 rfl
 refine Aq (nT h74) (Bf (cs := Ep) rfl (Ca (cs' := Ep) s73 Df (Ag rfl) rfl (B9 rfl) rfl fun H s77 => Ar s77 (.here) rfl (Ai (B8 s77 ⟨_, rfl, rfl⟩ (D4 (.nl (D4 (.nl (Hw (.nl (.sc (.sc (.nl (.nl (.nl .nil))))))))))) (D5 ⟨Be, (D5 ⟨Be, (Hx ⟨Be, (Fu ⟨Be, ⟨Be, ⟨Be, trivial⟩⟩⟩)⟩)⟩)⟩)) ?_)))
 have e : A1 B = (⟨0, false, 0, false, 0, ⟨#[]⟩, ⟨#[]⟩, ⟨#[]⟩, 0, false, 0, false, ⟨#[]⟩, ⟨#[]⟩, 0, false, false, ⟨#[]⟩, false, ⟨#[]⟩, 0, false, [], [], []⟩ : PacketV) := by
  unfold A1 H7 Hv Hu El Ht Gm; simp only [h8, h9, h10, h27, h28, h29, h65, h68, h70, h74, q6, q21, q24, q66, q71, if_true, if_false, or_true, or_false, false_or, true_or, zaa, reduceIte, mqtt, Dv]; (rfl)
 rw [e]
 rfl
 have dh70 := of_decide_eq_false h70
 refine Av h70 (Ar s69 (.here) rfl (Ca (cs' := [si 1, bF, i0, bF, i0, sE, .nl, ss vq24, si (A7 B yq6), .sc (.bool (decide (0 < (bits .and .i64 (A7 B (yq6 + 1)) 2)))), si wq21, .sc (.bool (decide (0 < (bits .and .i64 (A7 B (yq6 + 1)) 4)))), sE, .nl, si (bits .and .i64 ((A7 B (yq6 + 1)) / 8) 3), .sc (.bool (decide (0 < (bits .and .i64 (A7 B (yq6 + 1)) 32)))), .sc (.bool (decide (0 < (bits .and .i64 (A7 B (yq6 + 1)) 128)))), ss vq66, .sc (.bool (decide (0 < (bits .and .i64 (A7 B (yq6 + 1)) 64)))), .nl, i0, bF, .nl, .nl, .nl]) s69 Ct (Ag rfl) rfl (B9 rfl) rfl fun H s78 => Ar s78 (.here) rfl (Ai (B8 s78 ⟨_, rfl, rfl⟩ (D4 (.nl (D4 (.nl (Hw (.nl (.sc (.sc (.nl (.nl (.nl .nil))))))))))) (D5 ⟨Be, (D5 ⟨Be, (Hx ⟨Be, (Fu ⟨Be, ⟨Be, ⟨Be, trivial⟩⟩⟩)⟩)⟩)⟩)) ?_)))
 have e : A1 B = (⟨1, false, 0, false, 0, ⟨#[]⟩, ⟨#[]⟩, vq24, (A7 B yq6), (decide (0 < (bits .and .i64 (A7 B (yq6 + 1)) 2))), wq21, (decide (0 < (bits .and .i64 (A7 B (yq6 + 1)) 4))), ⟨#[]⟩, ⟨#[]⟩, (bits .and .i64 ((A7 B (yq6 + 1)) / 8) 3), (decide (0 < (bits .and .i64 (A7 B (yq6 + 1)) 32))), (decide (0 < (bits .and .i64 (A7 B (yq6 + 1)) 128))), vq66, (decide (0 < (bits .and .i64 (A7 B (yq6 + 1)) 64))), ⟨#[]⟩, 0, false, [], [], []⟩ : PacketV) := by
  unfold A1 H7 Hv Hu El Ht Gm; simp only [h8, h9, h10, h27, h28, h29, h65, h68, h70, q6, q21, q24, q66, if_true, if_false, or_true, or_false, false_or, true_or, zaa, reduceIte, mqtt, Dv]; (rfl)
 rw [e]
 rfl
 refine Aq (nT h68) (Bf (cs := Ep) rfl (Ca (cs' := Ep) s67 Ct (Ag rfl) rfl (B9 rfl) rfl fun H s79 => Ar s79 (.here) rfl (Ai (B8 s79 ⟨_, rfl, rfl⟩ (D4 (.nl (D4 (.nl (Hw (.nl (.sc (.sc (.nl (.nl (.nl .nil))))))))))) (D5 ⟨Be, (D5 ⟨Be, (Hx ⟨Be, (Fu ⟨Be, ⟨Be, ⟨Be, trivial⟩⟩⟩)⟩)⟩)⟩)) ?_)))
 have e : A1 B = (⟨0, false, 0, false, 0, ⟨#[]⟩, ⟨#[]⟩, ⟨#[]⟩, 0, false, 0, false, ⟨#[]⟩, ⟨#[]⟩, 0, false, false, ⟨#[]⟩, false, ⟨#[]⟩, 0, false, [], [], []⟩ : PacketV) := by
  unfold A1 H7 Hv Hu El Ht Gm; simp only [h8, h9, h10, h27, h28, h29, h65, h68, q6, q21, q24, q66, if_true, if_false, or_true, or_false, false_or, true_or, zaa, reduceIte, mqtt, Dv]; (rfl)
 rw [e]
 rfl
 have dh65 := of_decide_eq_false h65
 refine Av h65 (Kx (Al (c := .sc (.bool (decide (0 < (bits .and .i64 (A7 B (yq6 + 1)) 64))))) s26 (.here) rfl (De (Aa ((decide (0 < (bits .and .i64 (A7 B (yq6 + 1)) 64)))) (fun h80 => ?_) fun h80 => ?_))))
 have dh80 := of_decide_eq_true h80
 refine Aq h80 ?_
 obtain ⟨vq81, yq81, oq81, q81⟩ : ∃ w y o, Bi B yq24 = (w, y, o) := ⟨_, _, _, rfl⟩
 have bq81 := Fw q81
 refine Ek s26 rfl (.cons .ro (.cons .sc .nil)) (by have h := Qt (n + 3) (by omega) B yq24 (by omega) (by omega); rw [q81] at h; exact h) rfl (Kj (ty := 22) rfl (C2 vq81) (Bg (Bg Ed))) ?_
 rintro _ _ H ⟨x82, _, _, lx82, rfl, rfl, ⟨_, rfl, ⟨_, rfl, ⟨rfl, rfl⟩⟩⟩⟩ s83
 simp only [zag, zau] at s83
 refine Bp (v := x82) rfl (Bp (v := si yq81) rfl (Bp (v := sb oq81) rfl (B4 (Aa (oq81) (fun h84 => ?_) fun h84 => ?_))))
 refine Av (nF h84) (Nf (A8 s83 Ct lx82 rfl fun H s85 => Ar s85 (.here) rfl (Ca (cs' := [si 1, bF, i0, bF, i0, sE, .nl, ss vq24, si (A7 B yq6), .sc (.bool (decide (0 < (bits .and .i64 (A7 B (yq6 + 1)) 2)))), si wq21, .sc (.bool (decide (0 < (bits .and .i64 (A7 B (yq6 + 1)) 4)))), sE, .nl, si (bits .and .i64 ((A7 B (yq6 + 1)) / 8) 3), .sc (.bool (decide (0 < (bits .and .i64 (A7 B (yq6 + 1)) 32)))), .sc (.bool (decide (0 < (bits .and .i64 (A7 B (yq6 + 1)) 128)))), sE, .sc (.bool (decide (0 < (bits .and .i64 (A7 B (yq6 + 1)) 64)))), x82, i0, bF, .nl, .nl, .nl]) s85 Df (Ag (Ae rfl (Ae rfl (Ae rfl (Ae rfl (Ae rfl (Ae rfl (Ae rfl (Ae rfl (Ae rfl (Ae rfl (Ae rfl (Ae rfl (Ae rfl (Ae rfl (Ae rfl (Ae rfl (Ae rfl (Ae rfl (Ae rfl (Ae lx82 rfl))))))))))))))))))))) rfl (B9 rfl) rfl fun H s86 => Ar s86 (.here) rfl (Ai (B8 s86 ⟨_, rfl, rfl⟩ (D4 (.nl (D4 (.nl (Hw (.own Df (.sc (.sc (.nl (.nl (.nl .nil))))))))))) (D5 ⟨Be, (D5 ⟨Be, (Hx ⟨(B6 (C2 vq81) (by decide)), (Fu ⟨Be, ⟨Be, ⟨Be, trivial⟩⟩⟩)⟩)⟩)⟩)) ?_))))
 have e : A1 B = (⟨1, false, 0, false, 0, ⟨#[]⟩, ⟨#[]⟩, vq24, (A7 B yq6), (decide (0 < (bits .and .i64 (A7 B (yq6 + 1)) 2))), wq21, (decide (0 < (bits .and .i64 (A7 B (yq6 + 1)) 4))), ⟨#[]⟩, ⟨#[]⟩, (bits .and .i64 ((A7 B (yq6 + 1)) / 8) 3), (decide (0 < (bits .and .i64 (A7 B (yq6 + 1)) 32))), (decide (0 < (bits .and .i64 (A7 B (yq6 + 1)) 128))), ⟨#[]⟩, (decide (0 < (bits .and .i64 (A7 B (yq6 + 1)) 64))), vq81, 0, false, [], [], []⟩ : PacketV) := by
  unfold A1 H7 Hv Hu El Ht Gm; simp only [h8, h9, h10, h27, h28, h29, h65, h80, h84, q6, q21, q24, q81, if_true, if_false, or_true, or_false, false_or, true_or, zaa, reduceIte, mqtt, Dv]; (rfl)
 rw [e]
 rfl
 refine Aq (nT h84) (Bf (cs := Ep) rfl (Ca (cs' := Ep) s83 Df (Ag rfl) rfl (B9 rfl) rfl fun H s87 => Ar s87 (.here) rfl (Ai (B8 s87 ⟨_, rfl, rfl⟩ (D4 (.nl (D4 (.nl (Hw (.nl (.sc (.sc (.nl (.nl (.nl .nil))))))))))) (D5 ⟨Be, (D5 ⟨Be, (Hx ⟨Be, (Fu ⟨Be, ⟨Be, ⟨Be, trivial⟩⟩⟩)⟩)⟩)⟩)) ?_)))
 have e : A1 B = (⟨0, false, 0, false, 0, ⟨#[]⟩, ⟨#[]⟩, ⟨#[]⟩, 0, false, 0, false, ⟨#[]⟩, ⟨#[]⟩, 0, false, false, ⟨#[]⟩, false, ⟨#[]⟩, 0, false, [], [], []⟩ : PacketV) := by
  unfold A1 H7 Hv Hu El Ht Gm; simp only [h8, h9, h10, h27, h28, h29, h65, h80, h84, q6, q21, q24, q81, if_true, if_false, or_true, or_false, false_or, true_or, zaa, reduceIte, mqtt, Dv]; (rfl)
 rw [e]
 rfl
 have dh80 := of_decide_eq_false h80
 refine Av h80 (Ar s26 (.here) rfl (Ca (cs' := [si 1, bF, i0, bF, i0, sE, .nl, ss vq24, si (A7 B yq6), .sc (.bool (decide (0 < (bits .and .i64 (A7 B (yq6 + 1)) 2)))), si wq21, .sc (.bool (decide (0 < (bits .and .i64 (A7 B (yq6 + 1)) 4)))), sE, .nl, si (bits .and .i64 ((A7 B (yq6 + 1)) / 8) 3), .sc (.bool (decide (0 < (bits .and .i64 (A7 B (yq6 + 1)) 32)))), .sc (.bool (decide (0 < (bits .and .i64 (A7 B (yq6 + 1)) 128)))), sE, .sc (.bool (decide (0 < (bits .and .i64 (A7 B (yq6 + 1)) 64)))), .nl, i0, bF, .nl, .nl, .nl]) s26 Ct (Ag rfl) rfl (B9 rfl) rfl fun H s88 => Ar s88 (.here) rfl (Ai (B8 s88 ⟨_, rfl, rfl⟩ (D4 (.nl (D4 (.nl (Hw (.nl (.sc (.sc (.nl (.nl (.nl .nil))))))))))) (D5 ⟨Be, (D5 ⟨Be, (Hx ⟨Be, (Fu ⟨Be, ⟨Be, ⟨Be, trivial⟩⟩⟩)⟩)⟩)⟩)) ?_)))
 have e : A1 B = (⟨1, false, 0, false, 0, ⟨#[]⟩, ⟨#[]⟩, vq24, (A7 B yq6), (decide (0 < (bits .and .i64 (A7 B (yq6 + 1)) 2))), wq21, (decide (0 < (bits .and .i64 (A7 B (yq6 + 1)) 4))), ⟨#[]⟩, ⟨#[]⟩, (bits .and .i64 ((A7 B (yq6 + 1)) / 8) 3), (decide (0 < (bits .and .i64 (A7 B (yq6 + 1)) 32))), (decide (0 < (bits .and .i64 (A7 B (yq6 + 1)) 128))), ⟨#[]⟩, (decide (0 < (bits .and .i64 (A7 B (yq6 + 1)) 64))), ⟨#[]⟩, 0, false, [], [], []⟩ : PacketV) := by
  unfold A1 H7 Hv Hu El Ht Gm; simp only [h8, h9, h10, h27, h28, h29, h65, h80, q6, q21, q24, if_true, if_false, or_true, or_false, false_or, true_or, zaa, reduceIte, mqtt, Dv]; (rfl)
 rw [e]
 rfl
 refine Aq (nT h28) (Bf (cs := Ep) rfl (Ca (cs' := Ep) s26 Ct (Ag rfl) rfl (B9 rfl) rfl fun H s89 => Ar s89 (.here) rfl (Ai (B8 s89 ⟨_, rfl, rfl⟩ (D4 (.nl (D4 (.nl (Hw (.nl (.sc (.sc (.nl (.nl (.nl .nil))))))))))) (D5 ⟨Be, (D5 ⟨Be, (Hx ⟨Be, (Fu ⟨Be, ⟨Be, ⟨Be, trivial⟩⟩⟩)⟩)⟩)⟩)) ?_)))
 have e : A1 B = (⟨0, false, 0, false, 0, ⟨#[]⟩, ⟨#[]⟩, ⟨#[]⟩, 0, false, 0, false, ⟨#[]⟩, ⟨#[]⟩, 0, false, false, ⟨#[]⟩, false, ⟨#[]⟩, 0, false, [], [], []⟩ : PacketV) := by
  unfold A1 H7 Hv Hu El Ht Gm; simp only [h8, h9, h10, h27, h28, q6, q21, q24, if_true, if_false, or_true, or_false, false_or, true_or, zaa, reduceIte, mqtt, Dv]; (rfl)
 rw [e]
 rfl
 refine Ab (nT h27) (Ab (nT h27) (Ef (nT h27) (Aq rfl (Bf (cs := Ep) rfl (Ca (cs' := Ep) s26 Ct (Ag rfl) rfl (B9 rfl) rfl fun H s90 => Ar s90 (.here) rfl (Ai (B8 s90 ⟨_, rfl, rfl⟩ (D4 (.nl (D4 (.nl (Hw (.nl (.sc (.sc (.nl (.nl (.nl .nil))))))))))) (D5 ⟨Be, (D5 ⟨Be, (Hx ⟨Be, (Fu ⟨Be, ⟨Be, ⟨Be, trivial⟩⟩⟩)⟩)⟩)⟩)) ?_))))))
 have e : A1 B = (⟨0, false, 0, false, 0, ⟨#[]⟩, ⟨#[]⟩, ⟨#[]⟩, 0, false, 0, false, ⟨#[]⟩, ⟨#[]⟩, 0, false, false, ⟨#[]⟩, false, ⟨#[]⟩, 0, false, [], [], []⟩ : PacketV) := by
  unfold A1 H7 Hv Hu El Ht Gm; simp only [h8, h9, h10, h27, q6, q21, q24, if_true, if_false, or_true, or_false, false_or, true_or, zaa, reduceIte, mqtt, Dv]; (rfl)
 rw [e]
 rfl
 refine Ab (nT h9) (Ab (nT h9) (Ab (nT h9) (Ab (nT h9) (Ab (nT h9) (Ef (nT h9) (Aq rfl (Bf (cs := Ep) rfl (Ca (cs' := Ep) s7 Ct (Ag rfl) rfl (B9 rfl) rfl fun H s91 => Ar s91 (.here) rfl (Ai (B8 s91 ⟨_, rfl, rfl⟩ (D4 (.nl (D4 (.nl (Hw (.nl (.sc (.sc (.nl (.nl (.nl .nil))))))))))) (D5 ⟨Be, (D5 ⟨Be, (Hx ⟨Be, (Fu ⟨Be, ⟨Be, ⟨Be, trivial⟩⟩⟩)⟩)⟩)⟩)) ?_)))))))))
 have e : A1 B = (⟨0, false, 0, false, 0, ⟨#[]⟩, ⟨#[]⟩, ⟨#[]⟩, 0, false, 0, false, ⟨#[]⟩, ⟨#[]⟩, 0, false, false, ⟨#[]⟩, false, ⟨#[]⟩, 0, false, [], [], []⟩ : PacketV) := by
  unfold A1 H7 Hv Hu El Ht Gm; simp only [h8, h9, q6, if_true, if_false, or_true, or_false, false_or, true_or, zaa, reduceIte, mqtt, Dv]; (rfl)
 rw [e]
 rfl
 refine Ab (nT h8) (Ab (nT h8) (Ef (nT h8) (Ab rfl (Ab rfl (Ab rfl (Ab rfl (Ab rfl (Ef rfl (Aq rfl (Bf (cs := Ep) rfl (Ca (cs' := Ep) s7 Ct (Ag rfl) rfl (B9 rfl) rfl fun H s92 => Ar s92 (.here) rfl (Ai (B8 s92 ⟨_, rfl, rfl⟩ (D4 (.nl (D4 (.nl (Hw (.nl (.sc (.sc (.nl (.nl (.nl .nil))))))))))) (D5 ⟨Be, (D5 ⟨Be, (Hx ⟨Be, (Fu ⟨Be, ⟨Be, ⟨Be, trivial⟩⟩⟩)⟩)⟩)⟩)) ?_))))))))))))
 have e : A1 B = (⟨0, false, 0, false, 0, ⟨#[]⟩, ⟨#[]⟩, ⟨#[]⟩, 0, false, 0, false, ⟨#[]⟩, ⟨#[]⟩, 0, false, false, ⟨#[]⟩, false, ⟨#[]⟩, 0, false, [], [], []⟩ : PacketV) := by
  unfold A1 H7 Hv Hu El Ht Gm; simp only [h8, q6, if_true, if_false, or_true, or_false, false_or, true_or, zaa, reduceIte, mqtt, Dv]; (rfl)
 rw [e]
 rfl
theorem Pj (n : Nat) (hn : 1048576 < n) (t id : Int) (B : ByteArray) (d4 d5 : Nat) (hB : B.size ≤ 1048576) (cs : List Int) : ∀ (f m : Nat) (a : Int) (ws : List WantV) (ns : List ByteArray) (xw xc xn : AV) (H : Ac), f ≤ m → ((B.size : Nat) : Int) - a < f → 0 ≤ a → ((ws.length + ns.length : Nat) : Int) ≤ a ∧ a ≤ ((B.size : Nat) : Int) → Bj xw = true → Bj xc = true → Bj xn = true → Sep H [.own xw 55 (Ci Bn ws), .own xc 57 (Ei cs), .own xn 56 (Ee ns), .blk d4 [.sc (.int .i64 0), .sc (.bool false), .sc (.int .i64 0), .sc (.bool false), .sc (.int .i64 0), .sc (.string (⟨#[]⟩)), .nl, .sc (.string (⟨#[]⟩)), .sc (.int .i64 0), .sc (.bool false), .sc (.int .i64 0), .sc (.bool false), .sc (.string (⟨#[]⟩)), .nl, .sc (.int .i64 0), .sc (.bool false), .sc (.bool false), .sc (.string (⟨#[]⟩)), .sc (.bool false), .nl, .sc (.int .i64 0), .sc (.bool false), .nl, .nl, .nl] true, .blk d5 [.sc (.int .i64 t), .sc (.bool false), .sc (.int .i64 0), .sc (.bool false), .sc (.int .i64 id), .sc (.string (⟨#[]⟩)), .nl, .sc (.string (⟨#[]⟩)), .sc (.int .i64 0), .sc (.bool false), .sc (.int .i64 0), .sc (.bool false), .sc (.string (⟨#[]⟩)), .nl, .sc (.int .i64 0), .sc (.bool false), .sc (.bool false), .sc (.string (⟨#[]⟩)), .sc (.bool false), .nl, .sc (.int .i64 0), .sc (.bool false), xw, xn, xc] true] → Gd (· = some (.agg (Ap (Mv t id cs (C0 t B f a ws ns))))) (Po (PR (n + 6) AV) (n + 6) (fun x H => Bc As E0.tp 59 H x) m (Af B) (.ptr d4 0) (.ptr d5 0) (.sc (.int .i64 a)) H)
 | 0, m, a, ws, ns, xw, xc, xn, H, hm, hM, h0, h1, lxw, lxc, lxn, s0 => by
  exfalso
  omega
 | f + 1, m + 1, a, ws, ns, xw, xc, xn, H, hm, hM, h0, h1, lxw, lxc, lxn, s0 => by
  rw [Po]
  try simp only [Fc, Fb]
  refine Cn (Dd (Aa ((decide (a < ((B.size : Nat) : Int)))) (fun h1 => ?_) fun h1 => ?_))
  have dh1 := of_decide_eq_true h1
  refine Ad h1 (N9 (Ad h1 (Al (c := si t) s0 Nl rfl (Ad h1 (A2 (Ad h1 (Aa ((decide (t = 8))) (fun h2 => ?_) fun h2 => ?_)))))))
  have dh2 := of_decide_eq_true h2
  refine Ab h2 (Ab h2 (Ab h2 (Ad h1 (Ef h2 (Ef h1 (Aq rfl ?_))))))
  obtain ⟨vq3, yq3, oq3, q3⟩ : ∃ w y o, B3 B a = (w, y, o) := ⟨_, _, _, rfl⟩
  have bq3 := G5 q3
  refine Ek s0 rfl (.cons .ro (.cons .sc .nil)) (by have h := Ls (n + 1) (by omega) B a (by omega) (by omega); rw [q3] at h; exact h) rfl (Bg (Bg (Bg Ed))) ?_
  rintro _ _ H ⟨_, rfl, ⟨_, rfl, ⟨_, rfl, ⟨rfl, rfl⟩⟩⟩⟩ s4
  simp only [zag] at s4
  refine Bp (v := ss vq3) rfl (Bp (v := si yq3) rfl (Bp (v := sb oq3) rfl (B4 (Aa (oq3) (fun h5 => ?_) fun h5 => ?_))))
  refine Av (nF h5) (N9 (Al (c := si t) s4 Nl rfl (A2 (Aa ((decide (t = 10))) (fun h6 => ?_) fun h6 => ?_))))
  have dh6 := of_decide_eq_true h6
  refine Aq h6 (K9 (Al (c := xn) s4 Nl rfl (Bf (cs := [ss vq3]) rfl (Cg s4 fun i7 H s8 => Zl s8 Nk (.here) ⟨_, _, rfl, rfl, rfl, rfl⟩ rfl (by omega) fun x9 H lx9 s10 => K9 (Ca (cs' := [si t, bF, i0, bF, si id, sE, .nl, sE, i0, bF, i0, bF, sE, .nl, i0, bF, bF, sE, bF, .nl, i0, bF, xw, x9, xc]) s10 Nl (D8 lx9) rfl (B9 rfl) rfl fun H s11 => ?_)))))
  have e : C0 t B (f + 1) a ws ns = C0 t B f yq3 ws (ns ++ [vq3]) := by
   clear s0 s4 s8 s10 s11
   simp only [Cw] at h1 h2 h6
   (exfalso; omega)
  rw [e]
  have hk := bq3.2.2.2 h5
  exact Pj n hn t id B d4 d5 hB cs f m yq3 ws (ns ++ [vq3]) xw xc x9 _ (by omega) (by omega) (by omega) (by omega) lxw lxc lx9 (s11.sel (.cons Df (.cons Df (.cons Ct (.cons Ct (.cons (.here) .nil))))))
  have dh6 := of_decide_eq_false h6
  refine Av h6 (Cn (A2 (Aa ((decide (yq3 = ((B.size : Nat) : Int)))) (fun h12 => ?_) fun h12 => ?_)))
  have dh12 := of_decide_eq_true h12
  refine Aq h12 (Bf (cs := Ep) rfl (Ca (cs' := Ep) s4 Nk (Ag rfl) rfl (B9 rfl) rfl fun H s13 => Ar s13 (.here) rfl (Ai (B8 s13 ⟨_, rfl, rfl⟩ (D4 (.nl (D4 (.nl (Hw (.nl (.sc (.sc (.nl (.nl (.nl .nil))))))))))) (D5 ⟨Be, (D5 ⟨Be, (Hx ⟨Be, (Fu ⟨Be, ⟨Be, ⟨Be, trivial⟩⟩⟩)⟩)⟩)⟩)) ?_)))
  have e : Mv t id cs (C0 t B (f + 1) a ws ns) = (⟨0, false, 0, false, 0, ⟨#[]⟩, ⟨#[]⟩, ⟨#[]⟩, 0, false, 0, false, ⟨#[]⟩, ⟨#[]⟩, 0, false, false, ⟨#[]⟩, false, ⟨#[]⟩, 0, false, [], [], []⟩ : PacketV) := by
   simp only [Cw] at h1 h2 h6 h12
   rw [C0]; simp only [q3]; simp [Mv, B7, h1, h2, h5, h6, h12]
  rw [e]
  rfl
  have dh12 := of_decide_eq_false h12
  refine Av h12 (Ky (Al (c := xw) s4 Nl rfl ?_))
  have w14 := D6 B yq3
  refine G0 (by omega) (by omega) fun _ => Fh (c := su (A7 B yq3)) rfl (Lg (by omega) (by omega) (Bf (cs := [ss vq3, si (A7 B yq3)]) rfl (Bf (cs := [ss vq3, si (A7 B yq3)]) (K7 (z' := [ss vq3, si (A7 B yq3)]) (Ag rfl) rfl (B9 rfl) rfl (rfl)) (Cg s4 fun i15 H s16 => Zk (cty := [9, 3]) (e := (⟨vq3, (A7 B yq3)⟩ : WantV)) s16 ⟨_, _, rfl, rfl, rfl, rfl⟩ Ct (.here) rfl rfl (.sc (.sc .nil)) (Fu trivial) rfl (by omega) fun x17 H lx17 s18 => Ky (Ca (cs' := [si t, bF, i0, bF, si id, sE, .nl, sE, i0, bF, i0, bF, sE, .nl, i0, bF, bF, sE, bF, .nl, i0, bF, x17, xn, xc]) s18 Nl (D8 lx17) rfl (B9 rfl) rfl fun H s19 => Bx (by omega) (by omega) ?_)))))
  have e : C0 t B (f + 1) a ws ns = C0 t B f (yq3 + 1) (ws ++ [⟨vq3, (A7 B yq3)⟩]) ns := by
   simp only [Cw] at h1 h2 h6 h12
   (rw [C0]; simp only [q3]; simp [h1, h2, h5, h6, h12])
  rw [e]
  have hk := bq3.2.2.2 h5
  exact Pj n hn t id B d4 d5 hB cs f m (yq3 + 1) (ws ++ [⟨vq3, (A7 B yq3)⟩]) ns x17 xc xn _ (by omega) (by omega) (by omega) (by (simp only [zaf, zaq]; omega)) lx17 lxc lxn (s19.sel (.cons Ct (.cons Ct (.cons Ct (.cons Ct (.cons (.here) .nil))))))
  refine Aq (nT h5) (Bf (cs := Ep) rfl (Ca (cs' := Ep) s4 Nk (Ag rfl) rfl (B9 rfl) rfl fun H s20 => Ar s20 (.here) rfl (Ai (B8 s20 ⟨_, rfl, rfl⟩ (D4 (.nl (D4 (.nl (Hw (.nl (.sc (.sc (.nl (.nl (.nl .nil))))))))))) (D5 ⟨Be, (D5 ⟨Be, (Hx ⟨Be, (Fu ⟨Be, ⟨Be, ⟨Be, trivial⟩⟩⟩)⟩)⟩)⟩)) ?_)))
  have e : Mv t id cs (C0 t B (f + 1) a ws ns) = (⟨0, false, 0, false, 0, ⟨#[]⟩, ⟨#[]⟩, ⟨#[]⟩, 0, false, 0, false, ⟨#[]⟩, ⟨#[]⟩, 0, false, false, ⟨#[]⟩, false, ⟨#[]⟩, 0, false, [], [], []⟩ : PacketV) := by
   simp only [Cw] at h1 h2
   rw [C0]; simp only [q3]; simp [Mv, B7, h1, h2, h5]
  rw [e]
  rfl
  have dh2 := of_decide_eq_false h2
  refine Ad h2 (N9 (Ad h2 (Al (c := si t) s0 Nl rfl (Ad h2 (A2 (Ad h1 (Dq h2 (Ef h1 (Aa ((decide (t = 10))) (fun h21 => ?_) fun h21 => ?_)))))))))
  have dh21 := of_decide_eq_true h21
  refine Aq h21 ?_
  obtain ⟨vq22, yq22, oq22, q22⟩ : ∃ w y o, B3 B a = (w, y, o) := ⟨_, _, _, rfl⟩
  have bq22 := G5 q22
  refine Ek s0 rfl (.cons .ro (.cons .sc .nil)) (by have h := Ls (n + 1) (by omega) B a (by omega) (by omega); rw [q22] at h; exact h) rfl (Bg (Bg (Bg Ed))) ?_
  rintro _ _ H ⟨_, rfl, ⟨_, rfl, ⟨_, rfl, ⟨rfl, rfl⟩⟩⟩⟩ s23
  simp only [zag] at s23
  refine Bp (v := ss vq22) rfl (Bp (v := si yq22) rfl (Bp (v := sb oq22) rfl (B4 (Aa (oq22) (fun h24 => ?_) fun h24 => ?_))))
  refine Av (nF h24) (N9 (Al (c := si t) s23 Nl rfl (A2 (Aq h21 (K9 (Al (c := xn) s23 Nl rfl (Bf (cs := [ss vq22]) rfl (Cg s23 fun i25 H s26 => Zl s26 Nk (.here) ⟨_, _, rfl, rfl, rfl, rfl⟩ rfl (by omega) fun x27 H lx27 s28 => K9 (Ca (cs' := [si t, bF, i0, bF, si id, sE, .nl, sE, i0, bF, i0, bF, sE, .nl, i0, bF, bF, sE, bF, .nl, i0, bF, xw, x27, xc]) s28 Nl (D8 lx27) rfl (B9 rfl) rfl fun H s29 => ?_)))))))))
  have e : C0 t B (f + 1) a ws ns = C0 t B f yq22 ws (ns ++ [vq22]) := by
   simp only [Cw] at h1 h2 h21
   (rw [C0]; simp only [q22]; simp [h1, h2, h21, h24])
  rw [e]
  have hk := bq22.2.2.2 h24
  exact Pj n hn t id B d4 d5 hB cs f m yq22 ws (ns ++ [vq22]) xw xc x27 _ (by omega) (by omega) (by omega) (by (simp only [zaf, zaq]; omega)) lxw lxc lx27 (s29.sel (.cons Df (.cons Df (.cons Ct (.cons Ct (.cons (.here) .nil))))))
  refine Aq (nT h24) (Bf (cs := Ep) rfl (Ca (cs' := Ep) s23 Nk (Ag rfl) rfl (B9 rfl) rfl fun H s30 => Ar s30 (.here) rfl (Ai (B8 s30 ⟨_, rfl, rfl⟩ (D4 (.nl (D4 (.nl (Hw (.nl (.sc (.sc (.nl (.nl (.nl .nil))))))))))) (D5 ⟨Be, (D5 ⟨Be, (Hx ⟨Be, (Fu ⟨Be, ⟨Be, ⟨Be, trivial⟩⟩⟩)⟩)⟩)⟩)) ?_)))
  have e : Mv t id cs (C0 t B (f + 1) a ws ns) = (⟨0, false, 0, false, 0, ⟨#[]⟩, ⟨#[]⟩, ⟨#[]⟩, 0, false, 0, false, ⟨#[]⟩, ⟨#[]⟩, 0, false, false, ⟨#[]⟩, false, ⟨#[]⟩, 0, false, [], [], []⟩ : PacketV) := by
   simp only [Cw] at h1 h2 h21
   rw [C0]; simp only [q22]; simp [Mv, B7, h1, h2, h21, h24]
  rw [e]
  rfl
  have dh21 := of_decide_eq_false h21
  refine Av h21 (Ar s0 Nl rfl (Ca (cs' := [si t, bF, i0, bF, si id, sE, .nl, sE, i0, bF, i0, bF, sE, .nl, i0, bF, bF, sE, bF, .nl, i0, bF, xw, xn, xc]) s0 Nk (Ag (Ae rfl (Ae rfl (Ae rfl (Ae rfl (Ae rfl (Ae rfl (Ae rfl (Ae rfl (Ae rfl (Ae rfl (Ae rfl (Ae rfl (Ae rfl (Ae rfl (Ae rfl (Ae rfl (Ae rfl (Ae rfl (Ae rfl (Ae rfl (Ae rfl (Ae rfl (Ae lxw (Ae lxn (Ae lxc rfl)))))))))))))))))))))))))) rfl (B9 rfl) rfl fun H s31 => Ar s31 (.here) rfl (Ai (B8 s31 ⟨_, rfl, rfl⟩ (D4 (.nl (D4 (.nl (Hw (.nl (.sc (.sc (.own Ct (.own Df (.own Ct .nil))))))))))) (D5 ⟨Be, (D5 ⟨Be, (Hx ⟨Be, (Fu ⟨(B6 (Lr ws) (by decide)), ⟨(B6 (Wl ns) (by decide)), ⟨(B6 (Zs cs) (by decide)), trivial⟩⟩⟩)⟩)⟩)⟩)) ?_)))
  have e : Mv t id cs (C0 t B (f + 1) a ws ns) = (⟨t, false, 0, false, id, ⟨#[]⟩, ⟨#[]⟩, ⟨#[]⟩, 0, false, 0, false, ⟨#[]⟩, ⟨#[]⟩, 0, false, false, ⟨#[]⟩, false, ⟨#[]⟩, 0, false, ws, ns, cs⟩ : PacketV) := by
   simp only [Cw] at h1 h2 h21
   rw [C0]; simp [Mv, B7, h1, h2, h21]
  rw [e]
  rfl
  have dh1 := of_decide_eq_false h1
  refine Ab h1 (Ab h1 (Ab h1 (Ab h1 (Dj (Dj (Dj (Ab h1 (Dq h1 (Av rfl (Ar s0 Nl rfl (Ca (cs' := [si t, bF, i0, bF, si id, sE, .nl, sE, i0, bF, i0, bF, sE, .nl, i0, bF, bF, sE, bF, .nl, i0, bF, xw, xn, xc]) s0 Nk (Ag (Ae rfl (Ae rfl (Ae rfl (Ae rfl (Ae rfl (Ae rfl (Ae rfl (Ae rfl (Ae rfl (Ae rfl (Ae rfl (Ae rfl (Ae rfl (Ae rfl (Ae rfl (Ae rfl (Ae rfl (Ae rfl (Ae rfl (Ae rfl (Ae rfl (Ae rfl (Ae lxw (Ae lxn (Ae lxc rfl)))))))))))))))))))))))))) rfl (B9 rfl) rfl fun H s32 => Ar s32 (.here) rfl (Ai (B8 s32 ⟨_, rfl, rfl⟩ (D4 (.nl (D4 (.nl (Hw (.nl (.sc (.sc (.own Ct (.own Df (.own Ct .nil))))))))))) (D5 ⟨Be, (D5 ⟨Be, (Hx ⟨Be, (Fu ⟨(B6 (Lr ws) (by decide)), ⟨(B6 (Wl ns) (by decide)), ⟨(B6 (Zs cs) (by decide)), trivial⟩⟩⟩)⟩)⟩)⟩)) ?_))))))))))))
  have e : Mv t id cs (C0 t B (f + 1) a ws ns) = (⟨t, false, 0, false, id, ⟨#[]⟩, ⟨#[]⟩, ⟨#[]⟩, 0, false, 0, false, ⟨#[]⟩, ⟨#[]⟩, 0, false, false, ⟨#[]⟩, false, ⟨#[]⟩, 0, false, ws, ns, cs⟩ : PacketV) := by
   simp only [Cw] at h1
   rw [C0]; simp [Mv, B7, h1]
  rw [e]
  rfl
theorem U8 (n : Nat) (hn : 1048576 < n) (t id : Int) (B : ByteArray) (d4 d5 : Nat) (hB : B.size ≤ 1048576) (a : Int) (ha : 0 ≤ a ∧ a ≤ ((B.size : Nat) : Int)) : ∀ (f m : Nat) (i : Int) (cs : List Int) (xc : AV) (H : Ac), f ≤ m → ((B.size : Nat) : Int) - i < f → 0 ≤ i → ((cs.length : Nat) : Int) ≤ i ∧ i ≤ ((B.size : Nat) : Int) → Bj xc = true → Sep H [.own xc 57 (Ei cs), .blk d4 [.sc (.int .i64 0), .sc (.bool false), .sc (.int .i64 0), .sc (.bool false), .sc (.int .i64 0), .sc (.string (⟨#[]⟩)), .nl, .sc (.string (⟨#[]⟩)), .sc (.int .i64 0), .sc (.bool false), .sc (.int .i64 0), .sc (.bool false), .sc (.string (⟨#[]⟩)), .nl, .sc (.int .i64 0), .sc (.bool false), .sc (.bool false), .sc (.string (⟨#[]⟩)), .sc (.bool false), .nl, .sc (.int .i64 0), .sc (.bool false), .nl, .nl, .nl] true, .blk d5 [.sc (.int .i64 t), .sc (.bool false), .sc (.int .i64 0), .sc (.bool false), .sc (.int .i64 id), .sc (.string (⟨#[]⟩)), .nl, .sc (.string (⟨#[]⟩)), .sc (.int .i64 0), .sc (.bool false), .sc (.int .i64 0), .sc (.bool false), .sc (.string (⟨#[]⟩)), .nl, .sc (.int .i64 0), .sc (.bool false), .sc (.bool false), .sc (.string (⟨#[]⟩)), .sc (.bool false), .nl, .sc (.int .i64 0), .sc (.bool false), .nl, .nl, xc] true] → Gd (· = some (.agg (Ap (Mv t id (Gq B f i cs) (C0 t B (B.size + 1) a [] []))))) (Pp (PR (n + 6) AV) (n + 6) (fun x H => Bc As E0.tp 59 H x) m (Af B) (.ptr d4 0) (.ptr d5 0) (.sc (.int .i64 a)) (.sc (.int .i64 i)) H)
 | 0, m, i, cs, xc, H, hm, hM, h0, h1, lxc, s0 => by
  exfalso
  omega
 | f + 1, m + 1, i, cs, xc, H, hm, hM, h0, h1, lxc, s0 => by
  rw [Pp]
  try simp only [Fc, Fb]
  refine Cn (Dd (Aa ((decide (i < ((B.size : Nat) : Int)))) (fun h1 => ?_) fun h1 => ?_))
  have dh1 := of_decide_eq_true h1
  refine Aq h1 (La (Al (c := xc) s0 Df rfl ?_))
  have w2 := D6 B i
  refine G0 (by omega) (by omega) fun _ => Fh (c := su (A7 B i)) rfl (Lg (by omega) (by omega) (Bf (cs := [si (A7 B i)]) rfl (Cg s0 fun i3 H s4 => AcM s4 Ct (.here) ⟨_, _, rfl, rfl, rfl, rfl⟩ rfl (by omega) fun x5 H lx5 s6 => La (A8 s6 Df lx5 rfl fun H s7 => Bx (by omega) (by omega) ?_))))
  have e : Gq B (f + 1) i cs = Gq B f (i + 1) (cs ++ [(A7 B i)]) := by
   simp only [Cw] at h1
   rw [Gq]; simp [h1]
  rw [e]
  exact U8 n hn t id B d4 d5 hB a ha f m (i + 1) (cs ++ [(A7 B i)]) x5 _ (by omega) (by omega) (by omega) (by (simp only [zaf, zaq]; omega)) lx5 (s7.sel (.cons Ct (.cons Ct (.cons (.here) .nil))))
  have dh1 := of_decide_eq_false h1
  refine Av h1 ?_
  have e : Gq B (f + 1) i cs = cs := by
   simp only [Cw] at h1
   rw [Gq]; simp [h1]
  rw [e]
  have s8 := s0.nl (ty := 56) ⟨_, _, rfl, rfl⟩
  have s9 := s8.nl (ty := 55) ⟨_, _, rfl, rfl⟩
  exact Pj n hn t id B d4 d5 hB cs (B.size + 1) _ a [] [] .nl xc .nl _ (by omega) (by omega) (by omega) (by omega) rfl lxc rfl (s9.sel (.cons (.here) (.cons Ct (.cons (.here) (.cons (.here) (.cons (.here) .nil))))))
theorem Ake (n : Nat) (hn : 1048576 < n) (first : Int) (B : ByteArray) (hf : 0 ≤ first ∧ first < 256) (hB : B.size ≤ 1048576) : Bz E0 (n + 7) 59 63 [.sc (.int .i64 first), Af B] = some (.agg (Ap (Dm first B))) := by
 rw [At, Al6, f63]
 refine Ce (G := (· = some (.agg (Ap (Dm first B))))) ?_
 try simp only [Fc, Fb]
 have s0 : Sep [] [] := B5
 refine Ie s0 fun i1 H s2 => Ns (by omega) (by omega) (by decide) (Bf (cs := [si (first / 16), bF, i0, bF, i0, sE, .nl, sE, i0, bF, i0, bF, sE, .nl, i0, bF, bF, sE, bF, .nl, i0, bF, .nl, .nl, .nl]) rfl (Ie s2 fun i3 H s4 => Ca (cs' := [si (first / 16), bF, i0, bF, i0, sE, .nl, sE, i0, bF, i0, bF, sE, .nl, i0, bF, bF, sE, bF, .nl, i0, bF, .nl, .nl, .nl]) s4 (.here) (Ag rfl) rfl (B9 rfl) rfl fun H s5 => N9 (Al (c := si (first / 16)) s5 (.here) rfl (A2 (Aa ((decide ((first / 16) = 1))) (fun h6 => ?_) fun h6 => ?_)))))
 have dh6 := of_decide_eq_true h6
 refine Aq h6 (Se s5 rfl (.cons .ro .nil) (Ace n (by omega) B hB) ⟨_, rfl, rfl⟩ (Ki _) ?_)
 rintro _ _ H ⟨x7, x8, x9, x10, x11, x12, lx7, lx8, lx9, lx10, lx11, lx12, rfl, rfl⟩ s13
 simp only [zag, zau] at s13
 refine Ca (cs' := [si ((A1 B).fType), .sc (.bool (A1 B).fDup), si ((A1 B).fQos), .sc (.bool (A1 B).fRetain), si ((A1 B).fId), ss ((A1 B).fTopic), x7, ss ((A1 B).fClient), si ((A1 B).fLevel), .sc (.bool (A1 B).fClean), si ((A1 B).fKeep), .sc (.bool (A1 B).fHasWill), ss ((A1 B).fWTopic), x8, si ((A1 B).fWQos), .sc (.bool (A1 B).fWRetain), .sc (.bool (A1 B).fHasUser), ss ((A1 B).fUser), .sc (.bool (A1 B).fHasPass), x9, si ((A1 B).fCode), .sc (.bool (A1 B).fPresent), x10, x11, x12]) s13 zP7 (Ag (Ae rfl (Ae rfl (Ae rfl (Ae rfl (Ae rfl (Ae rfl (Ae lx7 (Ae rfl (Ae rfl (Ae rfl (Ae rfl (Ae rfl (Ae rfl (Ae lx8 (Ae rfl (Ae rfl (Ae rfl (Ae rfl (Ae rfl (Ae lx9 (Ae rfl (Ae rfl (Ae lx10 (Ae lx11 (Ae lx12 rfl)))))))))))))))))))))))))) rfl (B9 rfl) rfl fun H s14 => Ar s14 (.here) rfl (Ai (B8 s14 ⟨_, rfl, rfl⟩ (D4 (.own Z9 (D4 (.own Xq (Hw (.own Nl (.sc (.sc (.own Nk (.own Df (.own Ct .nil))))))))))) (D5 ⟨(B6 (C2 ((A1 B).fBody)) (by decide)), (D5 ⟨(B6 (C2 ((A1 B).fWBody)) (by decide)), (Hx ⟨(B6 (C2 ((A1 B).fPass)) (by decide)), (Fu ⟨(B6 (Lr ((A1 B).fWants)) (by decide)), ⟨(B6 (Wl ((A1 B).fNames)) (by decide)), ⟨(B6 (Zs ((A1 B).fCodes)) (by decide)), trivial⟩⟩⟩)⟩)⟩)⟩)) ?_)
 have e : Dm first B = (⟨(A1 B).fType, (A1 B).fDup, (A1 B).fQos, (A1 B).fRetain, (A1 B).fId, (A1 B).fTopic, (A1 B).fBody, (A1 B).fClient, (A1 B).fLevel, (A1 B).fClean, (A1 B).fKeep, (A1 B).fHasWill, (A1 B).fWTopic, (A1 B).fWBody, (A1 B).fWQos, (A1 B).fWRetain, (A1 B).fHasUser, (A1 B).fUser, (A1 B).fHasPass, (A1 B).fPass, (A1 B).fCode, (A1 B).fPresent, ((A1 B).fWants), (A1 B).fNames, (A1 B).fCodes⟩ : PacketV) := by
  simp only [Cw] at h6
  unfold Dm H8 F5 Lw; ((simp only [h6, if_true, if_false, or_true, or_false, false_or, true_or, zaa, reduceIte, and_true, and_false, true_and, false_and, Dv]; done))
 rw [e]
 rfl
 have dh6 := of_decide_eq_false h6
 refine Av h6 (N9 (Al (c := si (first / 16)) s5 (.here) rfl (A2 (Aa ((decide ((first / 16) = 2))) (fun h15 => ?_) fun h15 => ?_))))
 have dh15 := of_decide_eq_true h15
 refine Ad h15 (Ad h15 (Cn (Ad h15 (A2 (Ef h15 (Aa ((decide (((B.size : Nat) : Int) = 2))) (fun h16 => ?_) fun h16 => ?_))))))
 have dh16 := of_decide_eq_true h16
 refine Aq h16 ?_
 have w17 := D6 B 0
 refine G0 (by omega) (by omega) fun _ => Fh (c := su (A7 B 0)) rfl (Q2 (v := sb ((A7 B 0) == 1)) (fun k => rfl) (V8 (A8 s5 (.here) rfl rfl fun H s18 => ?_)))
 have w19 := D6 B 1
 refine G0 (by omega) (by omega) fun _ => Fh (c := su (A7 B 1)) rfl (Lg (by omega) (by omega) (Ro (A8 s18 (.here) rfl rfl fun H s20 => Ar s20 (.here) rfl (Ca (cs' := [si (first / 16), bF, i0, bF, i0, sE, .nl, sE, i0, bF, i0, bF, sE, .nl, i0, bF, bF, sE, bF, .nl, si (A7 B 1), sb ((A7 B 0) == 1), .nl, .nl, .nl]) s20 Ct (Ag rfl) rfl (B9 rfl) rfl fun H s21 => Ar s21 (.here) rfl (Ai (B8 s21 ⟨_, rfl, rfl⟩ (D4 (.nl (D4 (.nl (Hw (.nl (.sc (.sc (.nl (.nl (.nl .nil))))))))))) (D5 ⟨Be, (D5 ⟨Be, (Hx ⟨Be, (Fu ⟨Be, ⟨Be, ⟨Be, trivial⟩⟩⟩)⟩)⟩)⟩)) ?_)))))
 have e : Dm first B = (⟨(first / 16), false, 0, false, 0, ⟨#[]⟩, ⟨#[]⟩, ⟨#[]⟩, 0, false, 0, false, ⟨#[]⟩, ⟨#[]⟩, 0, false, false, ⟨#[]⟩, false, ⟨#[]⟩, (A7 B 1), ((A7 B 0) == 1), [], [], []⟩ : PacketV) := by
  simp only [Cw] at h6 h15 h16
  unfold Dm H8 F5 Lw; ((simp only [h6, h15, h16, if_true, if_false, or_true, or_false, false_or, true_or, zaa, reduceIte, and_true, and_false, true_and, false_and, Dv]; rfl))
 rw [e]
 rfl
 have dh16 := of_decide_eq_false h16
 refine Av h16 (N9 (Al (c := si (first / 16)) s5 (.here) rfl (A2 (Aa ((decide ((first / 16) = 3))) (fun h22 => ?_) fun h22 => ?_))))
 have dh22 := of_decide_eq_true h22
 refine Aq h22 (Gz rfl (Ec (V3 (A8 s5 (.here) rfl rfl fun H s23 => T8 2 rfl (by decide) (Gz rfl (Pe (A8 s23 (.here) rfl rfl fun H s24 => Gz rfl (Ec (gf3 (A8 s24 (.here) rfl rfl fun H s25 => ?_))))))))))
 obtain ⟨vq26, yq26, oq26, q26⟩ : ∃ w y o, B3 B 0 = (w, y, o) := ⟨_, _, _, rfl⟩
 have bq26 := G5 q26
 refine Ek s25 rfl (.cons .ro (.cons .sc .nil)) (by have h := Ls (n + 1) (by omega) B 0 (by omega) (by omega); rw [q26] at h; exact h) rfl (Bg (Bg (Bg Ed))) ?_
 rintro _ _ H ⟨_, rfl, ⟨_, rfl, ⟨_, rfl, ⟨rfl, rfl⟩⟩⟩⟩ s27
 simp only [zag] at s27
 refine Bp (v := ss vq26) rfl (Bp (v := si yq26) rfl (Bp (v := sb oq26) rfl (B4 (Aa (oq26) (fun h28 => ?_) fun h28 => ?_))))
 refine Av (nF h28) (gf5 (A8 s27 (.here) rfl rfl fun H s29 => Pe (Al (c := si (bits .and .i64 (first / 2) 3)) s29 (.here) rfl (Ec (De (Aa ((decide (0 < (bits .and .i64 (first / 2) 3)))) (fun h30 => ?_) fun h30 => ?_))))))
 have dh30 := of_decide_eq_true h30
 refine Aq h30 ?_
 obtain ⟨wq31, yq31, oq31, q31⟩ : ∃ w y o, Bo B yq26 = (w, y, o) := ⟨_, _, _, rfl⟩
 have bq31 := Gj q31
 refine Ek s29 rfl (.cons .ro (.cons .sc .nil)) (by have h := Qu (n + 5) (by omega) B yq26 (by omega) (by omega); rw [q31] at h; exact h) rfl (Bg (Bg (Bg Ed))) ?_
 rintro _ _ H ⟨_, rfl, ⟨_, rfl, ⟨_, rfl, ⟨rfl, rfl⟩⟩⟩⟩ s32
 simp only [zag] at s32
 refine Bp (v := si wq31) rfl (Bp (v := si yq31) rfl (Bp (v := sb oq31) rfl (B4 (Aa (oq31) (fun h33 => ?_) fun h33 => ?_))))
 refine Av (nF h33) (Iu (A8 s32 (.here) rfl rfl fun H s34 => G1 yq31 ((B.size : Nat) : Int) rfl rfl (by omega) (by omega) (by omega) ?_))
 have z35 := zaw (a := B) (b := yq31.toNat) (e := ((B.size : Nat) : Int).toNat)
 refine Jr s34 (by omega) fun x36 H lx36 s37 => gf6 (A8 s37 Ct lx36 rfl fun H s38 => Ar s38 (.here) rfl (Ca (cs' := [si (first / 16), sb (decide (0 < (bits .and .i64 first 8))), si (bits .and .i64 (first / 2) 3), sb (decide (0 < (bits .and .i64 first 1))), si wq31, ss vq26, x36, sE, i0, bF, i0, bF, sE, .nl, i0, bF, bF, sE, bF, .nl, i0, bF, .nl, .nl, .nl]) s38 Df (Ag (Ae rfl (Ae rfl (Ae rfl (Ae rfl (Ae rfl (Ae rfl (Ae lx36 rfl)))))))) rfl (B9 rfl) rfl fun H s39 => Ar s39 (.here) rfl (Ai (B8 s39 ⟨_, rfl, rfl⟩ (D4 (.own Df (D4 (.nl (Hw (.nl (.sc (.sc (.nl (.nl (.nl .nil))))))))))) (D5 ⟨(B6 (C2 (B.extract yq31.toNat ((B.size : Nat) : Int).toNat)) (by decide)), (D5 ⟨Be, (Hx ⟨Be, (Fu ⟨Be, ⟨Be, ⟨Be, trivial⟩⟩⟩)⟩)⟩)⟩)) ?_)))
 have e : Dm first B = (⟨(first / 16), (decide (0 < (bits .and .i64 first 8))), (bits .and .i64 (first / 2) 3), (decide (0 < (bits .and .i64 first 1))), wq31, vq26, (B.extract yq31.toNat ((B.size : Nat) : Int).toNat), ⟨#[]⟩, 0, false, 0, false, ⟨#[]⟩, ⟨#[]⟩, 0, false, false, ⟨#[]⟩, false, ⟨#[]⟩, 0, false, [], [], []⟩ : PacketV) := by
  clear s0 s2 s4 s5 s23 s24 s25 s27 s29 s32 s34 s37 s38 s39
  simp only [Cw] at h6 h15 h16 h22 h30
  unfold Dm H8 F5 Lw; ((simp only [h6, h15, h16, h22, h30, h28, h33, q26, q31, if_true, if_false, or_true, or_false, false_or, true_or, zaa, reduceIte, and_true, and_false, true_and, false_and, Dv]; simp [B7, h6, h15, h16, h22, h30, h28, h33]; omega))
 rw [e]
 rfl
 refine Aq (nT h33) (Bf (cs := Ep) rfl (Ca (cs' := Ep) s32 Ct (Ag rfl) rfl (B9 rfl) rfl fun H s40 => Ar s40 (.here) rfl (Ai (B8 s40 ⟨_, rfl, rfl⟩ (D4 (.nl (D4 (.nl (Hw (.nl (.sc (.sc (.nl (.nl (.nl .nil))))))))))) (D5 ⟨Be, (D5 ⟨Be, (Hx ⟨Be, (Fu ⟨Be, ⟨Be, ⟨Be, trivial⟩⟩⟩)⟩)⟩)⟩)) ?_)))
 have e : Dm first B = (⟨0, false, 0, false, 0, ⟨#[]⟩, ⟨#[]⟩, ⟨#[]⟩, 0, false, 0, false, ⟨#[]⟩, ⟨#[]⟩, 0, false, false, ⟨#[]⟩, false, ⟨#[]⟩, 0, false, [], [], []⟩ : PacketV) := by
  clear s0 s2 s4 s5 s23 s24 s25 s27 s29 s32 s40
  simp only [Cw] at h6 h15 h16 h22 h30
  unfold Dm H8 F5 Lw; ((simp only [h6, h15, h16, h22, h30, h28, h33, q26, q31, if_true, if_false, or_true, or_false, false_or, true_or, zaa, reduceIte, and_true, and_false, true_and, false_and, Dv]; simp [B7, h6, h15, h16, h22, h30, h28, h33]; omega))
 rw [e]
 rfl
 have dh30 := of_decide_eq_false h30
 refine Av h30 (G1 yq26 ((B.size : Nat) : Int) rfl rfl (by omega) (by omega) (by omega) ?_)
 have z41 := zaw (a := B) (b := yq26.toNat) (e := ((B.size : Nat) : Int).toNat)
 refine Jr s29 (by omega) fun x42 H lx42 s43 => gf6 (A8 s43 Ct lx42 rfl fun H s44 => Ar s44 (.here) rfl (Ca (cs' := [si (first / 16), sb (decide (0 < (bits .and .i64 first 8))), si (bits .and .i64 (first / 2) 3), sb (decide (0 < (bits .and .i64 first 1))), i0, ss vq26, x42, sE, i0, bF, i0, bF, sE, .nl, i0, bF, bF, sE, bF, .nl, i0, bF, .nl, .nl, .nl]) s44 Df (Ag (Ae rfl (Ae rfl (Ae rfl (Ae rfl (Ae rfl (Ae rfl (Ae lx42 rfl)))))))) rfl (B9 rfl) rfl fun H s45 => Ar s45 (.here) rfl (Ai (B8 s45 ⟨_, rfl, rfl⟩ (D4 (.own Df (D4 (.nl (Hw (.nl (.sc (.sc (.nl (.nl (.nl .nil))))))))))) (D5 ⟨(B6 (C2 (B.extract yq26.toNat ((B.size : Nat) : Int).toNat)) (by decide)), (D5 ⟨Be, (Hx ⟨Be, (Fu ⟨Be, ⟨Be, ⟨Be, trivial⟩⟩⟩)⟩)⟩)⟩)) ?_)))
 have e : Dm first B = (⟨(first / 16), (decide (0 < (bits .and .i64 first 8))), (bits .and .i64 (first / 2) 3), (decide (0 < (bits .and .i64 first 1))), 0, vq26, (B.extract yq26.toNat ((B.size : Nat) : Int).toNat), ⟨#[]⟩, 0, false, 0, false, ⟨#[]⟩, ⟨#[]⟩, 0, false, false, ⟨#[]⟩, false, ⟨#[]⟩, 0, false, [], [], []⟩ : PacketV) := by
  clear s0 s2 s4 s5 s23 s24 s25 s27 s29 s43 s44 s45
  simp only [Cw] at h6 h15 h16 h22 h30
  unfold Dm H8 F5 Lw; ((simp only [h6, h15, h16, h22, h30, h28, q26, if_true, if_false, or_true, or_false, false_or, true_or, zaa, reduceIte, and_true, and_false, true_and, false_and, Dv]; simp [B7, h6, h15, h16, h22, h30, h28]; omega))
 rw [e]
 rfl
 refine Aq (nT h28) (Bf (cs := Ep) rfl (Ca (cs' := Ep) s27 Ct (Ag rfl) rfl (B9 rfl) rfl fun H s46 => Ar s46 (.here) rfl (Ai (B8 s46 ⟨_, rfl, rfl⟩ (D4 (.nl (D4 (.nl (Hw (.nl (.sc (.sc (.nl (.nl (.nl .nil))))))))))) (D5 ⟨Be, (D5 ⟨Be, (Hx ⟨Be, (Fu ⟨Be, ⟨Be, ⟨Be, trivial⟩⟩⟩)⟩)⟩)⟩)) ?_)))
 have e : Dm first B = (⟨0, false, 0, false, 0, ⟨#[]⟩, ⟨#[]⟩, ⟨#[]⟩, 0, false, 0, false, ⟨#[]⟩, ⟨#[]⟩, 0, false, false, ⟨#[]⟩, false, ⟨#[]⟩, 0, false, [], [], []⟩ : PacketV) := by
  clear s0 s2 s4 s5 s23 s24 s25 s27 s46
  simp only [Cw] at h6 h15 h16 h22
  unfold Dm H8 F5 Lw; ((simp only [h6, h15, h16, h22, h28, q26, if_true, if_false, or_true, or_false, false_or, true_or, zaa, reduceIte, and_true, and_false, true_and, false_and, Dv]; simp [B7, h6, h15, h16, h22, h28]; omega))
 rw [e]
 rfl
 have dh22 := of_decide_eq_false h22
 refine Av h22 (N9 (Al (c := si (first / 16)) s5 (.here) rfl (Dd (De (Aa ((decide ((first / 16) < 12))) (fun h47 => ?_) fun h47 => ?_)))))
 have dh47 := of_decide_eq_true h47
 refine Aq h47 ?_
 obtain ⟨wq48, yq48, oq48, q48⟩ : ∃ w y o, Bo B 0 = (w, y, o) := ⟨_, _, _, rfl⟩
 have bq48 := Gj q48
 refine Ek s5 rfl (.cons .ro (.cons .sc .nil)) (by have h := Qu (n + 5) (by omega) B 0 (by omega) (by omega); rw [q48] at h; exact h) rfl (Bg (Bg (Bg Ed))) ?_
 rintro _ _ H ⟨_, rfl, ⟨_, rfl, ⟨_, rfl, ⟨rfl, rfl⟩⟩⟩⟩ s49
 simp only [zag] at s49
 refine Bp (v := si wq48) rfl (Bp (v := si yq48) rfl (Bp (v := sb oq48) rfl (B4 (Aa (oq48) (fun h50 => ?_) fun h50 => ?_))))
 refine Av (nF h50) (Iu (A8 s49 (.here) rfl rfl fun H s51 => N9 (Al (c := si (first / 16)) s51 (.here) rfl (A2 (De (Aa ((decide ((first / 16) = 9))) (fun h52 => ?_) fun h52 => ?_))))))
 have dh52 := of_decide_eq_true h52
 refine Aq h52 ?_
 have e : Dm first B = Mv (first / 16) wq48 (Gq B (B.size + 1) yq48 []) (C0 (first / 16) B (B.size + 1) yq48 [] []) := by
  clear s0 s2 s4 s5 s49 s51
  simp only [Cw] at h6 h15 h16 h22 h47 h52
  unfold Dm H8 F5 Lw; ((simp only [h6, h15, h16, h22, h47, h52, h50, q48, if_true, if_false, or_true, or_false, false_or, true_or, zaa, reduceIte, and_true, and_false, true_and, false_and, Dv]; simp [B7, h6, h15, h16, h22, h47, h52, h50]; omega))
 rw [e]
 have s53 := s51.nl (ty := 57) ⟨_, _, rfl, rfl⟩
 exact U8 n hn (first / 16) wq48 B i1 i3 hB yq48 (by omega) (B.size + 1) _ yq48 [] .nl _ (by omega) (by omega) (by omega) (by omega) rfl (s53.sel (.cons (.here) (.cons Ct (.cons (.here) .nil))))
 have dh52 := of_decide_eq_false h52
 refine Av h52 ?_
 have e : Dm first B = Mv (first / 16) wq48 [] (C0 (first / 16) B (B.size + 1) yq48 [] []) := by
  simp only [Cw] at h6 h15 h16 h22 h47 h52
  unfold Dm H8 F5 Lw; ((simp only [h6, h15, h16, h22, h47, h52, h50, q48, if_true, if_false, or_true, or_false, false_or, true_or, zaa, reduceIte, and_true, and_false, true_and, false_and, Dv]; rfl))
 rw [e]
 have s54 := s51.nl (ty := 57) ⟨_, _, rfl, rfl⟩
 have s55 := s54.nl (ty := 56) ⟨_, _, rfl, rfl⟩
 have s56 := s55.nl (ty := 55) ⟨_, _, rfl, rfl⟩
 exact Pj n hn (first / 16) wq48 B i1 i3 hB [] (B.size + 1) _ yq48 [] [] .nl .nl .nl _ (by omega) (by omega) (by omega) (by (simp only [zao]; omega)) rfl rfl rfl (s56.sel (.cons (.here) (.cons Ct (.cons (.here) (.cons Ct (.cons (.here) .nil))))))
 refine Aq (nT h50) (Bf (cs := Ep) rfl (Ca (cs' := Ep) s49 Ct (Ag rfl) rfl (B9 rfl) rfl fun H s57 => Ar s57 (.here) rfl (Ai (B8 s57 ⟨_, rfl, rfl⟩ (D4 (.nl (D4 (.nl (Hw (.nl (.sc (.sc (.nl (.nl (.nl .nil))))))))))) (D5 ⟨Be, (D5 ⟨Be, (Hx ⟨Be, (Fu ⟨Be, ⟨Be, ⟨Be, trivial⟩⟩⟩)⟩)⟩)⟩)) ?_)))
 have e : Dm first B = (⟨0, false, 0, false, 0, ⟨#[]⟩, ⟨#[]⟩, ⟨#[]⟩, 0, false, 0, false, ⟨#[]⟩, ⟨#[]⟩, 0, false, false, ⟨#[]⟩, false, ⟨#[]⟩, 0, false, [], [], []⟩ : PacketV) := by
  simp only [Cw] at h6 h15 h16 h22 h47
  unfold Dm H8 F5 Lw; ((simp only [h6, h15, h16, h22, h47, h50, q48, if_true, if_false, or_true, or_false, false_or, true_or, zaa, reduceIte, and_true, and_false, true_and, false_and, Dv]; rfl))
 rw [e]
 rfl
 have dh47 := of_decide_eq_false h47
 refine Av h47 (N9 (Al (c := si (first / 16)) s5 (.here) rfl (A2 (De (Aa ((decide ((first / 16) = 9))) (fun h58 => ?_) fun h58 => ?_)))))
 have dh58 := of_decide_eq_true h58
 refine Aq h58 ?_
 have e : Dm first B = Mv (first / 16) 0 (Gq B (B.size + 1) 0 []) (C0 (first / 16) B (B.size + 1) 0 [] []) := by
  clear s0 s2 s4 s5
  simp only [Cw] at h6 h15 h16 h22 h47 h58
  unfold Dm H8 F5 Lw; ((simp only [h6, h15, h16, h22, h47, h58, if_true, if_false, or_true, or_false, false_or, true_or, zaa, reduceIte, and_true, and_false, true_and, false_and, Dv]; simp [B7, h6, h15, h16, h22, h47, h58]; omega))
 rw [e]
 have s59 := s5.nl (ty := 57) ⟨_, _, rfl, rfl⟩
 exact U8 n hn (first / 16) 0 B i1 i3 hB 0 (by omega) (B.size + 1) _ 0 [] .nl _ (by omega) (by omega) (by omega) (by omega) rfl (s59.sel (.cons (.here) (.cons Ct (.cons (.here) .nil))))
 have dh58 := of_decide_eq_false h58
 refine Av h58 ?_
 have e : Dm first B = Mv (first / 16) 0 [] (C0 (first / 16) B (B.size + 1) 0 [] []) := by
  clear s0 s2 s4 s5
  simp only [Cw] at h6 h15 h16 h22 h47 h58
  unfold Dm H8 F5 Lw; ((simp only [h6, h15, h16, h22, h47, h58, if_true, if_false, or_true, or_false, false_or, true_or, zaa, reduceIte, and_true, and_false, true_and, false_and, Dv]; simp [B7, h6, h15, h16, h22, h47, h58]; omega))
 rw [e]
 have s60 := s5.nl (ty := 57) ⟨_, _, rfl, rfl⟩
 have s61 := s60.nl (ty := 56) ⟨_, _, rfl, rfl⟩
 have s62 := s61.nl (ty := 55) ⟨_, _, rfl, rfl⟩
 exact Pj n hn (first / 16) 0 B i1 i3 hB [] (B.size + 1) _ 0 [] [] .nl .nl .nl _ (by omega) (by omega) (by omega) (by omega) rfl rfl rfl (s62.sel (.cons (.here) (.cons Ct (.cons (.here) (.cons Ct (.cons (.here) .nil))))))
 have dh15 := of_decide_eq_false h15
 refine Ab h15 (Ab h15 (Ab h15 (Dq h15 (Av rfl (N9 (Al (c := si (first / 16)) s5 (.here) rfl (A2 (Aa ((decide ((first / 16) = 3))) (fun h63 => ?_) fun h63 => ?_))))))))
 have dh63 := of_decide_eq_true h63
 refine Aq h63 (Gz rfl (Ec (V3 (A8 s5 (.here) rfl rfl fun H s64 => T8 2 rfl (by decide) (Gz rfl (Pe (A8 s64 (.here) rfl rfl fun H s65 => Gz rfl (Ec (gf3 (A8 s65 (.here) rfl rfl fun H s66 => ?_))))))))))
 obtain ⟨vq67, yq67, oq67, q67⟩ : ∃ w y o, B3 B 0 = (w, y, o) := ⟨_, _, _, rfl⟩
 have bq67 := G5 q67
 refine Ek s66 rfl (.cons .ro (.cons .sc .nil)) (by have h := Ls (n + 1) (by omega) B 0 (by omega) (by omega); rw [q67] at h; exact h) rfl (Bg (Bg (Bg Ed))) ?_
 rintro _ _ H ⟨_, rfl, ⟨_, rfl, ⟨_, rfl, ⟨rfl, rfl⟩⟩⟩⟩ s68
 simp only [zag] at s68
 refine Bp (v := ss vq67) rfl (Bp (v := si yq67) rfl (Bp (v := sb oq67) rfl (B4 (Aa (oq67) (fun h69 => ?_) fun h69 => ?_))))
 refine Av (nF h69) (gf5 (A8 s68 (.here) rfl rfl fun H s70 => Pe (Al (c := si (bits .and .i64 (first / 2) 3)) s70 (.here) rfl (Ec (De (Aa ((decide (0 < (bits .and .i64 (first / 2) 3)))) (fun h71 => ?_) fun h71 => ?_))))))
 have dh71 := of_decide_eq_true h71
 refine Aq h71 ?_
 obtain ⟨wq72, yq72, oq72, q72⟩ : ∃ w y o, Bo B yq67 = (w, y, o) := ⟨_, _, _, rfl⟩
 have bq72 := Gj q72
 refine Ek s70 rfl (.cons .ro (.cons .sc .nil)) (by have h := Qu (n + 5) (by omega) B yq67 (by omega) (by omega); rw [q72] at h; exact h) rfl (Bg (Bg (Bg Ed))) ?_
 rintro _ _ H ⟨_, rfl, ⟨_, rfl, ⟨_, rfl, ⟨rfl, rfl⟩⟩⟩⟩ s73
 simp only [zag] at s73
 refine Bp (v := si wq72) rfl (Bp (v := si yq72) rfl (Bp (v := sb oq72) rfl (B4 (Aa (oq72) (fun h74 => ?_) fun h74 => ?_))))
 refine Av (nF h74) (Iu (A8 s73 (.here) rfl rfl fun H s75 => G1 yq72 ((B.size : Nat) : Int) rfl rfl (by omega) (by omega) (by omega) ?_))
 have z76 := zaw (a := B) (b := yq72.toNat) (e := ((B.size : Nat) : Int).toNat)
 refine Jr s75 (by omega) fun x77 H lx77 s78 => gf6 (A8 s78 Ct lx77 rfl fun H s79 => Ar s79 (.here) rfl (Ca (cs' := [si (first / 16), sb (decide (0 < (bits .and .i64 first 8))), si (bits .and .i64 (first / 2) 3), sb (decide (0 < (bits .and .i64 first 1))), si wq72, ss vq67, x77, sE, i0, bF, i0, bF, sE, .nl, i0, bF, bF, sE, bF, .nl, i0, bF, .nl, .nl, .nl]) s79 Df (Ag (Ae rfl (Ae rfl (Ae rfl (Ae rfl (Ae rfl (Ae rfl (Ae lx77 rfl)))))))) rfl (B9 rfl) rfl fun H s80 => Ar s80 (.here) rfl (Ai (B8 s80 ⟨_, rfl, rfl⟩ (D4 (.own Df (D4 (.nl (Hw (.nl (.sc (.sc (.nl (.nl (.nl .nil))))))))))) (D5 ⟨(B6 (C2 (B.extract yq72.toNat ((B.size : Nat) : Int).toNat)) (by decide)), (D5 ⟨Be, (Hx ⟨Be, (Fu ⟨Be, ⟨Be, ⟨Be, trivial⟩⟩⟩)⟩)⟩)⟩)) ?_)))
 have e : Dm first B = (⟨(first / 16), (decide (0 < (bits .and .i64 first 8))), (bits .and .i64 (first / 2) 3), (decide (0 < (bits .and .i64 first 1))), wq72, vq67, (B.extract yq72.toNat ((B.size : Nat) : Int).toNat), ⟨#[]⟩, 0, false, 0, false, ⟨#[]⟩, ⟨#[]⟩, 0, false, false, ⟨#[]⟩, false, ⟨#[]⟩, 0, false, [], [], []⟩ : PacketV) := by
  simp only [Cw] at h6 h15 h63 h71
  unfold Dm H8 F5 Lw; ((simp only [h6, h15, h63, h71, h69, h74, q67, q72, if_true, if_false, or_true, or_false, false_or, true_or, zaa, reduceIte, and_true, and_false, true_and, false_and, Dv]; rfl))
 rw [e]
 rfl
 refine Aq (nT h74) (Bf (cs := Ep) rfl (Ca (cs' := Ep) s73 Ct (Ag rfl) rfl (B9 rfl) rfl fun H s81 => Ar s81 (.here) rfl (Ai (B8 s81 ⟨_, rfl, rfl⟩ (D4 (.nl (D4 (.nl (Hw (.nl (.sc (.sc (.nl (.nl (.nl .nil))))))))))) (D5 ⟨Be, (D5 ⟨Be, (Hx ⟨Be, (Fu ⟨Be, ⟨Be, ⟨Be, trivial⟩⟩⟩)⟩)⟩)⟩)) ?_)))
 have e : Dm first B = (⟨0, false, 0, false, 0, ⟨#[]⟩, ⟨#[]⟩, ⟨#[]⟩, 0, false, 0, false, ⟨#[]⟩, ⟨#[]⟩, 0, false, false, ⟨#[]⟩, false, ⟨#[]⟩, 0, false, [], [], []⟩ : PacketV) := by
  simp only [Cw] at h6 h15 h63 h71
  unfold Dm H8 F5 Lw; ((simp only [h6, h15, h63, h71, h69, h74, q67, q72, if_true, if_false, or_true, or_false, false_or, true_or, zaa, reduceIte, and_true, and_false, true_and, false_and, Dv]; rfl))
 rw [e]
 rfl
 have dh71 := of_decide_eq_false h71
 refine Av h71 (G1 yq67 ((B.size : Nat) : Int) rfl rfl (by omega) (by omega) (by omega) ?_)
 have z82 := zaw (a := B) (b := yq67.toNat) (e := ((B.size : Nat) : Int).toNat)
 refine Jr s70 (by omega) fun x83 H lx83 s84 => gf6 (A8 s84 Ct lx83 rfl fun H s85 => Ar s85 (.here) rfl (Ca (cs' := [si (first / 16), sb (decide (0 < (bits .and .i64 first 8))), si (bits .and .i64 (first / 2) 3), sb (decide (0 < (bits .and .i64 first 1))), i0, ss vq67, x83, sE, i0, bF, i0, bF, sE, .nl, i0, bF, bF, sE, bF, .nl, i0, bF, .nl, .nl, .nl]) s85 Df (Ag (Ae rfl (Ae rfl (Ae rfl (Ae rfl (Ae rfl (Ae rfl (Ae lx83 rfl)))))))) rfl (B9 rfl) rfl fun H s86 => Ar s86 (.here) rfl (Ai (B8 s86 ⟨_, rfl, rfl⟩ (D4 (.own Df (D4 (.nl (Hw (.nl (.sc (.sc (.nl (.nl (.nl .nil))))))))))) (D5 ⟨(B6 (C2 (B.extract yq67.toNat ((B.size : Nat) : Int).toNat)) (by decide)), (D5 ⟨Be, (Hx ⟨Be, (Fu ⟨Be, ⟨Be, ⟨Be, trivial⟩⟩⟩)⟩)⟩)⟩)) ?_)))
 have e : Dm first B = (⟨(first / 16), (decide (0 < (bits .and .i64 first 8))), (bits .and .i64 (first / 2) 3), (decide (0 < (bits .and .i64 first 1))), 0, vq67, (B.extract yq67.toNat ((B.size : Nat) : Int).toNat), ⟨#[]⟩, 0, false, 0, false, ⟨#[]⟩, ⟨#[]⟩, 0, false, false, ⟨#[]⟩, false, ⟨#[]⟩, 0, false, [], [], []⟩ : PacketV) := by
  simp only [Cw] at h6 h15 h63 h71
  unfold Dm H8 F5 Lw; ((simp only [h6, h15, h63, h71, h69, q67, if_true, if_false, or_true, or_false, false_or, true_or, zaa, reduceIte, and_true, and_false, true_and, false_and, Dv]; rfl))
 rw [e]
 rfl
 refine Aq (nT h69) (Bf (cs := Ep) rfl (Ca (cs' := Ep) s68 Ct (Ag rfl) rfl (B9 rfl) rfl fun H s87 => Ar s87 (.here) rfl (Ai (B8 s87 ⟨_, rfl, rfl⟩ (D4 (.nl (D4 (.nl (Hw (.nl (.sc (.sc (.nl (.nl (.nl .nil))))))))))) (D5 ⟨Be, (D5 ⟨Be, (Hx ⟨Be, (Fu ⟨Be, ⟨Be, ⟨Be, trivial⟩⟩⟩)⟩)⟩)⟩)) ?_)))
 have e : Dm first B = (⟨0, false, 0, false, 0, ⟨#[]⟩, ⟨#[]⟩, ⟨#[]⟩, 0, false, 0, false, ⟨#[]⟩, ⟨#[]⟩, 0, false, false, ⟨#[]⟩, false, ⟨#[]⟩, 0, false, [], [], []⟩ : PacketV) := by
  simp only [Cw] at h6 h15 h63
  unfold Dm H8 F5 Lw; ((simp only [h6, h15, h63, h69, q67, if_true, if_false, or_true, or_false, false_or, true_or, zaa, reduceIte, and_true, and_false, true_and, false_and, Dv]; rfl))
 rw [e]
 rfl
 have dh63 := of_decide_eq_false h63
 refine Av h63 (N9 (Al (c := si (first / 16)) s5 (.here) rfl (Dd (De (Aa ((decide ((first / 16) < 12))) (fun h88 => ?_) fun h88 => ?_)))))
 have dh88 := of_decide_eq_true h88
 refine Aq h88 ?_
 obtain ⟨wq89, yq89, oq89, q89⟩ : ∃ w y o, Bo B 0 = (w, y, o) := ⟨_, _, _, rfl⟩
 have bq89 := Gj q89
 refine Ek s5 rfl (.cons .ro (.cons .sc .nil)) (by have h := Qu (n + 5) (by omega) B 0 (by omega) (by omega); rw [q89] at h; exact h) rfl (Bg (Bg (Bg Ed))) ?_
 rintro _ _ H ⟨_, rfl, ⟨_, rfl, ⟨_, rfl, ⟨rfl, rfl⟩⟩⟩⟩ s90
 simp only [zag] at s90
 refine Bp (v := si wq89) rfl (Bp (v := si yq89) rfl (Bp (v := sb oq89) rfl (B4 (Aa (oq89) (fun h91 => ?_) fun h91 => ?_))))
 refine Av (nF h91) (Iu (A8 s90 (.here) rfl rfl fun H s92 => N9 (Al (c := si (first / 16)) s92 (.here) rfl (A2 (De (Aa ((decide ((first / 16) = 9))) (fun h93 => ?_) fun h93 => ?_))))))
 have dh93 := of_decide_eq_true h93
 refine Aq h93 ?_
 have e : Dm first B = Mv (first / 16) wq89 (Gq B (B.size + 1) yq89 []) (C0 (first / 16) B (B.size + 1) yq89 [] []) := by
  simp only [Cw] at h6 h15 h63 h88 h93
  unfold Dm H8 F5 Lw; ((simp only [h6, h15, h63, h88, h93, h91, q89, if_true, if_false, or_true, or_false, false_or, true_or, zaa, reduceIte, and_true, and_false, true_and, false_and, Dv]; rfl))
 rw [e]
 have s94 := s92.nl (ty := 57) ⟨_, _, rfl, rfl⟩
 exact U8 n hn (first / 16) wq89 B i1 i3 hB yq89 (by omega) (B.size + 1) _ yq89 [] .nl _ (by omega) (by omega) (by omega) (by (simp only [zao]; omega)) rfl (s94.sel (.cons (.here) (.cons Ct (.cons (.here) .nil))))
 have dh93 := of_decide_eq_false h93
 refine Av h93 ?_
 have e : Dm first B = Mv (first / 16) wq89 [] (C0 (first / 16) B (B.size + 1) yq89 [] []) := by
  simp only [Cw] at h6 h15 h63 h88 h93
  unfold Dm H8 F5 Lw; ((simp only [h6, h15, h63, h88, h93, h91, q89, if_true, if_false, or_true, or_false, false_or, true_or, zaa, reduceIte, and_true, and_false, true_and, false_and, Dv]; done))
 rw [e]
 have s95 := s92.nl (ty := 57) ⟨_, _, rfl, rfl⟩
 have s96 := s95.nl (ty := 56) ⟨_, _, rfl, rfl⟩
 have s97 := s96.nl (ty := 55) ⟨_, _, rfl, rfl⟩
 exact Pj n hn (first / 16) wq89 B i1 i3 hB [] (B.size + 1) _ yq89 [] [] .nl .nl .nl _ (by omega) (by omega) (by omega) (by (simp only [zao]; omega)) rfl rfl rfl (s97.sel (.cons (.here) (.cons Ct (.cons (.here) (.cons Ct (.cons (.here) .nil))))))
 refine Aq (nT h91) (Bf (cs := Ep) rfl (Ca (cs' := Ep) s90 Ct (Ag rfl) rfl (B9 rfl) rfl fun H s98 => Ar s98 (.here) rfl (Ai (B8 s98 ⟨_, rfl, rfl⟩ (D4 (.nl (D4 (.nl (Hw (.nl (.sc (.sc (.nl (.nl (.nl .nil))))))))))) (D5 ⟨Be, (D5 ⟨Be, (Hx ⟨Be, (Fu ⟨Be, ⟨Be, ⟨Be, trivial⟩⟩⟩)⟩)⟩)⟩)) ?_)))
 have e : Dm first B = (⟨0, false, 0, false, 0, ⟨#[]⟩, ⟨#[]⟩, ⟨#[]⟩, 0, false, 0, false, ⟨#[]⟩, ⟨#[]⟩, 0, false, false, ⟨#[]⟩, false, ⟨#[]⟩, 0, false, [], [], []⟩ : PacketV) := by
  simp only [Cw] at h6 h15 h63 h88
  unfold Dm H8 F5 Lw; ((simp only [h6, h15, h63, h88, h91, q89, if_true, if_false, or_true, or_false, false_or, true_or, zaa, reduceIte, and_true, and_false, true_and, false_and, Dv]; rfl))
 rw [e]
 rfl
 have dh88 := of_decide_eq_false h88
 refine Av h88 (N9 (Al (c := si (first / 16)) s5 (.here) rfl (A2 (De (Aa ((decide ((first / 16) = 9))) (fun h99 => ?_) fun h99 => ?_)))))
 have dh99 := of_decide_eq_true h99
 refine Aq h99 ?_
 have e : Dm first B = Mv (first / 16) 0 (Gq B (B.size + 1) 0 []) (C0 (first / 16) B (B.size + 1) 0 [] []) := by
  clear s0 s2 s4 s5
  simp only [Cw] at h6 h15 h63 h88 h99
  unfold Dm H8 F5 Lw; ((simp only [h6, h15, h63, h88, h99, if_true, if_false, or_true, or_false, false_or, true_or, zaa, reduceIte, and_true, and_false, true_and, false_and, Dv]; simp [B7, h6, h15, h63, h88, h99]; omega))
 rw [e]
 have s100 := s5.nl (ty := 57) ⟨_, _, rfl, rfl⟩
 exact U8 n hn (first / 16) 0 B i1 i3 hB 0 (by omega) (B.size + 1) _ 0 [] .nl _ (by omega) (by omega) (by omega) (by omega) rfl (s100.sel (.cons (.here) (.cons Ct (.cons (.here) .nil))))
 have dh99 := of_decide_eq_false h99
 refine Av h99 ?_
 have e : Dm first B = Mv (first / 16) 0 [] (C0 (first / 16) B (B.size + 1) 0 [] []) := by
  simp only [Cw] at h6 h15 h63 h88 h99
  unfold Dm H8 F5 Lw; ((simp only [h6, h15, h63, h88, h99, if_true, if_false, or_true, or_false, false_or, true_or, zaa, reduceIte, and_true, and_false, true_and, false_and, Dv]; done))
 rw [e]
 have s101 := s5.nl (ty := 57) ⟨_, _, rfl, rfl⟩
 have s102 := s101.nl (ty := 56) ⟨_, _, rfl, rfl⟩
 have s103 := s102.nl (ty := 55) ⟨_, _, rfl, rfl⟩
 exact Pj n hn (first / 16) 0 B i1 i3 hB [] (B.size + 1) _ 0 [] [] .nl .nl .nl _ (by omega) (by omega) (by omega) (by (simp only [zao]; omega)) rfl rfl rfl (s103.sel (.cons (.here) (.cons Ct (.cons (.here) (.cons Ct (.cons (.here) .nil))))))
end
section
open Go
def E5 (p : PacketV) (B : ByteArray) (e : Int) : PacketV × Int × Int :=
 if !Ah p || !((Gl p).toList == (B.extract (0 : Int).toNat e.toNat).toList) then (B7 0, 0, 2) else (p, e, 0)
def E6 (rd : Int → ByteArray → PacketV) (B : ByteArray) (r : Int × Int × Int) : PacketV × Int × Int :=
 if !decide (r.2.2 = 0) then (B7 0, 0, r.2.2)
 else if decide (340 < r.1) then (B7 0, 0, 2)
 else if decide (((B.size : Nat) : Int) - r.2.1 < r.1) then (B7 0, 0, 1)
 else E5 (rd (A7 B 0) (B.extract r.2.1.toNat (r.2.1 + r.1).toNat)) B (r.2.1 + r.1)
def Fd (rd : Int → ByteArray → PacketV) (B : ByteArray) : PacketV × Int × Int :=
 if decide (((B.size : Nat) : Int) = 0) then (B7 0, 0, 1)
 else if !D1 (A7 B 0) then (B7 0, 0, 2)
 else E6 rd B (C1 B 1)
theorem AgU (n : Nat) (hn : 1048576 < n) (B : ByteArray) (hB : B.size ≤ 1048576) : Bz E0 (n + 13) 60 33 [Af B] = some (.tup [.agg (Ap (Fd Dr B).1), .sc (.int .i64 (Fd Dr B).2.1), .sc (.int .i64 (Fd Dr B).2.2)]) := by
 rw [At, Alt, f33]
 refine Ce (G := (· = some (.tup [.agg (Ap (Fd Dr B).1), .sc (.int .i64 (Fd Dr B).2.1), .sc (.int .i64 (Fd Dr B).2.2)]))) ?_
 try simp only [Fc, Fb]
 have s0 : Sep [] [] := B5
 refine Ie s0 fun i1 H s2 => Cn (A2 (Aa ((decide (((B.size : Nat) : Int) = 0))) (fun h3 => ?_) fun h3 => ?_))
 have dh3 := of_decide_eq_true h3
 refine Aq h3 (Bf (cs := Ep) rfl (Ca (cs' := Ep) s2 (.here) (Ag rfl) rfl (B9 rfl) rfl fun H s4 => Ar s4 (.here) rfl (Ai (Cd s4 rfl (.agg ⟨_, rfl, rfl⟩ (D4 (.nl (D4 (.nl (Hw (.nl (.sc (.sc (.nl (.nl (.nl .nil))))))))))) (.sc (.sc .nil))) ⟨(Mw ⟨_, rfl, rfl⟩ (D5 ⟨Be, (D5 ⟨Be, (Hx ⟨Be, (Fu ⟨Be, ⟨Be, ⟨Be, trivial⟩⟩⟩)⟩)⟩)⟩)), (Fu trivial)⟩) ?_)))
 have e : Fd Dr B = ((B7 0), 0, 1) := by
  unfold Fd E6 E5; simp only [h3, if_true, if_false, zaa, reduceIte, Dv]
 rw [e]
 rfl
 have dh3 := of_decide_eq_false h3
 refine Av h3 ?_
 have w5 := D6 B 0
 refine G0 (by omega) (by omega) fun _ => Fh (c := su (A7 B 0)) rfl (Lg (by omega) (by omega) (Ao (v := (.bool (D1 (A7 B 0)))) s2 rfl (.cons .sc .nil) (AbR (n + 10) (by omega) (A7 B 0) (by omega)) (B4 (Aa ((D1 (A7 B 0))) (fun h6 => ?_) fun h6 => ?_))))
 refine Av (nF h6) ?_
 obtain ⟨nq7, yq7, cq7, q7⟩ : ∃ w y o, C1 B 1 = (w, y, o) := ⟨_, _, _, rfl⟩
 have bq7 := Ru (B := B) (a := 1)
 rw [q7] at bq7
 dsimp only at bq7
 refine Ek s2 rfl (.cons .ro (.cons .sc .nil)) (by have h := Aj0 (n + 10) (by omega) B 1 (by omega) (by omega); rw [q7] at h; exact h) rfl (Bg (Bg (Bg Ed))) ?_
 rintro _ _ H ⟨_, rfl, ⟨_, rfl, ⟨_, rfl, ⟨rfl, rfl⟩⟩⟩⟩ s8
 simp only [zag] at s8
 refine Bp (v := si nq7) rfl (Bp (v := si yq7) rfl (Bp (v := si cq7) rfl (Lh (Aa ((decide (cq7 = 0))) (fun h9 => ?_) fun h9 => ?_))))
 have dh9 := of_decide_eq_true h9
 replace bq7 := bq7 (of_decide_eq_true h9)
 refine Av (nF h9) (Ec (Aa ((decide (340 < nq7))) (fun h10 => ?_) fun h10 => ?_))
 have dh10 := of_decide_eq_true h10
 refine Aq h10 (Bf (cs := Ep) rfl (Ca (cs' := Ep) s8 (.here) (Ag rfl) rfl (B9 rfl) rfl fun H s11 => Ar s11 (.here) rfl (Ai (Cd s11 rfl (.agg ⟨_, rfl, rfl⟩ (D4 (.nl (D4 (.nl (Hw (.nl (.sc (.sc (.nl (.nl (.nl .nil))))))))))) (.sc (.sc .nil))) ⟨(Mw ⟨_, rfl, rfl⟩ (D5 ⟨Be, (D5 ⟨Be, (Hx ⟨Be, (Fu ⟨Be, ⟨Be, ⟨Be, trivial⟩⟩⟩)⟩)⟩)⟩)), (Fu trivial)⟩) ?_)))
 have e : Fd Dr B = ((B7 0), 0, 2) := by
  unfold Fd E6 E5; simp only [h3, h6, h9, h10, q7, if_true, if_false, zaa, reduceIte, Dv]
 rw [e]
 rfl
 have dh10 := of_decide_eq_false h10
 refine Av h10 (Cn (Nt (by omega) (by omega) (Ec (Aa ((decide ((((B.size : Nat) : Int) - yq7) < nq7))) (fun h12 => ?_) fun h12 => ?_))))
 have dh12 := of_decide_eq_true h12
 refine Aq h12 (Bf (cs := Ep) rfl (Ca (cs' := Ep) s8 (.here) (Ag rfl) rfl (B9 rfl) rfl fun H s13 => Ar s13 (.here) rfl (Ai (Cd s13 rfl (.agg ⟨_, rfl, rfl⟩ (D4 (.nl (D4 (.nl (Hw (.nl (.sc (.sc (.nl (.nl (.nl .nil))))))))))) (.sc (.sc .nil))) ⟨(Mw ⟨_, rfl, rfl⟩ (D5 ⟨Be, (D5 ⟨Be, (Hx ⟨Be, (Fu ⟨Be, ⟨Be, ⟨Be, trivial⟩⟩⟩)⟩)⟩)⟩)), (Fu trivial)⟩) ?_)))
 have e : Fd Dr B = ((B7 0), 0, 1) := by
  unfold Fd E6 E5; simp only [h3, h6, h9, h10, h12, q7, if_true, if_false, zaa, reduceIte, Dv]
 rw [e]
 rfl
 have dh12 := of_decide_eq_false h12
 refine Av h12 ?_
 have w14 := D6 B 0
 refine G0 (by omega) (by omega) fun _ => Fh (c := su (A7 B 0)) rfl (Lg (by omega) (by omega) (Bx (by omega) (by omega) (G1 yq7 (yq7 + nq7) rfl rfl (by omega) (by omega) (by omega) ?_)))
 have z15 := zaw (a := B) (b := yq7.toNat) (e := (yq7 + nq7).toNat)
 refine De (Gd.bothE ?_ ?_)
 have hR : (B.extract yq7.toNat (yq7 + nq7).toNat).size ≤ 340 := by rw [zaw]; omega
 have hbd := AkF (A7 B 0) (B.extract yq7.toNat (yq7 + nq7).toNat) hR
 have hyp := hbd.hyp (by decide)
 refine Se s8 rfl (.cons .sc (.cons .ro .nil)) (AkJ (n + 1) (by omega) (A7 B 0) (B.extract yq7.toNat (yq7 + nq7).toNat) (by omega) (by omega)) ⟨_, rfl, rfl⟩ (Ki _) ?_
 rintro _ _ H ⟨x16, x17, x18, x19, x20, x21, lx16, lx17, lx18, lx19, lx20, lx21, rfl, rfl⟩ s22
 simp only [zag, zau] at s22
 refine Ie s22 fun i23 H s24 => Ca (cs' := [si ((Dr (A7 B 0) (B.extract yq7.toNat (yq7 + nq7).toNat)).fType), .sc (.bool (Dr (A7 B 0) (B.extract yq7.toNat (yq7 + nq7).toNat)).fDup), si ((Dr (A7 B 0) (B.extract yq7.toNat (yq7 + nq7).toNat)).fQos), .sc (.bool (Dr (A7 B 0) (B.extract yq7.toNat (yq7 + nq7).toNat)).fRetain), si ((Dr (A7 B 0) (B.extract yq7.toNat (yq7 + nq7).toNat)).fId), ss ((Dr (A7 B 0) (B.extract yq7.toNat (yq7 + nq7).toNat)).fTopic), x16, ss ((Dr (A7 B 0) (B.extract yq7.toNat (yq7 + nq7).toNat)).fClient), si ((Dr (A7 B 0) (B.extract yq7.toNat (yq7 + nq7).toNat)).fLevel), .sc (.bool (Dr (A7 B 0) (B.extract yq7.toNat (yq7 + nq7).toNat)).fClean), si ((Dr (A7 B 0) (B.extract yq7.toNat (yq7 + nq7).toNat)).fKeep), .sc (.bool (Dr (A7 B 0) (B.extract yq7.toNat (yq7 + nq7).toNat)).fHasWill), ss ((Dr (A7 B 0) (B.extract yq7.toNat (yq7 + nq7).toNat)).fWTopic), x17, si ((Dr (A7 B 0) (B.extract yq7.toNat (yq7 + nq7).toNat)).fWQos), .sc (.bool (Dr (A7 B 0) (B.extract yq7.toNat (yq7 + nq7).toNat)).fWRetain), .sc (.bool (Dr (A7 B 0) (B.extract yq7.toNat (yq7 + nq7).toNat)).fHasUser), ss ((Dr (A7 B 0) (B.extract yq7.toNat (yq7 + nq7).toNat)).fUser), .sc (.bool (Dr (A7 B 0) (B.extract yq7.toNat (yq7 + nq7).toNat)).fHasPass), x18, si ((Dr (A7 B 0) (B.extract yq7.toNat (yq7 + nq7).toNat)).fCode), .sc (.bool (Dr (A7 B 0) (B.extract yq7.toNat (yq7 + nq7).toNat)).fPresent), x19, x20, x21]) s24 (.here) (Ag (Ae rfl (Ae rfl (Ae rfl (Ae rfl (Ae rfl (Ae rfl (Ae lx16 (Ae rfl (Ae rfl (Ae rfl (Ae rfl (Ae rfl (Ae rfl (Ae lx17 (Ae rfl (Ae rfl (Ae rfl (Ae rfl (Ae rfl (Ae lx18 (Ae rfl (Ae rfl (Ae lx19 (Ae lx20 (Ae lx21 rfl)))))))))))))))))))))))))) rfl (B9 rfl) rfl fun H s25 => Ar s25 (.here) rfl ?_
 refine Ao (v := (.bool (Ah (Dr (A7 B 0) (B.extract yq7.toNat (yq7 + nq7).toNat))))) s25 rfl (.agg (Gv (.cons (.own (by decide) Z9) (Gv (.cons (.own (by decide) Xq) (Mx (.cons (.own (by decide) Nl) (Is (.cons (.own (by decide) Nk) (.cons (.own (by decide) Df) (.cons (.own (by decide) Ct) .nil)))))))))) .nil) (Ql (n + 2) (by omega) (Dr (A7 B 0) (B.extract yq7.toNat (yq7 + nq7).toNat)) hyp) (B4 (Aa ((Ah (Dr (A7 B 0) (B.extract yq7.toNat (yq7 + nq7).toNat)))) (fun h26 => ?_) fun h26 => ?_))
 refine Ad (nF h26) (Ar s25 (.here) rfl (Ad (nF h26) (Ad (nF h26) (Ad (nF h26) (Ad (nF h26) (Bx (by omega) (by omega) (Ad (nF h26) (G1 0 (yq7 + nq7) rfl rfl (by omega) (by omega) (by omega) ?_))))))))
 have z27 := zaw (a := B) (b := (0 : Int).toNat) (e := (yq7 + nq7).toNat)
 refine Ad (nF h26) (Cb s25 rfl (.agg (Gv (.cons (.own (by decide) Z9) (Gv (.cons (.own (by decide) Xq) (Mx (.cons (.own (by decide) Nl) (Is (.cons (.own (by decide) Nk) (.cons (.own (by decide) Df) (.cons (.own (by decide) Ct) .nil)))))))))) .nil) (Aa8 (n + 1) (by omega) (Dr (A7 B 0) (B.extract yq7.toNat (yq7 + nq7).toNat)) hyp (za9 hbd.b1 (by decide)) (za9 hbd.b2 (by decide)) (za9 hbd.b3 (by decide))) (C2 (Gl (Dr (A7 B 0) (B.extract yq7.toNat (yq7 + nq7).toNat)))) fun x28 H lx28 s29 => Ad (nF h26) (Ao (v := (.bool ((Gl (Dr (A7 B 0) (B.extract yq7.toNat (yq7 + nq7).toNat))).toList == (B.extract (0 : Int).toNat (yq7 + nq7).toNat).toList))) s29 rfl (.cons (.own (by decide) (.here)) (.cons .ro .nil)) (Jf (n + 11) _ (Gl (Dr (A7 B 0) (B.extract yq7.toNat (yq7 + nq7).toNat))) (B.extract (0 : Int).toNat (yq7 + nq7).toNat)) (Ad (nF h26) (B4 (Dq (nF h26) (Aa (((Gl (Dr (A7 B 0) (B.extract yq7.toNat (yq7 + nq7).toNat))).toList == (B.extract (0 : Int).toNat (yq7 + nq7).toNat).toList)) (fun h30 => ?_) fun h30 => ?_))))))
 refine Av (nF h30) (Ar s29 Ct rfl (Bx (by omega) (by omega) (Ca (cs' := [si ((Dr (A7 B 0) (B.extract yq7.toNat (yq7 + nq7).toNat)).fType), .sc (.bool (Dr (A7 B 0) (B.extract yq7.toNat (yq7 + nq7).toNat)).fDup), si ((Dr (A7 B 0) (B.extract yq7.toNat (yq7 + nq7).toNat)).fQos), .sc (.bool (Dr (A7 B 0) (B.extract yq7.toNat (yq7 + nq7).toNat)).fRetain), si ((Dr (A7 B 0) (B.extract yq7.toNat (yq7 + nq7).toNat)).fId), ss ((Dr (A7 B 0) (B.extract yq7.toNat (yq7 + nq7).toNat)).fTopic), x16, ss ((Dr (A7 B 0) (B.extract yq7.toNat (yq7 + nq7).toNat)).fClient), si ((Dr (A7 B 0) (B.extract yq7.toNat (yq7 + nq7).toNat)).fLevel), .sc (.bool (Dr (A7 B 0) (B.extract yq7.toNat (yq7 + nq7).toNat)).fClean), si ((Dr (A7 B 0) (B.extract yq7.toNat (yq7 + nq7).toNat)).fKeep), .sc (.bool (Dr (A7 B 0) (B.extract yq7.toNat (yq7 + nq7).toNat)).fHasWill), ss ((Dr (A7 B 0) (B.extract yq7.toNat (yq7 + nq7).toNat)).fWTopic), x17, si ((Dr (A7 B 0) (B.extract yq7.toNat (yq7 + nq7).toNat)).fWQos), .sc (.bool (Dr (A7 B 0) (B.extract yq7.toNat (yq7 + nq7).toNat)).fWRetain), .sc (.bool (Dr (A7 B 0) (B.extract yq7.toNat (yq7 + nq7).toNat)).fHasUser), ss ((Dr (A7 B 0) (B.extract yq7.toNat (yq7 + nq7).toNat)).fUser), .sc (.bool (Dr (A7 B 0) (B.extract yq7.toNat (yq7 + nq7).toNat)).fHasPass), x18, si ((Dr (A7 B 0) (B.extract yq7.toNat (yq7 + nq7).toNat)).fCode), .sc (.bool (Dr (A7 B 0) (B.extract yq7.toNat (yq7 + nq7).toNat)).fPresent), x19, x20, x21]) s29 zP8 (Ag (Ae rfl (Ae rfl (Ae rfl (Ae rfl (Ae rfl (Ae rfl (Ae lx16 (Ae rfl (Ae rfl (Ae rfl (Ae rfl (Ae rfl (Ae rfl (Ae lx17 (Ae rfl (Ae rfl (Ae rfl (Ae rfl (Ae rfl (Ae lx18 (Ae rfl (Ae rfl (Ae lx19 (Ae lx20 (Ae lx21 rfl)))))))))))))))))))))))))) rfl (B9 rfl) rfl fun H s31 => Ar s31 (.here) rfl ?_)))
 refine Ai (Cd s31 rfl (.agg ⟨_, rfl, rfl⟩ (D4 (.own zP8 (D4 (.own zP7 (Hw (.own Z9 (.sc (.sc (.own Xq (.own Nl (.own Nk .nil))))))))))) (.sc (.sc .nil))) ⟨(Mw ⟨_, rfl, rfl⟩ (D5 ⟨(B6 (C2 ((Dr (A7 B 0) (B.extract yq7.toNat (yq7 + nq7).toNat)).fBody)) (by decide)), (D5 ⟨(B6 (C2 ((Dr (A7 B 0) (B.extract yq7.toNat (yq7 + nq7).toNat)).fWBody)) (by decide)), (Hx ⟨(B6 (C2 ((Dr (A7 B 0) (B.extract yq7.toNat (yq7 + nq7).toNat)).fPass)) (by decide)), (Fu ⟨(B6 (Lr ((Dr (A7 B 0) (B.extract yq7.toNat (yq7 + nq7).toNat)).fWants)) (by decide)), ⟨(B6 (Wl ((Dr (A7 B 0) (B.extract yq7.toNat (yq7 + nq7).toNat)).fNames)) (by decide)), ⟨(B6 (Zs ((Dr (A7 B 0) (B.extract yq7.toNat (yq7 + nq7).toNat)).fCodes)) (by decide)), trivial⟩⟩⟩)⟩)⟩)⟩)), (Fu trivial)⟩) ?_
 have e : Fd Dr B = ((Dr (A7 B 0) (B.extract yq7.toNat (yq7 + nq7).toNat)), (yq7 + nq7), 0) := by
  unfold Fd E6 E5; simp only [h3, h6, h9, h10, h12, h26, h30, q7, if_true, if_false, zaa, reduceIte, Dv]
 rw [e]
 rfl
 refine Aq (nT h30) (Bf (cs := Ep) rfl (Ca (cs' := Ep) s29 zP8 (Ag rfl) rfl (B9 rfl) rfl fun H s32 => Ar s32 (.here) rfl (Ai (Cd s32 rfl (.agg ⟨_, rfl, rfl⟩ (D4 (.nl (D4 (.nl (Hw (.nl (.sc (.sc (.nl (.nl (.nl .nil))))))))))) (.sc (.sc .nil))) ⟨(Mw ⟨_, rfl, rfl⟩ (D5 ⟨Be, (D5 ⟨Be, (Hx ⟨Be, (Fu ⟨Be, ⟨Be, ⟨Be, trivial⟩⟩⟩)⟩)⟩)⟩)), (Fu trivial)⟩) ?_)))
 have e : Fd Dr B = ((B7 0), 0, 2) := by
  unfold Fd E6 E5; simp only [h3, h6, h9, h10, h12, h26, h30, q7, if_true, if_false, zaa, reduceIte, Dv]
 rw [e]
 rfl
 refine Ab (nT h26) (Ab (nT h26) (Ab (nT h26) (Ab (nT h26) (Ab (nT h26) (Ab (nT h26) (Ab (nT h26) (Ab (nT h26) (Ab (nT h26) (Ef (nT h26) (Aq rfl (Bf (cs := Ep) rfl (Ca (cs' := Ep) s25 zP7 (Ag rfl) rfl (B9 rfl) rfl fun H s33 => Ar s33 (.here) rfl (Ai (Cd s33 rfl (.agg ⟨_, rfl, rfl⟩ (D4 (.nl (D4 (.nl (Hw (.nl (.sc (.sc (.nl (.nl (.nl .nil))))))))))) (.sc (.sc .nil))) ⟨(Mw ⟨_, rfl, rfl⟩ (D5 ⟨Be, (D5 ⟨Be, (Hx ⟨Be, (Fu ⟨Be, ⟨Be, ⟨Be, trivial⟩⟩⟩)⟩)⟩)⟩)), (Fu trivial)⟩) ?_)))))))))))))
 have e : Fd Dr B = ((B7 0), 0, 2) := by
  unfold Fd E6 E5; simp only [h3, h6, h9, h10, h12, h26, q7, if_true, if_false, zaa, reduceIte, Dv]
 rw [e]
 rfl
 refine Ie s8 fun i34 H s35 => ?_
 have hR : (B.extract yq7.toNat (yq7 + nq7).toNat).size ≤ 340 := by rw [zaw]; omega
 have hbd := AkF (A7 B 0) (B.extract yq7.toNat (yq7 + nq7).toNat) hR
 have hyp := hbd.hyp (by decide)
 refine Se s35 rfl (.cons .sc (.cons .ro .nil)) (AkJ (n + 1) (by omega) (A7 B 0) (B.extract yq7.toNat (yq7 + nq7).toNat) (by omega) (by omega)) ⟨_, rfl, rfl⟩ (Ki _) ?_
 rintro _ _ H ⟨x36, x37, x38, x39, x40, x41, lx36, lx37, lx38, lx39, lx40, lx41, rfl, rfl⟩ s42
 simp only [zag, zau] at s42
 refine Ca (cs' := [si ((Dr (A7 B 0) (B.extract yq7.toNat (yq7 + nq7).toNat)).fType), .sc (.bool (Dr (A7 B 0) (B.extract yq7.toNat (yq7 + nq7).toNat)).fDup), si ((Dr (A7 B 0) (B.extract yq7.toNat (yq7 + nq7).toNat)).fQos), .sc (.bool (Dr (A7 B 0) (B.extract yq7.toNat (yq7 + nq7).toNat)).fRetain), si ((Dr (A7 B 0) (B.extract yq7.toNat (yq7 + nq7).toNat)).fId), ss ((Dr (A7 B 0) (B.extract yq7.toNat (yq7 + nq7).toNat)).fTopic), x36, ss ((Dr (A7 B 0) (B.extract yq7.toNat (yq7 + nq7).toNat)).fClient), si ((Dr (A7 B 0) (B.extract yq7.toNat (yq7 + nq7).toNat)).fLevel), .sc (.bool (Dr (A7 B 0) (B.extract yq7.toNat (yq7 + nq7).toNat)).fClean), si ((Dr (A7 B 0) (B.extract yq7.toNat (yq7 + nq7).toNat)).fKeep), .sc (.bool (Dr (A7 B 0) (B.extract yq7.toNat (yq7 + nq7).toNat)).fHasWill), ss ((Dr (A7 B 0) (B.extract yq7.toNat (yq7 + nq7).toNat)).fWTopic), x37, si ((Dr (A7 B 0) (B.extract yq7.toNat (yq7 + nq7).toNat)).fWQos), .sc (.bool (Dr (A7 B 0) (B.extract yq7.toNat (yq7 + nq7).toNat)).fWRetain), .sc (.bool (Dr (A7 B 0) (B.extract yq7.toNat (yq7 + nq7).toNat)).fHasUser), ss ((Dr (A7 B 0) (B.extract yq7.toNat (yq7 + nq7).toNat)).fUser), .sc (.bool (Dr (A7 B 0) (B.extract yq7.toNat (yq7 + nq7).toNat)).fHasPass), x38, si ((Dr (A7 B 0) (B.extract yq7.toNat (yq7 + nq7).toNat)).fCode), .sc (.bool (Dr (A7 B 0) (B.extract yq7.toNat (yq7 + nq7).toNat)).fPresent), x39, x40, x41]) s42 Z9 (Ag (Ae rfl (Ae rfl (Ae rfl (Ae rfl (Ae rfl (Ae rfl (Ae lx36 (Ae rfl (Ae rfl (Ae rfl (Ae rfl (Ae rfl (Ae rfl (Ae lx37 (Ae rfl (Ae rfl (Ae rfl (Ae rfl (Ae rfl (Ae lx38 (Ae rfl (Ae rfl (Ae lx39 (Ae lx40 (Ae lx41 rfl)))))))))))))))))))))))))) rfl (B9 rfl) rfl fun H s43 => Ar s43 (.here) rfl ?_
 refine Ao (v := (.bool (Ah (Dr (A7 B 0) (B.extract yq7.toNat (yq7 + nq7).toNat))))) s43 rfl (.agg (Gv (.cons (.own (by decide) Z9) (Gv (.cons (.own (by decide) Xq) (Mx (.cons (.own (by decide) Nl) (Is (.cons (.own (by decide) Nk) (.cons (.own (by decide) Df) (.cons (.own (by decide) Ct) .nil)))))))))) .nil) (Ql (n + 2) (by omega) (Dr (A7 B 0) (B.extract yq7.toNat (yq7 + nq7).toNat)) hyp) (B4 (Aa ((Ah (Dr (A7 B 0) (B.extract yq7.toNat (yq7 + nq7).toNat)))) (fun h44 => ?_) fun h44 => ?_))
 refine Ad (nF h44) (Ar s43 (.here) rfl (Ad (nF h44) (Ad (nF h44) (Ad (nF h44) (Ad (nF h44) (Bx (by omega) (by omega) (Ad (nF h44) (G1 0 (yq7 + nq7) rfl rfl (by omega) (by omega) (by omega) ?_))))))))
 have z45 := zaw (a := B) (b := (0 : Int).toNat) (e := (yq7 + nq7).toNat)
 refine Ad (nF h44) (Cb s43 rfl (.agg (Gv (.cons (.own (by decide) Z9) (Gv (.cons (.own (by decide) Xq) (Mx (.cons (.own (by decide) Nl) (Is (.cons (.own (by decide) Nk) (.cons (.own (by decide) Df) (.cons (.own (by decide) Ct) .nil)))))))))) .nil) (Aa8 (n + 1) (by omega) (Dr (A7 B 0) (B.extract yq7.toNat (yq7 + nq7).toNat)) hyp (za9 hbd.b1 (by decide)) (za9 hbd.b2 (by decide)) (za9 hbd.b3 (by decide))) (C2 (Gl (Dr (A7 B 0) (B.extract yq7.toNat (yq7 + nq7).toNat)))) fun x46 H lx46 s47 => Ad (nF h44) (Ao (v := (.bool ((Gl (Dr (A7 B 0) (B.extract yq7.toNat (yq7 + nq7).toNat))).toList == (B.extract (0 : Int).toNat (yq7 + nq7).toNat).toList))) s47 rfl (.cons (.own (by decide) (.here)) (.cons .ro .nil)) (Jf (n + 11) _ (Gl (Dr (A7 B 0) (B.extract yq7.toNat (yq7 + nq7).toNat))) (B.extract (0 : Int).toNat (yq7 + nq7).toNat)) (Ad (nF h44) (B4 (Dq (nF h44) (Aa (((Gl (Dr (A7 B 0) (B.extract yq7.toNat (yq7 + nq7).toNat))).toList == (B.extract (0 : Int).toNat (yq7 + nq7).toNat).toList)) (fun h48 => ?_) fun h48 => ?_))))))
 refine Av (nF h48) (Ar s47 Ct rfl (Bx (by omega) (by omega) (Ca (cs' := [si ((Dr (A7 B 0) (B.extract yq7.toNat (yq7 + nq7).toNat)).fType), .sc (.bool (Dr (A7 B 0) (B.extract yq7.toNat (yq7 + nq7).toNat)).fDup), si ((Dr (A7 B 0) (B.extract yq7.toNat (yq7 + nq7).toNat)).fQos), .sc (.bool (Dr (A7 B 0) (B.extract yq7.toNat (yq7 + nq7).toNat)).fRetain), si ((Dr (A7 B 0) (B.extract yq7.toNat (yq7 + nq7).toNat)).fId), ss ((Dr (A7 B 0) (B.extract yq7.toNat (yq7 + nq7).toNat)).fTopic), x36, ss ((Dr (A7 B 0) (B.extract yq7.toNat (yq7 + nq7).toNat)).fClient), si ((Dr (A7 B 0) (B.extract yq7.toNat (yq7 + nq7).toNat)).fLevel), .sc (.bool (Dr (A7 B 0) (B.extract yq7.toNat (yq7 + nq7).toNat)).fClean), si ((Dr (A7 B 0) (B.extract yq7.toNat (yq7 + nq7).toNat)).fKeep), .sc (.bool (Dr (A7 B 0) (B.extract yq7.toNat (yq7 + nq7).toNat)).fHasWill), ss ((Dr (A7 B 0) (B.extract yq7.toNat (yq7 + nq7).toNat)).fWTopic), x37, si ((Dr (A7 B 0) (B.extract yq7.toNat (yq7 + nq7).toNat)).fWQos), .sc (.bool (Dr (A7 B 0) (B.extract yq7.toNat (yq7 + nq7).toNat)).fWRetain), .sc (.bool (Dr (A7 B 0) (B.extract yq7.toNat (yq7 + nq7).toNat)).fHasUser), ss ((Dr (A7 B 0) (B.extract yq7.toNat (yq7 + nq7).toNat)).fUser), .sc (.bool (Dr (A7 B 0) (B.extract yq7.toNat (yq7 + nq7).toNat)).fHasPass), x38, si ((Dr (A7 B 0) (B.extract yq7.toNat (yq7 + nq7).toNat)).fCode), .sc (.bool (Dr (A7 B 0) (B.extract yq7.toNat (yq7 + nq7).toNat)).fPresent), x39, x40, x41]) s47 zP8 (Ag (Ae rfl (Ae rfl (Ae rfl (Ae rfl (Ae rfl (Ae rfl (Ae lx36 (Ae rfl (Ae rfl (Ae rfl (Ae rfl (Ae rfl (Ae rfl (Ae lx37 (Ae rfl (Ae rfl (Ae rfl (Ae rfl (Ae rfl (Ae lx38 (Ae rfl (Ae rfl (Ae lx39 (Ae lx40 (Ae lx41 rfl)))))))))))))))))))))))))) rfl (B9 rfl) rfl fun H s49 => Ar s49 (.here) rfl ?_)))
 refine Ai (Cd s49 rfl (.agg ⟨_, rfl, rfl⟩ (D4 (.own zP8 (D4 (.own zP7 (Hw (.own Z9 (.sc (.sc (.own Xq (.own Nl (.own Nk .nil))))))))))) (.sc (.sc .nil))) ⟨(Mw ⟨_, rfl, rfl⟩ (D5 ⟨(B6 (C2 ((Dr (A7 B 0) (B.extract yq7.toNat (yq7 + nq7).toNat)).fBody)) (by decide)), (D5 ⟨(B6 (C2 ((Dr (A7 B 0) (B.extract yq7.toNat (yq7 + nq7).toNat)).fWBody)) (by decide)), (Hx ⟨(B6 (C2 ((Dr (A7 B 0) (B.extract yq7.toNat (yq7 + nq7).toNat)).fPass)) (by decide)), (Fu ⟨(B6 (Lr ((Dr (A7 B 0) (B.extract yq7.toNat (yq7 + nq7).toNat)).fWants)) (by decide)), ⟨(B6 (Wl ((Dr (A7 B 0) (B.extract yq7.toNat (yq7 + nq7).toNat)).fNames)) (by decide)), ⟨(B6 (Zs ((Dr (A7 B 0) (B.extract yq7.toNat (yq7 + nq7).toNat)).fCodes)) (by decide)), trivial⟩⟩⟩)⟩)⟩)⟩)), (Fu trivial)⟩) ?_
 have e : Fd Dr B = ((Dr (A7 B 0) (B.extract yq7.toNat (yq7 + nq7).toNat)), (yq7 + nq7), 0) := by
  unfold Fd E6 E5; simp only [h3, h6, h9, h10, h12, h44, h48, q7, if_true, if_false, zaa, reduceIte, Dv]
 rw [e]
 rfl
 refine Aq (nT h48) (Bf (cs := Ep) rfl (Ca (cs' := Ep) s47 zP8 (Ag rfl) rfl (B9 rfl) rfl fun H s50 => Ar s50 (.here) rfl (Ai (Cd s50 rfl (.agg ⟨_, rfl, rfl⟩ (D4 (.nl (D4 (.nl (Hw (.nl (.sc (.sc (.nl (.nl (.nl .nil))))))))))) (.sc (.sc .nil))) ⟨(Mw ⟨_, rfl, rfl⟩ (D5 ⟨Be, (D5 ⟨Be, (Hx ⟨Be, (Fu ⟨Be, ⟨Be, ⟨Be, trivial⟩⟩⟩)⟩)⟩)⟩)), (Fu trivial)⟩) ?_)))
 have e : Fd Dr B = ((B7 0), 0, 2) := by
  unfold Fd E6 E5; simp only [h3, h6, h9, h10, h12, h44, h48, q7, if_true, if_false, zaa, reduceIte, Dv]
 rw [e]
 rfl
 refine Ab (nT h44) (Ab (nT h44) (Ab (nT h44) (Ab (nT h44) (Ab (nT h44) (Ab (nT h44) (Ab (nT h44) (Ab (nT h44) (Ab (nT h44) (Ef (nT h44) (Aq rfl (Bf (cs := Ep) rfl (Ca (cs' := Ep) s43 zP7 (Ag rfl) rfl (B9 rfl) rfl fun H s51 => Ar s51 (.here) rfl (Ai (Cd s51 rfl (.agg ⟨_, rfl, rfl⟩ (D4 (.nl (D4 (.nl (Hw (.nl (.sc (.sc (.nl (.nl (.nl .nil))))))))))) (.sc (.sc .nil))) ⟨(Mw ⟨_, rfl, rfl⟩ (D5 ⟨Be, (D5 ⟨Be, (Hx ⟨Be, (Fu ⟨Be, ⟨Be, ⟨Be, trivial⟩⟩⟩)⟩)⟩)⟩)), (Fu trivial)⟩) ?_)))))))))))))
 have e : Fd Dr B = ((B7 0), 0, 2) := by
  unfold Fd E6 E5; simp only [h3, h6, h9, h10, h12, h44, q7, if_true, if_false, zaa, reduceIte, Dv]
 rw [e]
 rfl
 have dh9 := of_decide_eq_false h9
 refine Aq (nT h9) (Bf (cs := Ep) rfl (Ca (cs' := Ep) s8 (.here) (Ag rfl) rfl (B9 rfl) rfl fun H s52 => Ar s52 (.here) rfl (Ai (Cd s52 rfl (.agg ⟨_, rfl, rfl⟩ (D4 (.nl (D4 (.nl (Hw (.nl (.sc (.sc (.nl (.nl (.nl .nil))))))))))) (.sc (.sc .nil))) ⟨(Mw ⟨_, rfl, rfl⟩ (D5 ⟨Be, (D5 ⟨Be, (Hx ⟨Be, (Fu ⟨Be, ⟨Be, ⟨Be, trivial⟩⟩⟩)⟩)⟩)⟩)), (Fu trivial)⟩) ?_)))
 have e : Fd Dr B = ((B7 0), 0, cq7) := by
  unfold Fd E6 E5; simp only [h3, h6, h9, q7, if_true, if_false, zaa, reduceIte, Dv]
 rw [e]
 rfl
 refine Aq (nT h6) (Bf (cs := Ep) rfl (Ca (cs' := Ep) s2 (.here) (Ag rfl) rfl (B9 rfl) rfl fun H s53 => Ar s53 (.here) rfl (Ai (Cd s53 rfl (.agg ⟨_, rfl, rfl⟩ (D4 (.nl (D4 (.nl (Hw (.nl (.sc (.sc (.nl (.nl (.nl .nil))))))))))) (.sc (.sc .nil))) ⟨(Mw ⟨_, rfl, rfl⟩ (D5 ⟨Be, (D5 ⟨Be, (Hx ⟨Be, (Fu ⟨Be, ⟨Be, ⟨Be, trivial⟩⟩⟩)⟩)⟩)⟩)), (Fu trivial)⟩) ?_)))
 have e : Fd Dr B = ((B7 0), 0, 2) := by
  unfold Fd E6 E5; simp only [h3, h6, if_true, if_false, zaa, reduceIte, Dv]
 rw [e]
 rfl
theorem Ah5 (n : Nat) (hn : 1048576 < n) (B : ByteArray) (hB : B.size ≤ 1048576) : Bz E0 (n + 13) 60 31 [Af B] = some (.tup [.agg (Ap (Fd Dm B).1), .sc (.int .i64 (Fd Dm B).2.1), .sc (.int .i64 (Fd Dm B).2.2)]) := by
 rw [At, Alr, f31]
 refine Ce (G := (· = some (.tup [.agg (Ap (Fd Dm B).1), .sc (.int .i64 (Fd Dm B).2.1), .sc (.int .i64 (Fd Dm B).2.2)]))) ?_
 try simp only [Fc, Fb]
 have s0 : Sep [] [] := B5
 refine Ie s0 fun i1 H s2 => Cn (A2 (Aa ((decide (((B.size : Nat) : Int) = 0))) (fun h3 => ?_) fun h3 => ?_))
 have dh3 := of_decide_eq_true h3
 refine Aq h3 (Bf (cs := Ep) rfl (Ca (cs' := Ep) s2 (.here) (Ag rfl) rfl (B9 rfl) rfl fun H s4 => Ar s4 (.here) rfl (Ai (Cd s4 rfl (.agg ⟨_, rfl, rfl⟩ (D4 (.nl (D4 (.nl (Hw (.nl (.sc (.sc (.nl (.nl (.nl .nil))))))))))) (.sc (.sc .nil))) ⟨(Mw ⟨_, rfl, rfl⟩ (D5 ⟨Be, (D5 ⟨Be, (Hx ⟨Be, (Fu ⟨Be, ⟨Be, ⟨Be, trivial⟩⟩⟩)⟩)⟩)⟩)), (Fu trivial)⟩) ?_)))
 have e : Fd Dm B = ((B7 0), 0, 1) := by
  unfold Fd E6 E5; simp only [h3, if_true, if_false, zaa, reduceIte, Dv]
 rw [e]
 rfl
 have dh3 := of_decide_eq_false h3
 refine Av h3 ?_
 have w5 := D6 B 0
 refine G0 (by omega) (by omega) fun _ => Fh (c := .sc (.int .u8 (A7 B 0))) rfl (Lg (by omega) (by omega) (Ao (v := (.bool (D1 (A7 B 0)))) s2 rfl (.cons .sc .nil) (by rw [← AgM (f := (A7 B 0)) (by omega) (by omega)]; exact Acf (n + 11) (by omega) (A7 B 0) (by omega)) (B4 (Aa ((D1 (A7 B 0))) (fun h6 => ?_) fun h6 => ?_))))
 refine Av (nF h6) ?_
 obtain ⟨nq7, yq7, cq7, q7⟩ : ∃ w y o, C1 B 1 = (w, y, o) := ⟨_, _, _, rfl⟩
 have bq7 := Ru (B := B) (a := 1)
 rw [q7] at bq7
 dsimp only at bq7
 refine Ek s2 rfl (.cons .ro (.cons .sc .nil)) (by have h := AjV (n + 10) (by omega) B 1 (by omega) (by omega); rw [q7] at h; exact h) rfl (Bg (Bg (Bg Ed))) ?_
 rintro _ _ H ⟨_, rfl, ⟨_, rfl, ⟨_, rfl, ⟨rfl, rfl⟩⟩⟩⟩ s8
 simp only [zag] at s8
 refine Bp (v := si nq7) rfl (Bp (v := si yq7) rfl (Bp (v := si cq7) rfl (Lh (Aa ((decide (cq7 = 0))) (fun h9 => ?_) fun h9 => ?_))))
 have dh9 := of_decide_eq_true h9
 replace bq7 := bq7 (of_decide_eq_true h9)
 refine Av (nF h9) (Ec (Aa ((decide (340 < nq7))) (fun h10 => ?_) fun h10 => ?_))
 have dh10 := of_decide_eq_true h10
 refine Aq h10 (Bf (cs := Ep) rfl (Ca (cs' := Ep) s8 (.here) (Ag rfl) rfl (B9 rfl) rfl fun H s11 => Ar s11 (.here) rfl (Ai (Cd s11 rfl (.agg ⟨_, rfl, rfl⟩ (D4 (.nl (D4 (.nl (Hw (.nl (.sc (.sc (.nl (.nl (.nl .nil))))))))))) (.sc (.sc .nil))) ⟨(Mw ⟨_, rfl, rfl⟩ (D5 ⟨Be, (D5 ⟨Be, (Hx ⟨Be, (Fu ⟨Be, ⟨Be, ⟨Be, trivial⟩⟩⟩)⟩)⟩)⟩)), (Fu trivial)⟩) ?_)))
 have e : Fd Dm B = ((B7 0), 0, 2) := by
  unfold Fd E6 E5; simp only [h3, h6, h9, h10, q7, if_true, if_false, zaa, reduceIte, Dv]
 rw [e]
 rfl
 have dh10 := of_decide_eq_false h10
 refine Av h10 (Cn (Nt (by omega) (by omega) (Ec (Aa ((decide ((((B.size : Nat) : Int) - yq7) < nq7))) (fun h12 => ?_) fun h12 => ?_))))
 have dh12 := of_decide_eq_true h12
 refine Aq h12 (Bf (cs := Ep) rfl (Ca (cs' := Ep) s8 (.here) (Ag rfl) rfl (B9 rfl) rfl fun H s13 => Ar s13 (.here) rfl (Ai (Cd s13 rfl (.agg ⟨_, rfl, rfl⟩ (D4 (.nl (D4 (.nl (Hw (.nl (.sc (.sc (.nl (.nl (.nl .nil))))))))))) (.sc (.sc .nil))) ⟨(Mw ⟨_, rfl, rfl⟩ (D5 ⟨Be, (D5 ⟨Be, (Hx ⟨Be, (Fu ⟨Be, ⟨Be, ⟨Be, trivial⟩⟩⟩)⟩)⟩)⟩)), (Fu trivial)⟩) ?_)))
 have e : Fd Dm B = ((B7 0), 0, 1) := by
  unfold Fd E6 E5; simp only [h3, h6, h9, h10, h12, q7, if_true, if_false, zaa, reduceIte, Dv]
 rw [e]
 rfl
 have dh12 := of_decide_eq_false h12
 refine Av h12 ?_
 have w14 := D6 B 0
 refine G0 (by omega) (by omega) fun _ => Fh (c := su (A7 B 0)) rfl (Lg (by omega) (by omega) (Bx (by omega) (by omega) (G1 yq7 (yq7 + nq7) rfl rfl (by omega) (by omega) (by omega) ?_)))
 have z15 := zaw (a := B) (b := yq7.toNat) (e := (yq7 + nq7).toNat)
 refine De (Gd.bothE ?_ ?_)
 have hR : (B.extract yq7.toNat (yq7 + nq7).toNat).size ≤ 340 := by rw [zaw]; omega
 have hbd := AkI (A7 B 0) (B.extract yq7.toNat (yq7 + nq7).toNat) hR
 have hyp := hbd.hyp (by decide)
 refine Se s8 rfl (.cons .sc (.cons .ro .nil)) (Ake (n + 5) (by omega) (A7 B 0) (B.extract yq7.toNat (yq7 + nq7).toNat) (by omega) (by omega)) ⟨_, rfl, rfl⟩ (Ki _) ?_
 rintro _ _ H ⟨x16, x17, x18, x19, x20, x21, lx16, lx17, lx18, lx19, lx20, lx21, rfl, rfl⟩ s22
 simp only [zag, zau] at s22
 refine Ie s22 fun i23 H s24 => Ca (cs' := [si ((Dm (A7 B 0) (B.extract yq7.toNat (yq7 + nq7).toNat)).fType), .sc (.bool (Dm (A7 B 0) (B.extract yq7.toNat (yq7 + nq7).toNat)).fDup), si ((Dm (A7 B 0) (B.extract yq7.toNat (yq7 + nq7).toNat)).fQos), .sc (.bool (Dm (A7 B 0) (B.extract yq7.toNat (yq7 + nq7).toNat)).fRetain), si ((Dm (A7 B 0) (B.extract yq7.toNat (yq7 + nq7).toNat)).fId), ss ((Dm (A7 B 0) (B.extract yq7.toNat (yq7 + nq7).toNat)).fTopic), x16, ss ((Dm (A7 B 0) (B.extract yq7.toNat (yq7 + nq7).toNat)).fClient), si ((Dm (A7 B 0) (B.extract yq7.toNat (yq7 + nq7).toNat)).fLevel), .sc (.bool (Dm (A7 B 0) (B.extract yq7.toNat (yq7 + nq7).toNat)).fClean), si ((Dm (A7 B 0) (B.extract yq7.toNat (yq7 + nq7).toNat)).fKeep), .sc (.bool (Dm (A7 B 0) (B.extract yq7.toNat (yq7 + nq7).toNat)).fHasWill), ss ((Dm (A7 B 0) (B.extract yq7.toNat (yq7 + nq7).toNat)).fWTopic), x17, si ((Dm (A7 B 0) (B.extract yq7.toNat (yq7 + nq7).toNat)).fWQos), .sc (.bool (Dm (A7 B 0) (B.extract yq7.toNat (yq7 + nq7).toNat)).fWRetain), .sc (.bool (Dm (A7 B 0) (B.extract yq7.toNat (yq7 + nq7).toNat)).fHasUser), ss ((Dm (A7 B 0) (B.extract yq7.toNat (yq7 + nq7).toNat)).fUser), .sc (.bool (Dm (A7 B 0) (B.extract yq7.toNat (yq7 + nq7).toNat)).fHasPass), x18, si ((Dm (A7 B 0) (B.extract yq7.toNat (yq7 + nq7).toNat)).fCode), .sc (.bool (Dm (A7 B 0) (B.extract yq7.toNat (yq7 + nq7).toNat)).fPresent), x19, x20, x21]) s24 (.here) (Ag (Ae rfl (Ae rfl (Ae rfl (Ae rfl (Ae rfl (Ae rfl (Ae lx16 (Ae rfl (Ae rfl (Ae rfl (Ae rfl (Ae rfl (Ae rfl (Ae lx17 (Ae rfl (Ae rfl (Ae rfl (Ae rfl (Ae rfl (Ae lx18 (Ae rfl (Ae rfl (Ae lx19 (Ae lx20 (Ae lx21 rfl)))))))))))))))))))))))))) rfl (B9 rfl) rfl fun H s25 => Ar s25 (.here) rfl ?_
 refine Ao (v := (.bool (Ah (Dm (A7 B 0) (B.extract yq7.toNat (yq7 + nq7).toNat))))) s25 rfl (.agg (Gv (.cons (.own (by decide) Z9) (Gv (.cons (.own (by decide) Xq) (Mx (.cons (.own (by decide) Nl) (Is (.cons (.own (by decide) Nk) (.cons (.own (by decide) Df) (.cons (.own (by decide) Ct) .nil)))))))))) .nil) (Qv (n + 2) (by omega) (Dm (A7 B 0) (B.extract yq7.toNat (yq7 + nq7).toNat)) hyp) (B4 (Aa ((Ah (Dm (A7 B 0) (B.extract yq7.toNat (yq7 + nq7).toNat)))) (fun h26 => ?_) fun h26 => ?_))
 refine Ad (nF h26) (Ar s25 (.here) rfl (Ad (nF h26) (Ad (nF h26) (Ad (nF h26) (Ad (nF h26) (Bx (by omega) (by omega) (Ad (nF h26) (G1 0 (yq7 + nq7) rfl rfl (by omega) (by omega) (by omega) ?_))))))))
 have z27 := zaw (a := B) (b := (0 : Int).toNat) (e := (yq7 + nq7).toNat)
 refine Ad (nF h26) (Cb s25 rfl (.agg (Gv (.cons (.own (by decide) Z9) (Gv (.cons (.own (by decide) Xq) (Mx (.cons (.own (by decide) Nl) (Is (.cons (.own (by decide) Nk) (.cons (.own (by decide) Df) (.cons (.own (by decide) Ct) .nil)))))))))) .nil) (AaU (n + 1) (by omega) (Dm (A7 B 0) (B.extract yq7.toNat (yq7 + nq7).toNat)) hyp (za9 hbd.b1 (by decide)) (za9 hbd.b2 (by decide)) (za9 hbd.b3 (by decide))) (C2 (Gl (Dm (A7 B 0) (B.extract yq7.toNat (yq7 + nq7).toNat)))) fun x28 H lx28 s29 => Ad (nF h26) (Ao (v := (.bool ((Gl (Dm (A7 B 0) (B.extract yq7.toNat (yq7 + nq7).toNat))).toList == (B.extract (0 : Int).toNat (yq7 + nq7).toNat).toList))) s29 rfl (.cons (.own (by decide) (.here)) (.cons .ro .nil)) (Sl (n + 11) _ (Gl (Dm (A7 B 0) (B.extract yq7.toNat (yq7 + nq7).toNat))) (B.extract (0 : Int).toNat (yq7 + nq7).toNat)) (Ad (nF h26) (B4 (Dq (nF h26) (Aa (((Gl (Dm (A7 B 0) (B.extract yq7.toNat (yq7 + nq7).toNat))).toList == (B.extract (0 : Int).toNat (yq7 + nq7).toNat).toList)) (fun h30 => ?_) fun h30 => ?_))))))
 refine Av (nF h30) (Ar s29 Ct rfl (Bx (by omega) (by omega) (Ca (cs' := [si ((Dm (A7 B 0) (B.extract yq7.toNat (yq7 + nq7).toNat)).fType), .sc (.bool (Dm (A7 B 0) (B.extract yq7.toNat (yq7 + nq7).toNat)).fDup), si ((Dm (A7 B 0) (B.extract yq7.toNat (yq7 + nq7).toNat)).fQos), .sc (.bool (Dm (A7 B 0) (B.extract yq7.toNat (yq7 + nq7).toNat)).fRetain), si ((Dm (A7 B 0) (B.extract yq7.toNat (yq7 + nq7).toNat)).fId), ss ((Dm (A7 B 0) (B.extract yq7.toNat (yq7 + nq7).toNat)).fTopic), x16, ss ((Dm (A7 B 0) (B.extract yq7.toNat (yq7 + nq7).toNat)).fClient), si ((Dm (A7 B 0) (B.extract yq7.toNat (yq7 + nq7).toNat)).fLevel), .sc (.bool (Dm (A7 B 0) (B.extract yq7.toNat (yq7 + nq7).toNat)).fClean), si ((Dm (A7 B 0) (B.extract yq7.toNat (yq7 + nq7).toNat)).fKeep), .sc (.bool (Dm (A7 B 0) (B.extract yq7.toNat (yq7 + nq7).toNat)).fHasWill), ss ((Dm (A7 B 0) (B.extract yq7.toNat (yq7 + nq7).toNat)).fWTopic), x17, si ((Dm (A7 B 0) (B.extract yq7.toNat (yq7 + nq7).toNat)).fWQos), .sc (.bool (Dm (A7 B 0) (B.extract yq7.toNat (yq7 + nq7).toNat)).fWRetain), .sc (.bool (Dm (A7 B 0) (B.extract yq7.toNat (yq7 + nq7).toNat)).fHasUser), ss ((Dm (A7 B 0) (B.extract yq7.toNat (yq7 + nq7).toNat)).fUser), .sc (.bool (Dm (A7 B 0) (B.extract yq7.toNat (yq7 + nq7).toNat)).fHasPass), x18, si ((Dm (A7 B 0) (B.extract yq7.toNat (yq7 + nq7).toNat)).fCode), .sc (.bool (Dm (A7 B 0) (B.extract yq7.toNat (yq7 + nq7).toNat)).fPresent), x19, x20, x21]) s29 zP8 (Ag (Ae rfl (Ae rfl (Ae rfl (Ae rfl (Ae rfl (Ae rfl (Ae lx16 (Ae rfl (Ae rfl (Ae rfl (Ae rfl (Ae rfl (Ae rfl (Ae lx17 (Ae rfl (Ae rfl (Ae rfl (Ae rfl (Ae rfl (Ae lx18 (Ae rfl (Ae rfl (Ae lx19 (Ae lx20 (Ae lx21 rfl)))))))))))))))))))))))))) rfl (B9 rfl) rfl fun H s31 => Ar s31 (.here) rfl ?_)))
 refine Ai (Cd s31 rfl (.agg ⟨_, rfl, rfl⟩ (D4 (.own zP8 (D4 (.own zP7 (Hw (.own Z9 (.sc (.sc (.own Xq (.own Nl (.own Nk .nil))))))))))) (.sc (.sc .nil))) ⟨(Mw ⟨_, rfl, rfl⟩ (D5 ⟨(B6 (C2 ((Dm (A7 B 0) (B.extract yq7.toNat (yq7 + nq7).toNat)).fBody)) (by decide)), (D5 ⟨(B6 (C2 ((Dm (A7 B 0) (B.extract yq7.toNat (yq7 + nq7).toNat)).fWBody)) (by decide)), (Hx ⟨(B6 (C2 ((Dm (A7 B 0) (B.extract yq7.toNat (yq7 + nq7).toNat)).fPass)) (by decide)), (Fu ⟨(B6 (Lr ((Dm (A7 B 0) (B.extract yq7.toNat (yq7 + nq7).toNat)).fWants)) (by decide)), ⟨(B6 (Wl ((Dm (A7 B 0) (B.extract yq7.toNat (yq7 + nq7).toNat)).fNames)) (by decide)), ⟨(B6 (Zs ((Dm (A7 B 0) (B.extract yq7.toNat (yq7 + nq7).toNat)).fCodes)) (by decide)), trivial⟩⟩⟩)⟩)⟩)⟩)), (Fu trivial)⟩) ?_
 have e : Fd Dm B = ((Dm (A7 B 0) (B.extract yq7.toNat (yq7 + nq7).toNat)), (yq7 + nq7), 0) := by
  unfold Fd E6 E5; simp only [h3, h6, h9, h10, h12, h26, h30, q7, if_true, if_false, zaa, reduceIte, Dv]
 rw [e]
 rfl
 refine Aq (nT h30) (Bf (cs := Ep) rfl (Ca (cs' := Ep) s29 zP8 (Ag rfl) rfl (B9 rfl) rfl fun H s32 => Ar s32 (.here) rfl (Ai (Cd s32 rfl (.agg ⟨_, rfl, rfl⟩ (D4 (.nl (D4 (.nl (Hw (.nl (.sc (.sc (.nl (.nl (.nl .nil))))))))))) (.sc (.sc .nil))) ⟨(Mw ⟨_, rfl, rfl⟩ (D5 ⟨Be, (D5 ⟨Be, (Hx ⟨Be, (Fu ⟨Be, ⟨Be, ⟨Be, trivial⟩⟩⟩)⟩)⟩)⟩)), (Fu trivial)⟩) ?_)))
 have e : Fd Dm B = ((B7 0), 0, 2) := by
  unfold Fd E6 E5; simp only [h3, h6, h9, h10, h12, h26, h30, q7, if_true, if_false, zaa, reduceIte, Dv]
 rw [e]
 rfl
 refine Ab (nT h26) (Ab (nT h26) (Ab (nT h26) (Ab (nT h26) (Ab (nT h26) (Ab (nT h26) (Ab (nT h26) (Ab (nT h26) (Ab (nT h26) (Ef (nT h26) (Aq rfl (Bf (cs := Ep) rfl (Ca (cs' := Ep) s25 zP7 (Ag rfl) rfl (B9 rfl) rfl fun H s33 => Ar s33 (.here) rfl (Ai (Cd s33 rfl (.agg ⟨_, rfl, rfl⟩ (D4 (.nl (D4 (.nl (Hw (.nl (.sc (.sc (.nl (.nl (.nl .nil))))))))))) (.sc (.sc .nil))) ⟨(Mw ⟨_, rfl, rfl⟩ (D5 ⟨Be, (D5 ⟨Be, (Hx ⟨Be, (Fu ⟨Be, ⟨Be, ⟨Be, trivial⟩⟩⟩)⟩)⟩)⟩)), (Fu trivial)⟩) ?_)))))))))))))
 have e : Fd Dm B = ((B7 0), 0, 2) := by
  unfold Fd E6 E5; simp only [h3, h6, h9, h10, h12, h26, q7, if_true, if_false, zaa, reduceIte, Dv]
 rw [e]
 rfl
 refine Ie s8 fun i34 H s35 => ?_
 have hR : (B.extract yq7.toNat (yq7 + nq7).toNat).size ≤ 340 := by rw [zaw]; omega
 have hbd := AkI (A7 B 0) (B.extract yq7.toNat (yq7 + nq7).toNat) hR
 have hyp := hbd.hyp (by decide)
 refine Se s35 rfl (.cons .sc (.cons .ro .nil)) (Ake (n + 5) (by omega) (A7 B 0) (B.extract yq7.toNat (yq7 + nq7).toNat) (by omega) (by omega)) ⟨_, rfl, rfl⟩ (Ki _) ?_
 rintro _ _ H ⟨x36, x37, x38, x39, x40, x41, lx36, lx37, lx38, lx39, lx40, lx41, rfl, rfl⟩ s42
 simp only [zag, zau] at s42
 refine Ca (cs' := [si ((Dm (A7 B 0) (B.extract yq7.toNat (yq7 + nq7).toNat)).fType), .sc (.bool (Dm (A7 B 0) (B.extract yq7.toNat (yq7 + nq7).toNat)).fDup), si ((Dm (A7 B 0) (B.extract yq7.toNat (yq7 + nq7).toNat)).fQos), .sc (.bool (Dm (A7 B 0) (B.extract yq7.toNat (yq7 + nq7).toNat)).fRetain), si ((Dm (A7 B 0) (B.extract yq7.toNat (yq7 + nq7).toNat)).fId), ss ((Dm (A7 B 0) (B.extract yq7.toNat (yq7 + nq7).toNat)).fTopic), x36, ss ((Dm (A7 B 0) (B.extract yq7.toNat (yq7 + nq7).toNat)).fClient), si ((Dm (A7 B 0) (B.extract yq7.toNat (yq7 + nq7).toNat)).fLevel), .sc (.bool (Dm (A7 B 0) (B.extract yq7.toNat (yq7 + nq7).toNat)).fClean), si ((Dm (A7 B 0) (B.extract yq7.toNat (yq7 + nq7).toNat)).fKeep), .sc (.bool (Dm (A7 B 0) (B.extract yq7.toNat (yq7 + nq7).toNat)).fHasWill), ss ((Dm (A7 B 0) (B.extract yq7.toNat (yq7 + nq7).toNat)).fWTopic), x37, si ((Dm (A7 B 0) (B.extract yq7.toNat (yq7 + nq7).toNat)).fWQos), .sc (.bool (Dm (A7 B 0) (B.extract yq7.toNat (yq7 + nq7).toNat)).fWRetain), .sc (.bool (Dm (A7 B 0) (B.extract yq7.toNat (yq7 + nq7).toNat)).fHasUser), ss ((Dm (A7 B 0) (B.extract yq7.toNat (yq7 + nq7).toNat)).fUser), .sc (.bool (Dm (A7 B 0) (B.extract yq7.toNat (yq7 + nq7).toNat)).fHasPass), x38, si ((Dm (A7 B 0) (B.extract yq7.toNat (yq7 + nq7).toNat)).fCode), .sc (.bool (Dm (A7 B 0) (B.extract yq7.toNat (yq7 + nq7).toNat)).fPresent), x39, x40, x41]) s42 Z9 (Ag (Ae rfl (Ae rfl (Ae rfl (Ae rfl (Ae rfl (Ae rfl (Ae lx36 (Ae rfl (Ae rfl (Ae rfl (Ae rfl (Ae rfl (Ae rfl (Ae lx37 (Ae rfl (Ae rfl (Ae rfl (Ae rfl (Ae rfl (Ae lx38 (Ae rfl (Ae rfl (Ae lx39 (Ae lx40 (Ae lx41 rfl)))))))))))))))))))))))))) rfl (B9 rfl) rfl fun H s43 => Ar s43 (.here) rfl ?_
 refine Ao (v := (.bool (Ah (Dm (A7 B 0) (B.extract yq7.toNat (yq7 + nq7).toNat))))) s43 rfl (.agg (Gv (.cons (.own (by decide) Z9) (Gv (.cons (.own (by decide) Xq) (Mx (.cons (.own (by decide) Nl) (Is (.cons (.own (by decide) Nk) (.cons (.own (by decide) Df) (.cons (.own (by decide) Ct) .nil)))))))))) .nil) (Qv (n + 2) (by omega) (Dm (A7 B 0) (B.extract yq7.toNat (yq7 + nq7).toNat)) hyp) (B4 (Aa ((Ah (Dm (A7 B 0) (B.extract yq7.toNat (yq7 + nq7).toNat)))) (fun h44 => ?_) fun h44 => ?_))
 refine Ad (nF h44) (Ar s43 (.here) rfl (Ad (nF h44) (Ad (nF h44) (Ad (nF h44) (Ad (nF h44) (Bx (by omega) (by omega) (Ad (nF h44) (G1 0 (yq7 + nq7) rfl rfl (by omega) (by omega) (by omega) ?_))))))))
 have z45 := zaw (a := B) (b := (0 : Int).toNat) (e := (yq7 + nq7).toNat)
 refine Ad (nF h44) (Cb s43 rfl (.agg (Gv (.cons (.own (by decide) Z9) (Gv (.cons (.own (by decide) Xq) (Mx (.cons (.own (by decide) Nl) (Is (.cons (.own (by decide) Nk) (.cons (.own (by decide) Df) (.cons (.own (by decide) Ct) .nil)))))))))) .nil) (AaU (n + 1) (by omega) (Dm (A7 B 0) (B.extract yq7.toNat (yq7 + nq7).toNat)) hyp (za9 hbd.b1 (by decide)) (za9 hbd.b2 (by decide)) (za9 hbd.b3 (by decide))) (C2 (Gl (Dm (A7 B 0) (B.extract yq7.toNat (yq7 + nq7).toNat)))) fun x46 H lx46 s47 => Ad (nF h44) (Ao (v := (.bool ((Gl (Dm (A7 B 0) (B.extract yq7.toNat (yq7 + nq7).toNat))).toList == (B.extract (0 : Int).toNat (yq7 + nq7).toNat).toList))) s47 rfl (.cons (.own (by decide) (.here)) (.cons .ro .nil)) (Sl (n + 11) _ (Gl (Dm (A7 B 0) (B.extract yq7.toNat (yq7 + nq7).toNat))) (B.extract (0 : Int).toNat (yq7 + nq7).toNat)) (Ad (nF h44) (B4 (Dq (nF h44) (Aa (((Gl (Dm (A7 B 0) (B.extract yq7.toNat (yq7 + nq7).toNat))).toList == (B.extract (0 : Int).toNat (yq7 + nq7).toNat).toList)) (fun h48 => ?_) fun h48 => ?_))))))
 refine Av (nF h48) (Ar s47 Ct rfl (Bx (by omega) (by omega) (Ca (cs' := [si ((Dm (A7 B 0) (B.extract yq7.toNat (yq7 + nq7).toNat)).fType), .sc (.bool (Dm (A7 B 0) (B.extract yq7.toNat (yq7 + nq7).toNat)).fDup), si ((Dm (A7 B 0) (B.extract yq7.toNat (yq7 + nq7).toNat)).fQos), .sc (.bool (Dm (A7 B 0) (B.extract yq7.toNat (yq7 + nq7).toNat)).fRetain), si ((Dm (A7 B 0) (B.extract yq7.toNat (yq7 + nq7).toNat)).fId), ss ((Dm (A7 B 0) (B.extract yq7.toNat (yq7 + nq7).toNat)).fTopic), x36, ss ((Dm (A7 B 0) (B.extract yq7.toNat (yq7 + nq7).toNat)).fClient), si ((Dm (A7 B 0) (B.extract yq7.toNat (yq7 + nq7).toNat)).fLevel), .sc (.bool (Dm (A7 B 0) (B.extract yq7.toNat (yq7 + nq7).toNat)).fClean), si ((Dm (A7 B 0) (B.extract yq7.toNat (yq7 + nq7).toNat)).fKeep), .sc (.bool (Dm (A7 B 0) (B.extract yq7.toNat (yq7 + nq7).toNat)).fHasWill), ss ((Dm (A7 B 0) (B.extract yq7.toNat (yq7 + nq7).toNat)).fWTopic), x37, si ((Dm (A7 B 0) (B.extract yq7.toNat (yq7 + nq7).toNat)).fWQos), .sc (.bool (Dm (A7 B 0) (B.extract yq7.toNat (yq7 + nq7).toNat)).fWRetain), .sc (.bool (Dm (A7 B 0) (B.extract yq7.toNat (yq7 + nq7).toNat)).fHasUser), ss ((Dm (A7 B 0) (B.extract yq7.toNat (yq7 + nq7).toNat)).fUser), .sc (.bool (Dm (A7 B 0) (B.extract yq7.toNat (yq7 + nq7).toNat)).fHasPass), x38, si ((Dm (A7 B 0) (B.extract yq7.toNat (yq7 + nq7).toNat)).fCode), .sc (.bool (Dm (A7 B 0) (B.extract yq7.toNat (yq7 + nq7).toNat)).fPresent), x39, x40, x41]) s47 zP8 (Ag (Ae rfl (Ae rfl (Ae rfl (Ae rfl (Ae rfl (Ae rfl (Ae lx36 (Ae rfl (Ae rfl (Ae rfl (Ae rfl (Ae rfl (Ae rfl (Ae lx37 (Ae rfl (Ae rfl (Ae rfl (Ae rfl (Ae rfl (Ae lx38 (Ae rfl (Ae rfl (Ae lx39 (Ae lx40 (Ae lx41 rfl)))))))))))))))))))))))))) rfl (B9 rfl) rfl fun H s49 => Ar s49 (.here) rfl ?_)))
 refine Ai (Cd s49 rfl (.agg ⟨_, rfl, rfl⟩ (D4 (.own zP8 (D4 (.own zP7 (Hw (.own Z9 (.sc (.sc (.own Xq (.own Nl (.own Nk .nil))))))))))) (.sc (.sc .nil))) ⟨(Mw ⟨_, rfl, rfl⟩ (D5 ⟨(B6 (C2 ((Dm (A7 B 0) (B.extract yq7.toNat (yq7 + nq7).toNat)).fBody)) (by decide)), (D5 ⟨(B6 (C2 ((Dm (A7 B 0) (B.extract yq7.toNat (yq7 + nq7).toNat)).fWBody)) (by decide)), (Hx ⟨(B6 (C2 ((Dm (A7 B 0) (B.extract yq7.toNat (yq7 + nq7).toNat)).fPass)) (by decide)), (Fu ⟨(B6 (Lr ((Dm (A7 B 0) (B.extract yq7.toNat (yq7 + nq7).toNat)).fWants)) (by decide)), ⟨(B6 (Wl ((Dm (A7 B 0) (B.extract yq7.toNat (yq7 + nq7).toNat)).fNames)) (by decide)), ⟨(B6 (Zs ((Dm (A7 B 0) (B.extract yq7.toNat (yq7 + nq7).toNat)).fCodes)) (by decide)), trivial⟩⟩⟩)⟩)⟩)⟩)), (Fu trivial)⟩) ?_
 have e : Fd Dm B = ((Dm (A7 B 0) (B.extract yq7.toNat (yq7 + nq7).toNat)), (yq7 + nq7), 0) := by
  unfold Fd E6 E5; simp only [h3, h6, h9, h10, h12, h44, h48, q7, if_true, if_false, zaa, reduceIte, Dv]
 rw [e]
 rfl
 refine Aq (nT h48) (Bf (cs := Ep) rfl (Ca (cs' := Ep) s47 zP8 (Ag rfl) rfl (B9 rfl) rfl fun H s50 => Ar s50 (.here) rfl (Ai (Cd s50 rfl (.agg ⟨_, rfl, rfl⟩ (D4 (.nl (D4 (.nl (Hw (.nl (.sc (.sc (.nl (.nl (.nl .nil))))))))))) (.sc (.sc .nil))) ⟨(Mw ⟨_, rfl, rfl⟩ (D5 ⟨Be, (D5 ⟨Be, (Hx ⟨Be, (Fu ⟨Be, ⟨Be, ⟨Be, trivial⟩⟩⟩)⟩)⟩)⟩)), (Fu trivial)⟩) ?_)))
 have e : Fd Dm B = ((B7 0), 0, 2) := by
  unfold Fd E6 E5; simp only [h3, h6, h9, h10, h12, h44, h48, q7, if_true, if_false, zaa, reduceIte, Dv]
 rw [e]
 rfl
 refine Ab (nT h44) (Ab (nT h44) (Ab (nT h44) (Ab (nT h44) (Ab (nT h44) (Ab (nT h44) (Ab (nT h44) (Ab (nT h44) (Ab (nT h44) (Ef (nT h44) (Aq rfl (Bf (cs := Ep) rfl (Ca (cs' := Ep) s43 zP7 (Ag rfl) rfl (B9 rfl) rfl fun H s51 => Ar s51 (.here) rfl (Ai (Cd s51 rfl (.agg ⟨_, rfl, rfl⟩ (D4 (.nl (D4 (.nl (Hw (.nl (.sc (.sc (.nl (.nl (.nl .nil))))))))))) (.sc (.sc .nil))) ⟨(Mw ⟨_, rfl, rfl⟩ (D5 ⟨Be, (D5 ⟨Be, (Hx ⟨Be, (Fu ⟨Be, ⟨Be, ⟨Be, trivial⟩⟩⟩)⟩)⟩)⟩)), (Fu trivial)⟩) ?_)))))))))))))
 have e : Fd Dm B = ((B7 0), 0, 2) := by
  unfold Fd E6 E5; simp only [h3, h6, h9, h10, h12, h44, q7, if_true, if_false, zaa, reduceIte, Dv]
 rw [e]
 rfl
 have dh9 := of_decide_eq_false h9
 refine Aq (nT h9) (Bf (cs := Ep) rfl (Ca (cs' := Ep) s8 (.here) (Ag rfl) rfl (B9 rfl) rfl fun H s52 => Ar s52 (.here) rfl (Ai (Cd s52 rfl (.agg ⟨_, rfl, rfl⟩ (D4 (.nl (D4 (.nl (Hw (.nl (.sc (.sc (.nl (.nl (.nl .nil))))))))))) (.sc (.sc .nil))) ⟨(Mw ⟨_, rfl, rfl⟩ (D5 ⟨Be, (D5 ⟨Be, (Hx ⟨Be, (Fu ⟨Be, ⟨Be, ⟨Be, trivial⟩⟩⟩)⟩)⟩)⟩)), (Fu trivial)⟩) ?_)))
 have e : Fd Dm B = ((B7 0), 0, cq7) := by
  unfold Fd E6 E5; simp only [h3, h6, h9, q7, if_true, if_false, zaa, reduceIte, Dv]
 rw [e]
 rfl
 refine Aq (nT h6) (Bf (cs := Ep) rfl (Ca (cs' := Ep) s2 (.here) (Ag rfl) rfl (B9 rfl) rfl fun H s53 => Ar s53 (.here) rfl (Ai (Cd s53 rfl (.agg ⟨_, rfl, rfl⟩ (D4 (.nl (D4 (.nl (Hw (.nl (.sc (.sc (.nl (.nl (.nl .nil))))))))))) (.sc (.sc .nil))) ⟨(Mw ⟨_, rfl, rfl⟩ (D5 ⟨Be, (D5 ⟨Be, (Hx ⟨Be, (Fu ⟨Be, ⟨Be, ⟨Be, trivial⟩⟩⟩)⟩)⟩)⟩)), (Fu trivial)⟩) ?_)))
 have e : Fd Dm B = ((B7 0), 0, 2) := by
  unfold Fd E6 E5; simp only [h3, h6, if_true, if_false, zaa, reduceIte, Dv]
 rw [e]
 rfl
end
section
open Go
theorem Aj4 {p : PacketV} (h : Ah p = true) (h1 : 4 ≤ p.fType) (h2 : p.fType ≤ 11) : 1 ≤ p.fId ∧ p.fId ≤ 65535 := by
 obtain ⟨_, _, hk⟩ := Hk h
 unfold Cs at hk
 rw [if_neg (by omega), if_neg (by omega), if_neg (by omega)] at hk
 by_cases h4 : p.fType = 4 ∨ p.fType = 5 ∨ p.fType = 6 ∨ p.fType = 7 ∨ p.fType = 11
 rwa [if_pos h4, Hf] at hk
 rw [if_neg h4, if_pos (by omega)] at hk
 simp only [zae, Hf] at hk
 exact hk.1
theorem Wc {p : PacketV} (h : Ah p = true) (h1 : p.fType = 8 ∨ p.fType = 9 ∨ p.fType = 10) : (∀ w ∈ p.fWants, Bd w.fFilter = true ∧ 0 ≤ w.fQos ∧ w.fQos < 256) ∧ (∀ w ∈ p.fNames, Bd w = true) ∧ (∀ c ∈ p.fCodes, 0 ≤ c ∧ c < 256) ∧ p.fWants.length + p.fNames.length + p.fCodes.length ≤ 4 := by
 obtain ⟨_, _, hk⟩ := Hk h
 unfold Cs at hk
 rw [if_neg (by omega), if_neg (by omega), if_neg (by omega), if_neg (by omega), if_pos h1] at hk
 unfold E4 I6 Jw Gr at hk
 simp only [zae, Hf, za6] at hk
 obtain ⟨_, k1, k2, k3, k4⟩ := hk
 refine ⟨fun w hw => ?_, fun w hw => T6 (k2 w hw), fun c hc => ?_, by omega⟩
 have := k1 w hw
 unfold Cm at this
 rw [zae, Hf] at this
 exact ⟨T6 this.1, by omega, by omega⟩
 have := k3 c hc
 unfold Ch at this
 rw [zaP, Hf, decide_eq_true_eq] at this
 omega
theorem Aj5 {p : PacketV} (h : Ah p = true) (h1 : 4 ≤ p.fType) (h2 : p.fType ≤ 11) : p = { B7 p.fType with fId := p.fId, fWants := p.fWants, fCodes := p.fCodes, fNames := p.fNames } := by
 obtain ⟨_, hn, _⟩ := Hk h
 obtain ⟨_, _, _, _, _, k6, k7, k8⟩ := Mp h
 unfold A0 at hn
 rw [if_neg (by omega), if_neg (by omega), if_neg (by omega)] at hn
 split at hn
 rw [k6 (by omega), k7 (by omega), k8 (by omega)]
 exact hn
 split at hn
 rw [k7 (by omega), k8 (by omega)]
 exact hn
 split at hn
 rw [k6 (by omega), k8 (by omega)]
 exact hn
 split at hn
 rw [k6 (by omega), k7 (by omega)]
 exact hn
 omega
theorem Acd {p : PacketV} (h : Ah p = true) (h1 : 4 ≤ p.fType) (h2 : p.fType ≤ 11) : Dr (Cv p) (C3 p) = p ∧ Dm (Cv p) (C3 p) = p := by
 have hid := Aj4 h h1 h2
 have ht := (Sb h).2
 have hz := Aj5 h h1 h2
 obtain ⟨_, _, _, _, _, k6, k7, k8⟩ := Mp h
 have er : C3 p = Ij p (An bs0 p.fId) := by
  unfold C3
  rw [if_neg (by omega), if_neg (by omega), if_neg (by omega), if_neg (by omega)]
 have hbl : bl (C3 p) = Qf p.fId ++ ((p.fWants.map N7).flatten ++ ((p.fCodes.map fun c => u8 (c % 256)) ++ (p.fNames.map It).flatten)) ∧ ∀ f a, f = p.fWants.length + p.fNames.length + p.fCodes.length + 1 → Sf (C3 p) a ((p.fWants.map N7).flatten ++ ((p.fCodes.map fun c => u8 (c % 256)) ++ (p.fNames.map It).flatten)) → (∀ g, f ≤ g → Cc p.fType (C3 p) g (a, false) [] [] [] = (p.fWants, p.fCodes, p.fNames)) ∧ (∀ g, f ≤ g → C0 p.fType (C3 p) g a [] [] = some (p.fWants, p.fNames)) ∧ ∀ g, f ≤ g → (if p.fType = 9 then Gq (C3 p) g a [] else []) = p.fCodes := by
  have hb0 : bl (An bs0 p.fId) = Qf p.fId := by
   rw [Rx]
   rfl
  by_cases h8 : p.fType = 8 ∨ p.fType = 9 ∨ p.fType = 10
  obtain ⟨l1, l2, l3, l4⟩ := Wc h h8
  refine ⟨?_, fun f a hf s => ?_⟩
  rw [er]
  unfold Ij
  rw [Aak _ _ l2, Aaj, Aal _ _ fun w hw => (l1 w hw).1, hb0]
  simp only [zai]
  rcases h8 with h8 | h8 | h8
  rw [k7 (by omega), k8 (by omega)] at s ⊢
  simp only [zaB, zbw, zan] at s
  rw [h8]
  refine ⟨fun g hg => ?_, fun g hg => ?_, fun g hg => by rw [if_neg (by decide)]⟩
  exact AnL p.fWants [] g a s l1 (by simp only [zao]; omega) (by omega)
  exact AnN p.fWants [] g a s l1 (by omega)
  rw [k6 (by omega), k8 (by omega)] at s ⊢
  simp only [zaB, zbw, zan, zag] at s
  rw [h8]
  refine ⟨fun g hg => ?_, fun g hg => ?_, fun g hg => ?_⟩
  exact AnM p.fCodes [] g a s l3 (by simp only [zao]; omega) (by omega)
  obtain ⟨g, rfl⟩ : ∃ k, g = k + 1 := ⟨g - 1, by omega⟩
  exact S1 (.inr (by decide))
  rw [if_pos rfl]
  exact rdC p.fCodes [] g a s l3 (by omega)
  rw [k6 (by omega), k7 (by omega)] at s ⊢
  simp only [zaB, zbw, zan, zag] at s
  rw [h8]
  refine ⟨fun g hg => ?_, fun g hg => ?_, fun g hg => by rw [if_neg (by decide)]⟩
  exact AkG p.fNames [] g a s l2 (by simp only [zao]; omega) (by omega)
  exact AkH p.fNames [] g a s l2 (by omega)
  have e6 := k6 (by omega)
  have e7 := k7 (by omega)
  have e8 := k8 (by omega)
  refine ⟨?_, fun f a hf s => ?_⟩
  rw [er, Aba e6 e7 e8, hb0, e6, e7, e8]
  simp
  rw [e6, e7, e8] at s ⊢
  simp only [zaB, zbw, zan] at s
  refine ⟨fun g hg => ?_, fun g hg => ?_, fun g hg => by rw [if_neg (by omega)]⟩
  obtain ⟨g, rfl⟩ : ∃ k, g = k + 1 := ⟨g - 1, by omega⟩
  exact U1 s
  obtain ⟨g, rfl⟩ : ∃ k, g = k + 1 := ⟨g - 1, by omega⟩
  exact S1 (.inr (by omega))
 obtain ⟨hb, hl⟩ := hbl
 have s0 := W2 _ hb
 have e0 := W3 s0 (by omega) (by omega)
 obtain ⟨k0, s1⟩ := Qs s0 (by omega) (by omega)
 obtain ⟨q1, q2, q3⟩ := hl _ _ rfl s1
 have hsz : p.fWants.length + p.fNames.length + p.fCodes.length + 1 ≤ (C3 p).size + 1 ∧ p.fWants.length + p.fNames.length + p.fCodes.length + 1 ≤ 8 := by
  by_cases h8 : p.fType = 8 ∨ p.fType = 9 ∨ p.fType = 10
  obtain ⟨l1, l2, l3, l4⟩ := Wc h h8
  have hl := s1.len
  have f1 : ∀ l : List WantV, l.length ≤ ((l.map N7).flatten).length := fun l => by
   induction l with
   | nil => simp
   | cons w l ih =>
    rw [zat, za3, zaf]
    have : 1 ≤ (N7 w).length := by simp [N7]
    simp only [zal]
    omega
  have f2 : ∀ l : List ByteArray, l.length ≤ ((l.map It).flatten).length := fun l => by
   induction l with
   | nil => simp
   | cons w l ih =>
    rw [zat, za3, zaf]
    have : 1 ≤ (It w).length := by simp [It, Qf]
    simp only [zal]
    omega
  have g1 := f1 p.fWants
  have g2 := f2 p.fNames
  simp only [zaf, List.length_map] at hl
  omega
  rw [k6 (by omega), k7 (by omega), k8 (by omega)]
  simp
 constructor
 unfold Dr
 dsimp only
 rw [ht, if_neg (by omega), if_neg (by omega), if_neg (by omega), if_neg (by omega), e0]
 dsimp only
 rw [q1 8 hsz.2]
 exact hz.symm
 unfold Dm
 rw [ht, if_neg (by omega), if_neg (by omega), if_neg (by omega), if_pos (by omega), k0]
 unfold F5
 dsimp only
 rw [if_neg (by simp), q3 _ hsz.1, q2 _ hsz.1]
 exact hz.symm
theorem Am7 {p : PacketV} (h : Ah p = true) : Dr (Cv p) (C3 p) = p ∧ Dm (Cv p) (C3 p) = p := by
 have ht := (Jj h).ty
 have hf := (Sb h).2
 by_cases h1 : p.fType = 1
 have e : C3 p = Fa p := by unfold C3; rw [if_pos h1]
 rw [e]
 unfold Dr Dm
 dsimp only
 rw [hf, h1, if_pos rfl, if_pos rfl]
 exact AjP h h1
 by_cases h2 : p.fType = 2
 have e : C3 p = A9 (A9 bs0 (Bb p.fPresent 1 % 256)) (p.fCode % 256) := by unfold C3; rw [if_neg h1, if_pos h2]
 obtain ⟨a, b, c⟩ := Am5 h h2 e
 unfold Dr Dm
 dsimp only
 rw [hf, h2, if_neg (by decide), if_pos rfl, if_neg (by decide), if_pos ⟨rfl, b⟩]
 exact ⟨a, c⟩
 by_cases h3 : p.fType = 3
 have e : C3 p = Ha p := by unfold C3; rw [if_neg h1, if_neg h2, if_pos h3]
 rw [e]
 exact Am6 h h3
 by_cases h4 : p.fType ≤ 11
 exact Acd h (by omega) h4
 have e : C3 p = bs0 := by unfold C3; rw [if_neg h1, if_neg h2, if_neg h3, if_pos (by omega)]
 have hz : p = B7 p.fType := by
  obtain ⟨_, hn, _⟩ := Hk h
  unfold A0 at hn
  rw [if_neg h1, if_neg h2, if_neg h3, if_neg (by omega), if_neg (by omega), if_neg (by omega), if_neg (by omega)] at hn
  exact hn
 unfold Dr Dm
 dsimp only
 rw [hf, e, if_neg h1, if_neg h2, if_neg h3, if_pos (by omega), if_neg h1, if_neg (by omega), if_neg h3, if_neg (by omega)]
 unfold F5
 dsimp only
 rw [if_neg (by simp), if_neg (by omega), S1 (.inr (by omega))]
 exact ⟨hz.symm, hz.symm⟩
theorem AjA {B : ByteArray} {a m : Int} (ha : 0 ≤ a) (hm : 0 ≤ m ∧ m < 128) (hb : A7 B a = m) (hs : a < ((B.size : Nat) : Int)) : C1 B a = (m, a + 1, 0) := by
 unfold C1
 rw [if_neg (by omega), D7, Int.add_zero, if_neg (by omega), hb, if_pos hm.2, if_neg (by omega), Pi hm.1 (by omega)]
 have e : bits .or .i64 0 (m % 128 * 2 ^ (7 * (0 : Int)).toNat) = m := by
  rw [show m % 128 * 2 ^ (7 * (0 : Int)).toNat = m by simp; omega, U0 7 0 m (by decide) (by decide) (by decide) (by omega) (by omega) (by omega)]
  omega
 rw [e]
theorem AjB {B : ByteArray} {a m : Int} (ha : 0 ≤ a) (hm : 128 ≤ m ∧ m < 16384) (hb : A7 B a = m % 128 + 128) (hb2 : A7 B (a + 1) = m / 128) (hs : a + 1 < ((B.size : Nat) : Int)) : C1 B a = (m, a + 2, 0) := by
 unfold C1
 rw [if_neg (by omega), D7, Int.add_zero, if_neg (by omega), hb, if_neg (by omega), Pi (by omega) (by omega)]
 have e : bits .or .i64 0 ((m % 128 + 128) % 128 * 2 ^ (7 * (0 : Int)).toNat) = m % 128 := by
  rw [show (m % 128 + 128) % 128 * 2 ^ (7 * (0 : Int)).toNat = m % 128 by simp, U0 7 0 (m % 128) (by decide) (by decide) (by decide) (by omega) (by omega) (by omega)]
  omega
 rw [e, Int.zero_add, D7, if_neg (by omega), hb2, if_pos (by omega), if_neg (by omega), Pi (by omega) (by omega)]
 have e2 : bits .or .i64 (m % 128) (m / 128 % 128 * 2 ^ (7 * (1 : Int)).toNat) = m := by
  rw [show m / 128 % 128 * 2 ^ (7 * (1 : Int)).toNat = m / 128 * 128 by
   have : m / 128 % 128 = m / 128 := by omega
   rw [this]
   rfl, Amz 7 (m / 128 * 128) (m % 128) (by omega) (by omega) (by omega) (by omega) (by omega) (by omega)]
  omega
 rw [e2, Int.add_assoc]
 rfl
theorem AaD (B : ByteArray) (a : Int) : ∀ (f : Nat) (i z : Int), (D7 B a f i z).2.2 = 0 → (D7 B a f i z).2.1 ≤ a + i + f
 | 0, i, z, h => by simp [D7] at h
 | f + 1, i, z, h => by
  rw [D7] at h ⊢
  split at h
  simp at h
  rename_i h2
  rw [if_neg h2]
  split at h
  rename_i h3
  rw [if_pos h3]
  split at h
  simp at h
  rename_i h4
  rw [if_neg h4]
  show a + i + 1 ≤ _
  omega
  rename_i h3
  rw [if_neg h3]
  have := AaD B a f (i + 1) _ h
  omega
theorem Acm {B : ByteArray} {a n x : Int} (h : C1 B a = (n, x, 0)) : x ≤ a + 4 := by
 unfold C1 at h
 split at h
 cases h
 have := AaD B a 4 0 0 (by rw [h])
 rw [h] at this
 simpa using this
theorem Adl {b : ByteArray} {m : Int} (h0 : 0 ≤ m) (h1 : m < 16384) : bl (Dc b m) = bl b ++ (if m < 128 then [u8 m] else [u8 (m % 128 + 128), u8 (m / 128)]) := by
 unfold Dc
 rw [if_pos (by rw [Hf]; omega)]
 unfold Li
 split
 unfold Li
 rw [if_neg (by omega), if_neg (by omega), I5, I5, zai, show (m % 128 + 128) % 256 = m % 128 + 128 by omega, show m / 128 % 256 = m / 128 by omega]
 rfl
 rw [if_pos (by omega), I5, show m % 256 = m by omega]
theorem Aht (p : PacketV) : (C3 p).size ≤ (Jz p).size := by
 unfold Jz
 rw [zaj]
 omega
theorem frame {p : PacketV} (h : Ah p = true) {B : ByteArray} {m : Int} (hm : m = (((C3 p).size : Nat) : Int)) (hm2 : m < 16384) {r : List UInt8} (hB : bl B = bl (Jz p) ++ r) : A7 B 0 = Cv p ∧ ∃ k, C1 B 1 = (m, k, 0) ∧ k + m = (((Jz p).size : Nat) : Int) ∧ (1 ≤ k ∧ k + m ≤ ((B.size : Nat) : Int)) ∧ B.extract k.toNat (k + m).toNat = C3 p := by
 obtain ⟨hf, _⟩ := Sb h
 have hsz : (Jz p).size + r.length = B.size := by
  rw [← Jn B, hB, zaf, Jn]
 have e : bl (Jz p) = u8 (Cv p) :: ((if m < 128 then [u8 m] else [u8 (m % 128 + 128), u8 (m / 128)]) ++ bl (C3 p)) := by
  unfold Jz
  rw [Y6, ← hm, Adl (by omega) hm2, I5, show Cv p % 256 = Cv p by omega]
  simp only [zai]
  rfl
 have s0 := W2 B hB
 rw [e] at s0
 obtain ⟨b0, _, s1⟩ := Sf.head s0
 rw [Lu hf.1 hf.2] at b0
 have el := congrArg List.length e
 rw [Jn] at el
 refine ⟨b0, ?_⟩
 have cut : ∀ (k : Int) , Sf B k (bl (C3 p) ++ r) → B.extract k.toNat (k + m).toNat = C3 p := fun k s => by
  apply Y8
  rw [Y7, s.2.2]
  have := s.1
  rw [show (k + m).toNat - k.toNat = (bl (C3 p)).length by rw [Jn]; omega, List.take_left]
 by_cases h1 : m < 128
 rw [if_pos h1] at s1 el
 obtain ⟨b1, l1, s2⟩ := Sf.head s1
 rw [Lu (by omega) (by omega)] at b1
 simp only [zal, zaf, zao, Jn] at el
 exact ⟨2, AjA (by omega) (by omega) b1 l1, by omega, by omega, cut 2 s2⟩
 rw [if_neg h1] at s1 el
 obtain ⟨b1, l1, s2⟩ := Sf.head s1
 obtain ⟨b2, l2, s3⟩ := Sf.head s2
 rw [Lu (by omega) (by omega)] at b1 b2
 simp only [zal, zaf, zao, Jn] at el
 exact ⟨3, AjB (by omega) (by omega) b1 b2 l2, by omega, by omega, cut 3 s3⟩
theorem Am4 {p : PacketV} (h : Ah p = true) : Gl p = Jz p := by
 unfold Gl
 rw [if_pos h]
theorem Ajw {B : ByteArray} {n a : Int} (hg : C1 B 1 = (n, a, 0)) (hn : 0 ≤ n ∧ n ≤ 340) (ha : 1 ≤ a) (hs : a + n ≤ ((B.size : Nat) : Int)) {p : PacketV} (h : Ah p = true) (hp : ((Gl p).toList == (B.extract (0 : Int).toNat (a + n).toNat).toList) = true) : Dr (A7 B 0) (B.extract a.toNat (a + n).toNat) = p ∧ Dm (A7 B 0) (B.extract a.toNat (a + n).toNat) = p := by
 have e := Q0 hp
 rw [Am4 h] at e
 have hat := Acm hg
 have e2 : bl (Jz p) = (bl B).take (a + n).toNat := by
  rw [e, Y7]
  simp
 have hsz : (Jz p).size = (a + n).toNat := by
  rw [← Jn, e2, List.length_take, Jn]
  omega
 have hle := Aht p
 have hB : bl B = bl (Jz p) ++ (bl B).drop (a + n).toNat := by
  rw [e2, List.take_append_drop]
 obtain ⟨b0, k, g, g2, g3, g4⟩ := frame h rfl (by omega) hB
 rw [hg] at g
 cases g
 rw [b0, g4]
 exact Am7 h
theorem Amm (B : ByteArray) : Fd Dm B = Fd Dr B := by
 unfold Fd
 split
 rfl
 split
 rfl
 obtain ⟨n, a, c, e⟩ : ∃ n a c, C1 B 1 = (n, a, c) := ⟨_, _, _, rfl⟩
 have hb := Ru (B := B) (a := 1)
 rw [e] at hb ⊢
 dsimp only at hb
 unfold E6
 dsimp only
 split
 rfl
 rename_i hc
 have hc : c = 0 := by simpa using hc
 subst hc
 split
 rfl
 rename_i hn
 simp only [decide_eq_true_eq, Int.not_lt] at hn
 split
 rfl
 rename_i hs
 simp only [decide_eq_true_eq, Int.not_lt] at hs
 have hb := hb rfl
 have key : ∀ p, Ah p = true → ((Gl p).toList == (B.extract (0 : Int).toNat (a + n).toNat).toList) = true → _ := fun p h hp => Ajw e (by omega) (by omega) (by omega) h hp
 unfold E5
 generalize hI : Dr (A7 B 0) (B.extract a.toNat (a + n).toNat) = x at key ⊢
 generalize hS : Dm (A7 B 0) (B.extract a.toNat (a + n).toNat) = y at key ⊢
 by_cases g1 : Ah x = true ∧ ((Gl x).toList == (B.extract (0 : Int).toNat (a + n).toNat).toList) = true
 have := (key x g1.1 g1.2).2
 rw [this]
 by_cases g2 : Ah y = true ∧ ((Gl y).toList == (B.extract (0 : Int).toNat (a + n).toNat).toList) = true
 have := (key y g2.1 g2.2).1
 rw [this]
 rw [if_pos, if_pos]
 simp only [zaP, Bool.not_eq_true', ← Bool.not_eq_true]
 by_cases k : Ah x = true
 exact .inr fun hq => g1 ⟨k, hq⟩
 exact .inl k
 simp only [zaP, Bool.not_eq_true', ← Bool.not_eq_true]
 by_cases k : Ah y = true
 exact .inr fun hq => g2 ⟨k, hq⟩
 exact .inl k
abbrev AhN (B : ByteArray) : PacketV × Int × Int := Fd Dr B
def Bv (B : ByteArray) : PacketV := (AhN B).1
def Adf (B : ByteArray) : Int := (AhN B).2.1
def Xh (B : ByteArray) : Int := (AhN B).2.2
theorem Ah6 (n : Nat) (hn : 1048576 < n) (x0 : ByteArray) (b0 : x0.size ≤ 1048576) : Bz E0 (n + 13) 60 31 [Af x0] = some (.tup [.agg (Ap (Bv x0)), .sc (.int .i64 (Adf x0)), .sc (.int .i64 (Xh x0))]) := by
 have h := Ah5 n hn x0 b0
 rw [Amm] at h
 exact h
theorem AgV (n : Nat) (hn : 1048576 < n) (x0 : ByteArray) (b0 : x0.size ≤ 1048576) : Bz E0 (n + 13) 60 33 [Af x0] = some (.tup [.agg (Ap (Bv x0)), .sc (.int .i64 (Adf x0)), .sc (.int .i64 (Xh x0))]) := AgU n hn x0 b0
end
section
open Go
def F7 (x : Ta) : Bool := decide (((x.fHeld.size : Nat) : Int) = 0) || (!x.fBad && decide (Xh x.fHeld = 1))
theorem AgS (n : Nat) (hn : 1048576 < n) (x : Ta) (b0 : x.fHeld.size ≤ 1048576) : Bz E0 (n + 14) 4 30 [.agg (Ic x)] = some (.sc (.bool (F7 x))) := by
 rw [At, Alq, f30]
 refine Ce (G := (· = some (sb (F7 x)))) ?_
 try simp only [Fc, Fb]
 have s0 : Sep [] [] := B5
 refine Id s0 (D0 (O4 _)) fun i1 H s2 => A4 (o' := 0) rfl (Al (c := Af x.fHeld) s2 (.here) rfl (Ek s2 rfl (.cons .ro .nil) (AgV n (by omega) x.fHeld b0) rfl (AcQ ⟨_, rfl, rfl⟩ (Ki _) (Bg (Bg Ed))) ?_))
 rintro _ _ H ⟨_, _, _, _, rfl, rfl, ⟨x3, x4, x5, x6, x7, x8, lx3, lx4, lx5, lx6, lx7, lx8, rfl, rfl⟩, ⟨_, rfl, ⟨_, rfl, ⟨rfl, rfl⟩⟩⟩⟩ s9
 simp only [zag, zau] at s9
 refine Bp (v := .agg [si ((Bv x.fHeld).fType), .sc (.bool (Bv x.fHeld).fDup), si ((Bv x.fHeld).fQos), .sc (.bool (Bv x.fHeld).fRetain), si ((Bv x.fHeld).fId), ss ((Bv x.fHeld).fTopic), x3, ss ((Bv x.fHeld).fClient), si ((Bv x.fHeld).fLevel), .sc (.bool (Bv x.fHeld).fClean), si ((Bv x.fHeld).fKeep), .sc (.bool (Bv x.fHeld).fHasWill), ss ((Bv x.fHeld).fWTopic), x4, si ((Bv x.fHeld).fWQos), .sc (.bool (Bv x.fHeld).fWRetain), .sc (.bool (Bv x.fHeld).fHasUser), ss ((Bv x.fHeld).fUser), .sc (.bool (Bv x.fHeld).fHasPass), x5, si ((Bv x.fHeld).fCode), .sc (.bool (Bv x.fHeld).fPresent), x6, x7, x8]) rfl (Bp (v := si (Adf x.fHeld)) rfl (Bp (v := si (Xh x.fHeld)) rfl (Ie s9 fun i10 H s11 => Ca (cs' := [si ((Bv x.fHeld).fType), .sc (.bool (Bv x.fHeld).fDup), si ((Bv x.fHeld).fQos), .sc (.bool (Bv x.fHeld).fRetain), si ((Bv x.fHeld).fId), ss ((Bv x.fHeld).fTopic), x3, ss ((Bv x.fHeld).fClient), si ((Bv x.fHeld).fLevel), .sc (.bool (Bv x.fHeld).fClean), si ((Bv x.fHeld).fKeep), .sc (.bool (Bv x.fHeld).fHasWill), ss ((Bv x.fHeld).fWTopic), x4, si ((Bv x.fHeld).fWQos), .sc (.bool (Bv x.fHeld).fWRetain), .sc (.bool (Bv x.fHeld).fHasUser), ss ((Bv x.fHeld).fUser), .sc (.bool (Bv x.fHeld).fHasPass), x5, si ((Bv x.fHeld).fCode), .sc (.bool (Bv x.fHeld).fPresent), x6, x7, x8]) s11 (.here) (Ag (Ae rfl (Ae rfl (Ae rfl (Ae rfl (Ae rfl (Ae rfl (Ae lx3 (Ae rfl (Ae rfl (Ae rfl (Ae rfl (Ae rfl (Ae rfl (Ae lx4 (Ae rfl (Ae rfl (Ae rfl (Ae rfl (Ae rfl (Ae lx5 (Ae rfl (Ae rfl (Ae lx6 (Ae lx7 (Ae lx8 rfl)))))))))))))))))))))))))) rfl (B9 rfl) rfl fun H s12 => A4 (o' := 0) rfl (Al (c := Af x.fHeld) s12 zP7 rfl (Cn (A2 (Aa ((decide (((x.fHeld.size : Nat) : Int) = 0))) (fun h13 => ?_) fun h13 => ?_)))))))
 have dh13 := of_decide_eq_true h13
 refine Ab h13 (Ab h13 (Ab h13 (Ab h13 (Dj (Dj (Ab h13 (Ef h13 (Ai rfl ?_))))))))
 have e : F7 x = true := by
  unfold F7; simp only [h13, zbg, zaC, zax, za0, za5, zaH, zaS, zbn]; first | done | rfl | (simp [zbG]; done)
 ·rw [e]
  first | done | rfl
 have dh13 := of_decide_eq_false h13
 refine Ad h13 (A4 (o' := 1) rfl (Ad h13 (Al (c := sb x.fBad) s12 zP7 rfl (Ad h13 (B4 (Ad h13 (Aa (x.fBad) (fun h14 => ?_) fun h14 => ?_)))))))
 refine Ab (nF h14) (Ab (nF h14) (Ad h13 (Dq (nF h14) (Dq h13 (Ai rfl ?_)))))
 have e : F7 x = false := by
  unfold F7; simp only [h13, h14, zbg, zaC, zax, za0, za5, zaH, zaS, zbn]; first | done | rfl | (simp [zbG]; done)
 ·rw [e]
  first | done | rfl
 refine Ad (nT h14) (Ad (nT h14) (A2 (Ad h13 (Ef (nT h14) (Dq h13 (Ai rfl ?_))))))
 have e : F7 x = (decide ((Xh x.fHeld) = 1)) := by
  unfold F7; simp only [h13, h14, zbg, zaC, zax, za0, za5, zaH, zaS, zbn]; first | done | rfl | (simp [zbG]; done)
 ·rw [e]
  first | done | rfl
theorem Ah3 (n : Nat) (hn : 1048576 < n) (x : Ta) (b0 : x.fHeld.size ≤ 1048576) : Bz E0 (n + 14) 4 29 [.agg (Ic x)] = some (.sc (.bool (F7 x))) := by
 rw [At, Alp, f29]
 refine Ce (G := (· = some (sb (F7 x)))) ?_
 try simp only [Fc, Fb]
 have s0 : Sep [] [] := B5
 refine Id s0 (D0 (O4 _)) fun i1 H s2 => A4 (o' := 0) rfl (Al (c := Af x.fHeld) s2 (.here) rfl (Cn (A2 (Aa ((decide (((x.fHeld.size : Nat) : Int) = 0))) (fun h3 => ?_) fun h3 => ?_))))
 have dh3 := of_decide_eq_true h3
 refine Aq h3 (Ai rfl ?_)
 have e : F7 x = true := by
  unfold F7; simp only [h3, zbg, zaC, zax, za0, za5, zaH, zaS, zbn]; first | done | rfl | (simp [zbG]; done)
 ·rw [e]
  first | done | rfl
 have dh3 := of_decide_eq_false h3
 refine Av h3 (A4 (o' := 0) rfl (Al (c := Af x.fHeld) s2 (.here) rfl (Ek s2 rfl (.cons .ro .nil) (Ah6 n (by omega) x.fHeld b0) rfl (AcQ ⟨_, rfl, rfl⟩ (Ki _) (Bg (Bg Ed))) ?_)))
 rintro _ _ H ⟨_, _, _, _, rfl, rfl, ⟨x4, x5, x6, x7, x8, x9, lx4, lx5, lx6, lx7, lx8, lx9, rfl, rfl⟩, ⟨_, rfl, ⟨_, rfl, ⟨rfl, rfl⟩⟩⟩⟩ s10
 simp only [zag, zau] at s10
 refine Bp (v := .agg [si ((Bv x.fHeld).fType), .sc (.bool (Bv x.fHeld).fDup), si ((Bv x.fHeld).fQos), .sc (.bool (Bv x.fHeld).fRetain), si ((Bv x.fHeld).fId), ss ((Bv x.fHeld).fTopic), x4, ss ((Bv x.fHeld).fClient), si ((Bv x.fHeld).fLevel), .sc (.bool (Bv x.fHeld).fClean), si ((Bv x.fHeld).fKeep), .sc (.bool (Bv x.fHeld).fHasWill), ss ((Bv x.fHeld).fWTopic), x5, si ((Bv x.fHeld).fWQos), .sc (.bool (Bv x.fHeld).fWRetain), .sc (.bool (Bv x.fHeld).fHasUser), ss ((Bv x.fHeld).fUser), .sc (.bool (Bv x.fHeld).fHasPass), x6, si ((Bv x.fHeld).fCode), .sc (.bool (Bv x.fHeld).fPresent), x7, x8, x9]) rfl (Bp (v := si (Adf x.fHeld)) rfl (Bp (v := si (Xh x.fHeld)) rfl (Ie s10 fun i11 H s12 => Ca (cs' := [si ((Bv x.fHeld).fType), .sc (.bool (Bv x.fHeld).fDup), si ((Bv x.fHeld).fQos), .sc (.bool (Bv x.fHeld).fRetain), si ((Bv x.fHeld).fId), ss ((Bv x.fHeld).fTopic), x4, ss ((Bv x.fHeld).fClient), si ((Bv x.fHeld).fLevel), .sc (.bool (Bv x.fHeld).fClean), si ((Bv x.fHeld).fKeep), .sc (.bool (Bv x.fHeld).fHasWill), ss ((Bv x.fHeld).fWTopic), x5, si ((Bv x.fHeld).fWQos), .sc (.bool (Bv x.fHeld).fWRetain), .sc (.bool (Bv x.fHeld).fHasUser), ss ((Bv x.fHeld).fUser), .sc (.bool (Bv x.fHeld).fHasPass), x6, si ((Bv x.fHeld).fCode), .sc (.bool (Bv x.fHeld).fPresent), x7, x8, x9]) s12 (.here) (Ag (Ae rfl (Ae rfl (Ae rfl (Ae rfl (Ae rfl (Ae rfl (Ae lx4 (Ae rfl (Ae rfl (Ae rfl (Ae rfl (Ae rfl (Ae rfl (Ae lx5 (Ae rfl (Ae rfl (Ae rfl (Ae rfl (Ae rfl (Ae lx6 (Ae rfl (Ae rfl (Ae lx7 (Ae lx8 (Ae lx9 rfl)))))))))))))))))))))))))) rfl (B9 rfl) rfl fun H s13 => A2 (Aa ((decide ((Xh x.fHeld) = 1))) (fun h14 => ?_) fun h14 => ?_))))
 have dh14 := of_decide_eq_true h14
 refine Ad h14 (A4 (o' := 1) rfl (Ad h14 (Al (c := sb x.fBad) s13 zP7 rfl (Ad h14 (B4 (Ef h14 (Ai rfl ?_)))))))
 have e : F7 x = (!x.fBad) := by
  unfold F7; simp only [h3, h14, zbg, zaC, zax, za0, za5, zaH, zaS, zbn]; first | done | rfl | (simp [zbG]; done)
 ·rw [e]
  first | done | rfl
 have dh14 := of_decide_eq_false h14
 refine Ab h14 (Ab h14 (Ab h14 (Dq h14 (Ai rfl ?_))))
 have e : F7 x = false := by
  unfold F7; simp only [h3, h14, zbg, zaC, zax, za0, za5, zaH, zaS, zbn]; first | done | rfl | (simp [zbG]; done)
 ·rw [e]
  first | done | rfl
end
section
open Go
def vE (s : ByteArray) : Bool := s.toList == (⟨#[]⟩ : ByteArray).toList
def F2 (m : Nm) : Bool := vE m.fTopic && (decide (((m.fBody.size : Nat) : Int) = 0) && (decide (m.fQos = 0) && !m.fRetain))
def Ku (c : Gs) : Bool := (c.fHasWill && H5 c.fW) || (!c.fHasWill && F2 c.fW)
def F4 (c : Gs) : Bool := if c.fUp then ((Bd c.fClient && !vE c.fClient) && (Bw c.fKeep 0 65535 && Ku c)) else (vE c.fClient && (decide (c.fKeep = 0) && (!c.fHasWill && F2 c.fW)))
def Kt (c : Gs) : Bool := decide (((c.fB.fHeld.size : Nat) : Int) = 0) && (!c.fB.fBad && (decide (((c.fPend.length : Nat) : Int) = 0) && (decide (((c.fOut.size : Nat) : Int) = 0) && (decide (c.fGen = 0) && (!c.fUp && (decide (c.fLast = 0) && (!c.fGone && F4 c)))))))
def Gh (c : Gs) : Bool := decide (1 ≤ c.fGen) && (F7 c.fB && (decide (((c.fPend.length : Nat) : Int) ≤ 6) && (decide (0 ≤ c.fLast) && F4 c)))
def Fv (c : Gs) : Bool := if c.fOpen then (c.fPend.all Ah && Gh c) else Kt c
structure Rv (c : Gs) : Prop where
 b : c.fB.fHeld.size ≤ 1048576
 l : c.fPend.length ≤ 1048576
 p : ∀ y ∈ c.fPend, G8 y
 t : c.fW.fTopic.size ≤ 1048576
 c : c.fClient.size ≤ 1048576
theorem Afb (c : Gs) (h : Iy c ≤ 1048576) : Rv c := by
 unfold Iy Un Uo at h
 have e1 := J3 Db c.fPend
 refine ⟨by omega, by omega, fun y hy => Am1 y ?_, by omega, by omega⟩
 have := M8 (wt := Db) hy
 omega
theorem ltD (a b : Int) : decide (a < b) = !decide (b ≤ a) := by by_cases h : b ≤ a <;> simp [h] <;> omega
theorem Hr {s : ByteArray} : (s.toList == (⟨#[]⟩ : ByteArray).toList) = decide (((s.size : Nat) : Int) = 0) := by
 rw [zbq, decide_eq_true_eq, eqB]
 constructor
 rintro rfl
 rfl
 intro h
 apply Y8
 have : (bl s).length = 0 := by rw [Jn]; omega
 rw [zar this]
def AeQ (a b : Nm) : Bool := a.fTopic.toList == b.fTopic.toList && (a.fBody.toList == b.fBody.toList && (decide (a.fQos = b.fQos) && (a.fRetain == b.fRetain)))
theorem Am8 (n : Nat) (hn : 1048576 < n) (a : Nm) (b : Nm) : Bz E0 (n + 2) 4 116 [.agg (Fn a), .agg (Fn b)] = some (.sc (.bool (AeQ a b))) := by
 rw [At, Ai2, f116]
 refine Ce (G := (· = some (sb (AeQ a b)))) ?_
 try simp only [Fc, Fb]
 have s0 : Sep [] [] := B5
 refine Id s0 (D0 (Jg _)) fun i1 H s2 => Id s2 (D0 (Jg _)) fun i3 H s4 => A4 (o' := 0) rfl (Al (c := ss a.fTopic) s4 Ct rfl (A4 (o' := 0) rfl (Al (c := ss b.fTopic) s4 (.here) rfl (Rm ?_))))
 apply Aw ((a.fTopic.toList == b.fTopic.toList) && (a.fBody.toList == b.fBody.toList))
 intro b5 q5
 refine Aa ((a.fTopic.toList == b.fTopic.toList)) (fun h5 => ?_) fun h5 => ?_
 exact Ad h5 (A4 (o' := 1) rfl (Ad h5 (Al (c := Af a.fBody) s4 Ct rfl (Ad h5 (A4 (o' := 1) rfl (Ad h5 (Al (c := Af b.fBody) s4 (.here) rfl (Ad h5 (Ao (v := (.bool (a.fBody.toList == b.fBody.toList))) s4 rfl (.cons .ro (.cons .ro .nil)) (Jf n _ a.fBody b.fBody) (Bs h5 (Ea q5 h5) Aj))))))))))
 exact Ab h5 (Ab h5 (Ab h5 (Ab h5 (Ab h5 (Br h5 (D9 q5 h5) Aj)))))
 intro b5 q5
 apply Aw (b5 && (decide (a.fQos = b.fQos)))
 intro b6 q6
 refine Aa (b5) (fun h6 => ?_) fun h6 => ?_
 exact Ad h6 (A4 (o' := 2) rfl (Ad h6 (Al (c := si a.fQos) s4 Ct rfl (Ad h6 (A4 (o' := 2) rfl (Ad h6 (Al (c := si b.fQos) s4 (.here) rfl (Ad h6 (A2 (Bs h6 (Ea q6 h6) Aj))))))))))
 exact Ab h6 (Ab h6 (Ab h6 (Ab h6 (Ab h6 (Br h6 (D9 q6 h6) Aj)))))
 intro b6 q6
 apply Aw (b6 && (a.fRetain == b.fRetain))
 intro b7 q7
 refine Aa (b6) (fun h7 => ?_) fun h7 => ?_
 exact Ad h7 (A4 (o' := 3) rfl (Ad h7 (Al (c := sb a.fRetain) s4 Ct rfl (Ad h7 (A4 (o' := 3) rfl (Ad h7 (Al (c := sb b.fRetain) s4 (.here) rfl (Ad h7 (Ami (v := sb (a.fRetain == b.fRetain)) (fun k => rfl) (Bs h7 (Ea q7 h7) Aj))))))))))
 exact Ab h7 (Ab h7 (Ab h7 (Ab h7 (Ab h7 (Br h7 (D9 q7 h7) Aj)))))
 intro b7 q7
 refine Ai rfl ?_
 have e : AeQ a b = b7 := by
  (simp only [AeQ, vE, Hr, q5, q6, q7, if_true, if_false, zaa, zaE, Dv]; ac_rfl)
 rw [e]
theorem AnO (m : Nm) : AeQ m ⟨⟨#[]⟩, ⟨#[]⟩, 0, false⟩ = F2 m := by
 unfold AeQ F2
 simp only [vE, Hr]
 cases m.fRetain <;> rfl
theorem Ah0 (n : Nat) (hn : 1048576 < n) (m : Nm) : Bz E0 (n + 2) 4 116 [.agg (Fn m), .agg (Fn ⟨⟨#[]⟩, ⟨#[]⟩, 0, false⟩)] = some (.sc (.bool (F2 m))) := by
 rw [← AnO]
 exact Am8 n hn m _
theorem AbY (n : Nat) (hn : 1048576 < n) (m : Nm) : Bz E0 (n + 1) 4 78 [.agg (Fn m)] = some (.sc (.bool (F2 m))) := by
 rw [At, AlJ, f78]
 refine Ce (G := (· = some (sb (F2 m)))) ?_
 try simp only [Fc, Fb]
 have s0 : Sep [] [] := B5
 refine Id s0 (D0 (Jg _)) fun i1 H s2 => A4 (o' := 0) rfl (Al (c := ss m.fTopic) s2 (.here) rfl (Rm ?_))
 apply Aw ((m.fTopic.toList == (⟨#[]⟩ : ByteArray).toList) && (decide (((m.fBody.size : Nat) : Int) = 0)))
 intro b3 q3
 refine Aa ((m.fTopic.toList == (⟨#[]⟩ : ByteArray).toList)) (fun h3 => ?_) fun h3 => ?_
 exact Ad h3 (A4 (o' := 1) rfl (Ad h3 (Al (c := Af m.fBody) s2 (.here) rfl (Ad h3 (Cn (Ad h3 (A2 (Bs h3 (Ea q3 h3) Aj))))))))
 exact Ab h3 (Ab h3 (Ab h3 (Ab h3 (Br h3 (D9 q3 h3) Aj))))
 intro b3 q3
 apply Aw (b3 && (decide (m.fQos = 0)))
 intro b4 q4
 refine Aa (b3) (fun h4 => ?_) fun h4 => ?_
 exact Ad h4 (A4 (o' := 2) rfl (Ad h4 (Al (c := si m.fQos) s2 (.here) rfl (Ad h4 (A2 (Bs h4 (Ea q4 h4) Aj))))))
 exact Ab h4 (Ab h4 (Ab h4 (Br h4 (D9 q4 h4) Aj)))
 intro b4 q4
 apply Aw (b4 && (!m.fRetain))
 intro b5 q5
 refine Aa (b4) (fun h5 => ?_) fun h5 => ?_
 exact Ad h5 (A4 (o' := 3) rfl (Ad h5 (Al (c := sb m.fRetain) s2 (.here) rfl (Ad h5 (B4 (Bs h5 (Ea q5 h5) Aj))))))
 exact Ab h5 (Ab h5 (Ab h5 (Br h5 (D9 q5 h5) Aj)))
 intro b5 q5
 refine Ai rfl ?_
 have e : F2 m = b5 := by
  (simp only [F2, vE, Hr, q3, q4, q5, if_true, if_false, zaa, zaE, Dv]; ac_rfl)
 rw [e]
theorem AnG (n : Nat) (hn : 1048576 < n) (s : ByteArray) (hs : s.size ≤ 1048576) : Bz E0 (n + 4) 4 117 [.sc (.string s)] = some (.sc (.bool (Bd s && !vE s))) := by
 rw [At, Ai3, f117]
 refine Ce (G := (· = some (sb (Bd s && !vE s)))) ?_
 try simp only [Fc, Fb]
 have s0 : Sep [] [] := B5
 refine Th rfl rfl (L6 _ s (Ow hs)) (Aa ((Bd s)) (fun h1 => ?_) fun h1 => ?_)
 refine Ad h1 (Ad h1 (Pv (Ef h1 (Ai rfl ?_))))
 have e : (Bd s && !vE s) = (!(s.toList == (⟨#[]⟩ : ByteArray).toList)) := by
  simp only [vE, h1, if_true, if_false, zaa, zaE, Dv]
 rw [e]
 refine Ab h1 (Ab h1 (Dq h1 (Ai rfl ?_)))
 have e : (Bd s && !vE s) = false := by
  simp only [vE, h1, if_true, if_false, zaa, zaE, Dv]
 rw [e]
theorem AcX (n : Nat) (hn : 1048576 < n) (c : Gs) (hc : Rv c) : Bz E0 (n + 8) 4 83 [.agg (Fs c)] = some (.sc (.bool (F4 c))) := by
 rw [At, AlO, f83]
 refine Ce (G := (· = some (sb (F4 c)))) ?_
 try simp only [Fc, Fb]
 have s0 : Sep [] [] := B5
 refine Id s0 (D0 (Ge _)) fun i1 H s2 => A4 (o' := 5) rfl (Al (c := sb c.fUp) s2 (.here) rfl (B4 (Aa (c.fUp) (fun h3 => ?_) fun h3 => ?_)))
 refine Av (nF h3) (A4 (o' := 6) rfl (Al (c := ss c.fClient) s2 (.here) rfl (Ao (v := (.bool (Bd c.fClient && !vE c.fClient))) s2 rfl (.cons .sc .nil) (AnG (n + 3) (by omega) c.fClient hc.c) ?_)))
 apply Aw ((Bd c.fClient && !vE c.fClient) && (Bw c.fKeep 0 65535))
 intro b4 q4
 refine Aa ((Bd c.fClient && !vE c.fClient)) (fun h4 => ?_) fun h4 => ?_
 exact Ad h4 (A4 (o' := 7) rfl (Ad h4 (Al (c := si c.fKeep) s2 (.here) rfl (Ad h4 (Ao (v := (.bool (Bw c.fKeep 0 65535))) s2 rfl (.cons .sc .nil) (AaA (n + 5) c.fKeep) (Bs h4 (Ea q4 h4) Aj))))))
 exact Ab h4 (Ab h4 (Ab h4 (Br h4 (D9 q4 h4) Aj)))
 intro b4 q4
 apply Aw (b4 && ((c.fHasWill && (H5 c.fW)) || ((!c.fHasWill) && (F2 c.fW))))
 intro b5 q5
 refine Aa (b4) (fun h5 => ?_) fun h5 => ?_
 refine Ad h5 (A4 (o' := 9) rfl (Ad h5 (Al (c := sb c.fHasWill) s2 (.here) rfl (Ad h5 ?_))))
 apply Aw (c.fHasWill && (H5 c.fW))
 intro b6 q6
 refine Aa (c.fHasWill) (fun h6 => ?_) fun h6 => ?_
 exact Ad h6 (A4 (o' := 10) rfl (Ad h6 (Q3 (ds := Fn c.fW) s2 (.here) (B9 rfl) rfl (Ad h6 (Ao (v := (.bool (H5 c.fW))) s2 rfl (.aggF (Jg _) .nil) (AgW (n + 1) (by omega) _ c.fW hc.t) (Ad h5 (Bs h6 (Ea q6 h6) Aj)))))))
 exact Ab h6 (Ab h6 (Ab h6 (Ad h5 (Br h6 (D9 q6 h6) Aj))))
 intro b6 q6
 refine Ad h5 ?_
 apply Aw (b6 || ((!c.fHasWill) && (F2 c.fW)))
 intro b7 q7
 refine Aa (b6) (fun h7 => ?_) fun h7 => ?_
 exact Ab h7 (Ab h7 (Ab h7 (Ab h7 (Dj (Dj (Dj (Dj (Ab h7 (Ad h5 (Bs h7 (Yl q7 h7) Aj))))))))))
 refine Ad h7 (A4 (o' := 9) rfl (Ad h7 (Al (c := sb c.fHasWill) s2 (.here) rfl (Ad h7 (B4 (Ad h7 ?_))))))
 apply Aw ((!c.fHasWill) && (F2 c.fW))
 intro b8 q8
 refine Aa (c.fHasWill) (fun h8 => ?_) fun h8 => ?_
 exact Ab (nF h8) (Ab (nF h8) (Ab (nF h8) (Ab (nF h8) (Ad h7 (Br (nF h8) (D9 q8 (nF h8)) Aj)))))
 exact Ad (nT h8) (A4 (o' := 10) rfl (Ad (nT h8) (Q3 (ds := Fn c.fW) s2 (.here) (B9 rfl) rfl (Ad (nT h8) (Bf (cs := [sE, .nl, i0, bF]) rfl (Ad (nT h8) (Ao (v := (.bool (F2 c.fW))) s2 rfl (.aggF (Jg _) (.agg (.cons .sc (.cons .nl (Is .nil))) .nil)) (Ah0 (n + 5) (by omega) c.fW) (Ad h7 (Bs (nT h8) (Ea q8 (nT h8)) Aj)))))))))
 intro b8 q8
 exact Ad h5 (Br h7 (by subst q8; exact Yk q7 h7) Aj)
 intro b7 q7
 exact Bs h5 (by subst q7 q6; exact Ea q5 h5) Aj
 exact Ab h5 (Ab h5 (Ab h5 (Dj (Dj (Dj (Ab h5 (Ab h5 (Dj (Dj (Dj (Dj (Dj (Dj (Dj (Dj (Dj (Ab h5 (Br h5 (D9 q5 h5) Aj))))))))))))))))))
 intro b5 q5
 refine Ai rfl ?_
 have e : F4 c = b5 := by
  (simp only [F4, Ku, vE, Hr, q4, q5, h3, if_true, if_false, zaa, zaE, Dv]; ac_rfl)
 rw [e]
 refine Aq (nT h3) (A4 (o' := 6) rfl (Al (c := ss c.fClient) s2 (.here) rfl (Rm ?_)))
 apply Aw ((c.fClient.toList == (⟨#[]⟩ : ByteArray).toList) && (decide (c.fKeep = 0)))
 intro b9 q9
 refine Aa ((c.fClient.toList == (⟨#[]⟩ : ByteArray).toList)) (fun h9 => ?_) fun h9 => ?_
 exact Ad h9 (A4 (o' := 7) rfl (Ad h9 (Al (c := si c.fKeep) s2 (.here) rfl (Ad h9 (A2 (Bs h9 (Ea q9 h9) Aj))))))
 exact Ab h9 (Ab h9 (Ab h9 (Br h9 (D9 q9 h9) Aj)))
 intro b9 q9
 apply Aw (b9 && (!c.fHasWill))
 intro b10 q10
 refine Aa (b9) (fun h10 => ?_) fun h10 => ?_
 exact Ad h10 (A4 (o' := 9) rfl (Ad h10 (Al (c := sb c.fHasWill) s2 (.here) rfl (Ad h10 (B4 (Bs h10 (Ea q10 h10) Aj))))))
 exact Ab h10 (Ab h10 (Ab h10 (Br h10 (D9 q10 h10) Aj)))
 intro b10 q10
 apply Aw (b10 && (F2 c.fW))
 intro b11 q11
 refine Aa (b10) (fun h11 => ?_) fun h11 => ?_
 exact Ad h11 (A4 (o' := 10) rfl (Ad h11 (Q3 (ds := Fn c.fW) s2 (.here) (B9 rfl) rfl (Ad h11 (Bf (cs := [sE, .nl, i0, bF]) rfl (Ad h11 (Ao (v := (.bool (F2 c.fW))) s2 rfl (.aggF (Jg _) (.agg (.cons .sc (.cons .nl (Is .nil))) .nil)) (Ah0 (n + 5) (by omega) c.fW) (Bs h11 (Ea q11 h11) Aj))))))))
 exact Ab h11 (Ab h11 (Ab h11 (Ab h11 (Br h11 (D9 q11 h11) Aj))))
 intro b11 q11
 refine Ai rfl ?_
 have e : F4 c = b11 := by
  (simp only [F4, Ku, vE, Hr, q9, q10, q11, h3, if_true, if_false, zaa, zaE, Dv]; ac_rfl)
 rw [e]
theorem Aih (n : Nat) (hn : 1048576 < n) (c : Gs) (hc : Rv c) : Bz E0 (n + 9) 4 82 [.agg (Fs c)] = some (.sc (.bool (Kt c))) := by
 rw [At, AlN, f82]
 refine Ce (G := (· = some (sb (Kt c)))) ?_
 try simp only [Fc, Fb]
 have s0 : Sep [] [] := B5
 refine Id s0 (D0 (Ge _)) fun i1 H s2 => A4 (o' := 2) rfl (A4 (o' := 2) rfl (Al (c := Af c.fB.fHeld) s2 (.here) rfl (Cn (A2 ?_))))
 apply Aw ((decide (((c.fB.fHeld.size : Nat) : Int) = 0)) && (!c.fB.fBad))
 intro b3 q3
 refine Aa ((decide (((c.fB.fHeld.size : Nat) : Int) = 0))) (fun h3 => ?_) fun h3 => ?_
 exact Ad h3 (A4 (o' := 2) rfl (Ad h3 (A4 (o' := 3) rfl (Ad h3 (Al (c := sb c.fB.fBad) s2 (.here) rfl (Ad h3 (B4 (Bs h3 (Ea q3 h3) Aj))))))))
 exact Ab h3 (Ab h3 (Ab h3 (Ab h3 (Br h3 (D9 q3 h3) Aj))))
 intro b3 q3
 apply Aw (b3 && (decide (((c.fPend.length : Nat) : Int) = 0)))
 intro b4 q4
 refine Aa (b3) (fun h4 => ?_) fun h4 => ?_
 exact Ad h4 (A4 (o' := 4) rfl (Ad h4 (Al (c := Ci Ap c.fPend) s2 (.here) rfl (Ad h4 (Cn (Ad h4 (A2 (Bs h4 (Ea q4 h4) Aj))))))))
 exact Ab h4 (Ab h4 (Ab h4 (Ab h4 (Br h4 (D9 q4 h4) Aj))))
 intro b4 q4
 apply Aw (b4 && (decide (((c.fOut.size : Nat) : Int) = 0)))
 intro b5 q5
 refine Aa (b4) (fun h5 => ?_) fun h5 => ?_
 exact Ad h5 (A4 (o' := 15) rfl (Ad h5 (Al (c := Af c.fOut) s2 (.here) rfl (Ad h5 (Cn (Ad h5 (A2 (Bs h5 (Ea q5 h5) Aj))))))))
 exact Ab h5 (Ab h5 (Ab h5 (Ab h5 (Br h5 (D9 q5 h5) Aj))))
 intro b5 q5
 apply Aw (b5 && (decide (c.fGen = 0)))
 intro b6 q6
 refine Aa (b5) (fun h6 => ?_) fun h6 => ?_
 exact Ad h6 (A4 (o' := 1) rfl (Ad h6 (Al (c := si c.fGen) s2 (.here) rfl (Ad h6 (A2 (Bs h6 (Ea q6 h6) Aj))))))
 exact Ab h6 (Ab h6 (Ab h6 (Br h6 (D9 q6 h6) Aj)))
 intro b6 q6
 apply Aw (b6 && (!c.fUp))
 intro b7 q7
 refine Aa (b6) (fun h7 => ?_) fun h7 => ?_
 exact Ad h7 (A4 (o' := 5) rfl (Ad h7 (Al (c := sb c.fUp) s2 (.here) rfl (Ad h7 (B4 (Bs h7 (Ea q7 h7) Aj))))))
 exact Ab h7 (Ab h7 (Ab h7 (Br h7 (D9 q7 h7) Aj)))
 intro b7 q7
 apply Aw (b7 && (decide (c.fLast = 0)))
 intro b8 q8
 refine Aa (b7) (fun h8 => ?_) fun h8 => ?_
 exact Ad h8 (A4 (o' := 8) rfl (Ad h8 (Al (c := si c.fLast) s2 (.here) rfl (Ad h8 (A2 (Bs h8 (Ea q8 h8) Aj))))))
 exact Ab h8 (Ab h8 (Ab h8 (Br h8 (D9 q8 h8) Aj)))
 intro b8 q8
 apply Aw (b8 && (!c.fGone))
 intro b9 q9
 refine Aa (b8) (fun h9 => ?_) fun h9 => ?_
 exact Ad h9 (A4 (o' := 14) rfl (Ad h9 (Al (c := sb c.fGone) s2 (.here) rfl (Ad h9 (B4 (Bs h9 (Ea q9 h9) Aj))))))
 exact Ab h9 (Ab h9 (Ab h9 (Br h9 (D9 q9 h9) Aj)))
 intro b9 q9
 apply Aw (b9 && (F4 c))
 intro b10 q10
 refine Aa (b9) (fun h10 => ?_) fun h10 => ?_
 exact Ad h10 (Ar s2 (.here) rfl (Ad h10 (Ao (v := (.bool (F4 c))) s2 rfl (.aggF (Ge _) .nil) (AcX n (by omega) c hc) (Bs h10 (Ea q10 h10) Aj))))
 exact Ab h10 (Ab h10 (Br h10 (D9 q10 h10) Aj))
 intro b10 q10
 refine Ai rfl ?_
 have e : Kt c = b10 := by
  (simp only [Kt, vE, Hr, q3, q4, q5, q6, q7, q8, q9, q10, if_true, if_false, zaa, zaE, Dv]; ac_rfl)
 rw [e]
theorem Sg (n : Nat) (hn : 1048576 < n) (c : Gs) (hc : Rv c) (h3 : c.fOpen = true)  : ∀ (t pre : List PacketV) (m : Nat) (i : Int) (i1 : Nat) (H : Ac), c.fPend = pre ++ t → i = ((pre.length : Nat) : Int) → t.length < m → Sep H [.blk i1 (Fs c) true] → Gd (· = some (.sc (.bool (t.all Ah && Gh c)))) (Rf (PR (n + 15) AV) (n + 15) (fun x H => Bc As E0.tp 4 H x) m (.ptr i1 0) (Ci Ap c.fPend) (.sc (.int .i64 ((c.fPend.length : Nat) : Int))) (.sc (.int .i64 i)) H)
 | [], pre, m + 1, i, i1, H, he, hi, hm, s0 => by
  obtain rfl : pre = c.fPend := by simpa using he.symm
  have hl := hc.l
  have hl := hc.l
  rw [Rf]
  try simp only [Fc, Fb]
  refine Dd (Av (by simp [hi]) (A4 (o' := 1) rfl (Al (c := .sc (.int .i64 c.fGen)) s0 (.here) rfl (Ya ?_))))
  apply Aw ((decide (1 ≤ c.fGen)) && (F7 c.fB))
  intro b201 q201
  refine Aa ((decide (1 ≤ c.fGen))) (fun h201 => ?_) fun h201 => ?_
  exact Ad h201 (A4 (o' := 2) rfl (Ad h201 (Q3 (ds := Ic c.fB) s0 (.here) (B9 rfl) rfl (Ad h201 (Ao (v := (.bool (F7 c.fB))) s0 rfl (.aggF (O4 _) .nil) (AgS (n + 1) (by omega) c.fB hc.b) (Bs h201 (Ea q201 h201) Aj))))))
  exact Ab h201 (Ab h201 (Ab h201 (Br h201 (D9 q201 h201) Aj)))
  intro b201 q201
  apply Aw (b201 && (decide (((c.fPend.length : Nat) : Int) ≤ 6)))
  intro b202 q202
  refine Aa (b201) (fun h202 => ?_) fun h202 => ?_
  exact Ad h202 (A4 (o' := 4) rfl (Ad h202 (Al (c := Ci Ap c.fPend) s0 (.here) rfl (Ad h202 (Cn (Ad h202 (O5 (Bs h202 (Ea q202 h202) Aj))))))))
  exact Ab h202 (Ab h202 (Ab h202 (Ab h202 (Br h202 (D9 q202 h202) Aj))))
  intro b202 q202
  apply Aw (b202 && (decide (0 ≤ c.fLast)))
  intro b203 q203
  refine Aa (b202) (fun h203 => ?_) fun h203 => ?_
  exact Ad h203 (A4 (o' := 8) rfl (Ad h203 (Al (c := si c.fLast) s0 (.here) rfl (Ad h203 (Ya (Bs h203 (Ea q203 h203) Aj))))))
  exact Ab h203 (Ab h203 (Ab h203 (Br h203 (D9 q203 h203) Aj)))
  intro b203 q203
  apply Aw (b203 && (F4 c))
  intro b204 q204
  refine Aa (b203) (fun h204 => ?_) fun h204 => ?_
  exact Ad h204 (Ar s0 (.here) rfl (Ad h204 (Ao (v := (.bool (F4 c))) s0 rfl (.aggF (Ge _) .nil) (AcX (n + 7) (by omega) c hc) (Bs h204 (Ea q204 h204) Aj))))
  exact Ab h204 (Ab h204 (Br h204 (D9 q204 h204) Aj))
  intro b204 q204
  refine Ai rfl ?_
  have e : ([].all Ah && Gh c) = b204 := by
   (simp only [Gh, F4, Ku, vE, Hr, q201, q202, q203, q204, zas, za7, h3, if_true, if_false, zaa, zaE, Dv]; ac_rfl)
  rw [e]
 | y :: t, pre, m + 1, i, i1, H, he, hi, hm, s0 => by
  have hlt : pre.length < c.fPend.length := by rw [he]; simp
  have hl := hc.l
  have hl := hc.l
  rw [Rf]
  try simp only [Fc, Fb]
  refine Dd (Aq (by simp [hi]; omega) (K8 hi Ji (by decide) he (AcN (Ji _) (Ie s0 fun i201 H s202 => Ca (cs' := Ap y) s202 (.here) (D0 (Cf _)) rfl (B9 rfl) rfl fun H s203 => Ar s203 (.here) rfl (Ao (v := (.bool (Ah y))) s203 rfl (.aggF (Cf _) .nil) (Ql (n + 5) (by omega) y (hc.p y (by rw [he]; simp))) (B4 (Aa ((Ah y)) (fun h204 => ?_) fun h204 => ?_)))))))
  refine Av (nF h204) (Bx (by omega) (by omega) ?_)
  have e205 : ((y :: t).all Ah && Gh c) = (t.all Ah && Gh c) := by
   try simp only [bne_iff_ne, beq_iff_eq, beq_eq_false_iff_ne, Cw] at h3 h204
   simp only [zas, h3, h204, za5]
  rw [e205]
  exact Sg n hn c hc h3  t (pre ++ [y]) m _ i1 _ (by rw [he]; simp) (by rw [hi]; simp) (by simpa using hm) (by simpa only [za2, zat, zaB] using (s203.sel (.cons Ct .nil)))
  refine Aq (nT h204) (Ai rfl ?_)
  have e : ((y :: t).all Ah && Gh c) = false := by
   simp only [Gh, vE, Hr, zas, za7, h3, h204, if_true, if_false, zaa, zaE, Dv]
  rw [e]
theorem Ae6 (n : Nat) (hn : 1048576 < n) (c : Gs) (hc : Rv c) : Bz E0 (n + 16) 4 44 [.agg (Fs c)] = some (.sc (.bool (Fv c))) := by
 rw [At, Alx, f44]
 refine Ce (G := (· = some (sb (Fv c)))) ?_
 have hl := hc.l
 try simp only [Fc, Fb]
 have s0 : Sep [] [] := B5
 refine Id s0 (D0 (Ge _)) fun i1 H s2 => A4 (o' := 0) rfl (Al (c := sb c.fOpen) s2 (.here) rfl (B4 (Aa (c.fOpen) (fun h3 => ?_) fun h3 => ?_)))
 refine Av (nF h3) (A4 (o' := 4) rfl (Al (c := Ci Ap c.fPend) s2 (.here) rfl (Cn ?_)))
 have hv : Fv c = (c.fPend.all Ah && Gh c) := by unfold Fv; simp only [h3, if_true]
 rw [hv]
 exact Sg n hn c hc h3  c.fPend [] _ 0 i1 _ rfl rfl (by omega) s2
 refine Aq (nT h3) (Ar s2 (.here) rfl (Ao (v := (.bool (Kt c))) s2 rfl (.aggF (Ge _) .nil) (Aih (n + 6) (by omega) c hc) (Ai rfl ?_)))
 have e : Fv c = (Kt c) := by
  simp only [Fv, Kt, F4, Ku, vE, Hr, h3, if_true, if_false, zaa, zaE, Dv]
 rw [e]
theorem S3 (n : Nat) (hn : 1048576 < n) (c : Gs) (hc : Rv c) (h3 : c.fOpen = true)  : ∀ (t pre : List PacketV) (m : Nat) (i : Int) (i1 : Nat) (H : Ac), c.fPend = pre ++ t → i = ((pre.length : Nat) : Int) → t.length < m → Sep H [.blk i1 (Fs c) true] → Gd (· = some (.sc (.bool (t.all Ah && Gh c)))) (Re (PR (n + 15) AV) (n + 15) (fun x H => Bc As E0.tp 4 H x) m (.ptr i1 0) (.sc (.int .i64 i)) H)
 | [], pre, m + 1, i, i1, H, he, hi, hm, s0 => by
  obtain rfl : pre = c.fPend := by simpa using he.symm
  have hl := hc.l
  have hl := hc.l
  rw [Re]
  try simp only [Fc, Fb]
  refine A4 (o' := 4) rfl (Al (c := Ci Ap c.fPend) s0 (.here) rfl (Cn (Dd (Av (by simp [hi]) (A4 (o' := 1) rfl (Al (c := .sc (.int .i64 c.fGen)) s0 (.here) rfl (Dd ?_)))))))
  apply Aw ((decide (c.fGen < 1)) || (!(F7 c.fB)))
  intro b201 q201
  refine Aa ((decide (c.fGen < 1))) (fun h201 => ?_) fun h201 => ?_
  exact Ab h201 (Ab h201 (Ab h201 (Ab h201 (Bs h201 (Yl q201 h201) Aj))))
  exact Ad h201 (A4 (o' := 2) rfl (Ad h201 (Q3 (ds := Ic c.fB) s0 (.here) (B9 rfl) rfl (Ad h201 (Ao (v := (.bool (F7 c.fB))) s0 rfl (.aggF (O4 _) .nil) (Ah3 (n + 1) (by omega) c.fB hc.b) (Ad h201 (B4 (Br h201 (Yk q201 h201) Aj))))))))
  intro b201 q201
  apply Aw (b201 || (decide (6 < ((c.fPend.length : Nat) : Int))))
  intro b202 q202
  refine Aa (b201) (fun h202 => ?_) fun h202 => ?_
  exact Ab h202 (Ab h202 (Ab h202 (Ab h202 (Bs h202 (Yl q202 h202) Aj))))
  exact Ad h202 (A4 (o' := 4) rfl (Ad h202 (Al (c := Ci Ap c.fPend) s0 (.here) rfl (Ad h202 (Cn (Ad h202 (Ec (Br h202 (Yk q202 h202) Aj))))))))
  intro b202 q202
  apply Aw (b202 || (decide (c.fLast < 0)))
  intro b203 q203
  refine Aa (b202) (fun h203 => ?_) fun h203 => ?_
  exact Ab h203 (Ab h203 (Ab h203 (Bs h203 (Yl q203 h203) Aj)))
  exact Ad h203 (A4 (o' := 8) rfl (Ad h203 (Al (c := si c.fLast) s0 (.here) rfl (Ad h203 (Dd (Br h203 (Yk q203 h203) Aj))))))
  intro b203 q203
  refine Aa (b203) (fun h204 => ?_) fun h204 => ?_
  refine Aq h204 (Ai rfl ?_)
  have e : ([].all Ah && Gh c) = false := by
   clear s0
   (subst q203; subst q202; subst q201; simp only [Gh, F4, Ku, vE, Hr, ltD, zas, za7] at h3 h204 ⊢; revert h3 h204; generalize decide (1 ≤ c.fGen) = z0; generalize F7 c.fB = z1; generalize decide (((c.fPend.length : Nat) : Int) ≤ 6) = z2; generalize decide (0 ≤ c.fLast) = z3; generalize c.fUp = z4; generalize c.fHasWill = z5; generalize F2 c.fW = z6; generalize H5 c.fW = z7; generalize Bd c.fClient = z8; generalize decide (((c.fClient.size : Nat) : Int) = 0) = z9; generalize Bw c.fKeep 0 65535 = z10; generalize decide (c.fKeep = 0) = z11; generalize c.fOpen = z12; revert z0 z1 z2 z3 z4 z5 z6 z7 z8 z9 z10 z11 z12; decide)
  rw [e]
  refine Av h204 (A4 (o' := 5) rfl (Al (c := sb c.fUp) s0 (.here) rfl (B4 (Aa (c.fUp) (fun h205 => ?_) fun h205 => ?_))))
  refine Av (nF h205) (A4 (o' := 9) rfl (Al (c := sb c.fHasWill) s0 (.here) rfl ?_))
  apply Aw (c.fHasWill && (!(H5 c.fW)))
  intro b206 q206
  refine Aa (c.fHasWill) (fun h206 => ?_) fun h206 => ?_
  exact Ad h206 (A4 (o' := 10) rfl (Ad h206 (Q3 (ds := Fn c.fW) s0 (.here) (B9 rfl) rfl (Ad h206 (Ao (v := (.bool (H5 c.fW))) s0 rfl (.aggF (Jg _) .nil) (Ah7 (n + 9) (by omega) _ c.fW hc.t) (Ad h206 (B4 (Bs h206 (Ea q206 h206) Aj))))))))
  exact Ab h206 (Ab h206 (Ab h206 (Ab h206 (Br h206 (D9 q206 h206) Aj))))
  intro b206 q206
  apply Aw (b206 || ((!c.fHasWill) && (!(F2 c.fW))))
  intro b207 q207
  refine Aa (b206) (fun h207 => ?_) fun h207 => ?_
  exact Ab h207 (Ab h207 (Ab h207 (Ab h207 (Dj (Dj (Dj (Dj (Ab h207 (Bs h207 (Yl q207 h207) Aj)))))))))
  refine Ad h207 (A4 (o' := 9) rfl (Ad h207 (Al (c := sb c.fHasWill) s0 (.here) rfl (Ad h207 (B4 (Ad h207 ?_))))))
  apply Aw ((!c.fHasWill) && (!(F2 c.fW)))
  intro b208 q208
  refine Aa (c.fHasWill) (fun h208 => ?_) fun h208 => ?_
  exact Ab (nF h208) (Ab (nF h208) (Ab (nF h208) (Ab (nF h208) (Ad h207 (Br (nF h208) (D9 q208 (nF h208)) Aj)))))
  exact Ad (nT h208) (A4 (o' := 10) rfl (Ad (nT h208) (Q3 (ds := Fn c.fW) s0 (.here) (B9 rfl) rfl (Ad (nT h208) (Ao (v := (.bool (F2 c.fW))) s0 rfl (.aggF (Jg _) .nil) (AbY (n + 14) (by omega) c.fW) (Ad (nT h208) (B4 (Ad h207 (Bs (nT h208) (Ea q208 (nT h208)) Aj)))))))))
  intro b208 q208
  exact Br h207 (by subst q208; exact Yk q207 h207) Aj
  intro b207 q207
  refine Aa (b207) (fun h209 => ?_) fun h209 => ?_
  refine Aq h209 (Ai rfl ?_)
  have e : ([].all Ah && Gh c) = false := by
   clear s0
   (subst q207; subst q206; subst q203; subst q202; subst q201; simp only [Gh, F4, Ku, vE, Hr, ltD, zas, za7] at h3 h204 h205 h209 ⊢; revert h3 h204 h205 h209; generalize decide (1 ≤ c.fGen) = z0; generalize F7 c.fB = z1; generalize decide (((c.fPend.length : Nat) : Int) ≤ 6) = z2; generalize decide (0 ≤ c.fLast) = z3; generalize c.fUp = z4; generalize c.fHasWill = z5; generalize F2 c.fW = z6; generalize H5 c.fW = z7; generalize Bd c.fClient = z8; generalize decide (((c.fClient.size : Nat) : Int) = 0) = z9; generalize Bw c.fKeep 0 65535 = z10; generalize decide (c.fKeep = 0) = z11; generalize c.fOpen = z12; revert z0 z1 z2 z3 z4 z5 z6 z7 z8 z9 z10 z11 z12; decide)
  rw [e]
  refine Av h209 (A4 (o' := 6) rfl (Al (c := ss c.fClient) s0 (.here) rfl (Ao (v := (.bool (Bd c.fClient))) s0 rfl (.cons .sc .nil) (Ip (n + 11) (by omega) _ c.fClient) ?_)))
  apply Aw ((Bd c.fClient) && (!(c.fClient.toList == (⟨#[]⟩ : ByteArray).toList)))
  intro b210 q210
  refine Aa ((Bd c.fClient)) (fun h210 => ?_) fun h210 => ?_
  exact Ad h210 (A4 (o' := 6) rfl (Ad h210 (Al (c := ss c.fClient) s0 (.here) rfl (Ad h210 (Pv (Bs h210 (Ea q210 h210) Aj))))))
  exact Ab h210 (Ab h210 (Ab h210 (Br h210 (D9 q210 h210) Aj)))
  intro b210 q210
  apply Aw (b210 && (Bw c.fKeep 0 65535))
  intro b211 q211
  refine Aa (b210) (fun h211 => ?_) fun h211 => ?_
  exact Ad h211 (A4 (o' := 7) rfl (Ad h211 (Al (c := si c.fKeep) s0 (.here) rfl (Ad h211 (Ao (v := (.bool (Bw c.fKeep 0 65535))) s0 rfl (Pg .nil) (Hi (n + 14) _ c.fKeep 0 65535) (Bs h211 (Ea q211 h211) Aj))))))
  exact Ab h211 (Ab h211 (Ab h211 (Br h211 (D9 q211 h211) Aj)))
  intro b211 q211
  refine Ai rfl ?_
  have e : ([].all Ah && Gh c) = b211 := by
   clear s0
   (subst q211; subst q210; subst q207; subst q206; subst q203; subst q202; subst q201; simp only [Gh, F4, Ku, vE, Hr, ltD, zas, za7] at h3 h204 h205 h209 ⊢; revert h3 h204 h205 h209; generalize decide (1 ≤ c.fGen) = z0; generalize F7 c.fB = z1; generalize decide (((c.fPend.length : Nat) : Int) ≤ 6) = z2; generalize decide (0 ≤ c.fLast) = z3; generalize c.fUp = z4; generalize c.fHasWill = z5; generalize F2 c.fW = z6; generalize H5 c.fW = z7; generalize Bd c.fClient = z8; generalize decide (((c.fClient.size : Nat) : Int) = 0) = z9; generalize Bw c.fKeep 0 65535 = z10; generalize decide (c.fKeep = 0) = z11; generalize c.fOpen = z12; revert z0 z1 z2 z3 z4 z5 z6 z7 z8 z9 z10 z11 z12; decide)
  rw [e]
  refine Aq (nT h205) (A4 (o' := 6) rfl (Al (c := ss c.fClient) s0 (.here) rfl (Rm ?_)))
  apply Aw ((c.fClient.toList == (⟨#[]⟩ : ByteArray).toList) && (decide (c.fKeep = 0)))
  intro b212 q212
  refine Aa ((c.fClient.toList == (⟨#[]⟩ : ByteArray).toList)) (fun h212 => ?_) fun h212 => ?_
  exact Ad h212 (A4 (o' := 7) rfl (Ad h212 (Al (c := si c.fKeep) s0 (.here) rfl (Ad h212 (A2 (Bs h212 (Ea q212 h212) Aj))))))
  exact Ab h212 (Ab h212 (Ab h212 (Br h212 (D9 q212 h212) Aj)))
  intro b212 q212
  apply Aw (b212 && (!c.fHasWill))
  intro b213 q213
  refine Aa (b212) (fun h213 => ?_) fun h213 => ?_
  exact Ad h213 (A4 (o' := 9) rfl (Ad h213 (Al (c := sb c.fHasWill) s0 (.here) rfl (Ad h213 (B4 (Bs h213 (Ea q213 h213) Aj))))))
  exact Ab h213 (Ab h213 (Ab h213 (Br h213 (D9 q213 h213) Aj)))
  intro b213 q213
  apply Aw (b213 && (F2 c.fW))
  intro b214 q214
  refine Aa (b213) (fun h214 => ?_) fun h214 => ?_
  exact Ad h214 (A4 (o' := 10) rfl (Ad h214 (Q3 (ds := Fn c.fW) s0 (.here) (B9 rfl) rfl (Ad h214 (Ao (v := (.bool (F2 c.fW))) s0 rfl (.aggF (Jg _) .nil) (AbY (n + 14) (by omega) c.fW) (Bs h214 (Ea q214 h214) Aj))))))
  exact Ab h214 (Ab h214 (Ab h214 (Br h214 (D9 q214 h214) Aj)))
  intro b214 q214
  refine Ai rfl ?_
  have e : ([].all Ah && Gh c) = b214 := by
   clear s0
   (subst q214; subst q213; subst q212; subst q203; subst q202; subst q201; simp only [Gh, F4, Ku, vE, Hr, ltD, zas, za7] at h3 h204 h205 ⊢; revert h3 h204 h205; generalize decide (1 ≤ c.fGen) = z0; generalize F7 c.fB = z1; generalize decide (((c.fPend.length : Nat) : Int) ≤ 6) = z2; generalize decide (0 ≤ c.fLast) = z3; generalize c.fUp = z4; generalize c.fHasWill = z5; generalize F2 c.fW = z6; generalize H5 c.fW = z7; generalize Bd c.fClient = z8; generalize decide (((c.fClient.size : Nat) : Int) = 0) = z9; generalize Bw c.fKeep 0 65535 = z10; generalize decide (c.fKeep = 0) = z11; generalize c.fOpen = z12; revert z0 z1 z2 z3 z4 z5 z6 z7 z8 z9 z10 z11 z12; decide)
  rw [e]
 | y :: t, pre, m + 1, i, i1, H, he, hi, hm, s0 => by
  have hlt : pre.length < c.fPend.length := by rw [he]; simp
  have hl := hc.l
  have hl := hc.l
  rw [Re]
  try simp only [Fc, Fb]
  refine A4 (o' := 4) rfl (Al (c := Ci Ap c.fPend) s0 (.here) rfl (Cn (Dd (Aq (by simp [hi]; omega) (A4 (o' := 4) rfl (Al (c := Ci Ap c.fPend) s0 (.here) rfl (K8 hi Ji (by decide) he (AcN (Ji _) (Ao (v := (.bool (Ah y))) s0 rfl (.aggF (Cf _) .nil) (Qv (n + 5) (by omega) y (hc.p y (by rw [he]; simp))) (B4 (Aa ((Ah y)) (fun h201 => ?_) fun h201 => ?_)))))))))))
  refine Av (nF h201) (Bx (by omega) (by omega) ?_)
  have e202 : ((y :: t).all Ah && Gh c) = (t.all Ah && Gh c) := by
   try simp only [bne_iff_ne, beq_iff_eq, beq_eq_false_iff_ne, Cw] at h3 h201
   simp only [zas, h3, h201, za5]
  rw [e202]
  exact S3 n hn c hc h3  t (pre ++ [y]) m _ i1 _ (by rw [he]; simp) (by rw [hi]; simp) (by simpa using hm) (by simpa only [za2, zat, zaB] using (s0.sel (.cons (.here) .nil)))
  refine Aq (nT h201) (Ai rfl ?_)
  have e : ((y :: t).all Ah && Gh c) = false := by
   simp only [Gh, vE, Hr, zas, za7, h3, h201, if_true, if_false, zaa, zaE, Dv]
  rw [e]
theorem AeI (n : Nat) (hn : 1048576 < n) (c : Gs) (hc : Rv c) : Bz E0 (n + 16) 4 43 [.agg (Fs c)] = some (.sc (.bool (Fv c))) := by
 rw [At, Alw, f43]
 refine Ce (G := (· = some (sb (Fv c)))) ?_
 have hl := hc.l
 try simp only [Fc, Fb]
 have s0 : Sep [] [] := B5
 refine Id s0 (D0 (Ge _)) fun i1 H s2 => A4 (o' := 0) rfl (Al (c := sb c.fOpen) s2 (.here) rfl (B4 (Aa (c.fOpen) (fun h3 => ?_) fun h3 => ?_)))
 refine Av (nF h3) ?_
 have hv : Fv c = (c.fPend.all Ah && Gh c) := by unfold Fv; simp only [h3, if_true]
 rw [hv]
 exact S3 n hn c hc h3  c.fPend [] _ 0 i1 _ rfl rfl (by omega) s2
 refine Aq (nT h3) (A4 (o' := 1) rfl (Al (c := si c.fGen) s2 (.here) rfl (A2 ?_)))
 apply Aw ((decide (c.fGen = 0)) && (decide (((c.fB.fHeld.size : Nat) : Int) = 0)))
 intro b4 q4
 refine Aa ((decide (c.fGen = 0))) (fun h4 => ?_) fun h4 => ?_
 exact Ad h4 (A4 (o' := 2) rfl (Ad h4 (A4 (o' := 2) rfl (Ad h4 (Al (c := Af c.fB.fHeld) s2 (.here) rfl (Ad h4 (Cn (Ad h4 (A2 (Bs h4 (Ea q4 h4) Aj))))))))))
 exact Ab h4 (Ab h4 (Ab h4 (Ab h4 (Ab h4 (Br h4 (D9 q4 h4) Aj)))))
 intro b4 q4
 apply Aw (b4 && (!c.fB.fBad))
 intro b5 q5
 refine Aa (b4) (fun h5 => ?_) fun h5 => ?_
 exact Ad h5 (A4 (o' := 2) rfl (Ad h5 (A4 (o' := 3) rfl (Ad h5 (Al (c := sb c.fB.fBad) s2 (.here) rfl (Ad h5 (B4 (Bs h5 (Ea q5 h5) Aj))))))))
 exact Ab h5 (Ab h5 (Ab h5 (Ab h5 (Br h5 (D9 q5 h5) Aj))))
 intro b5 q5
 apply Aw (b5 && (decide (((c.fPend.length : Nat) : Int) = 0)))
 intro b6 q6
 refine Aa (b5) (fun h6 => ?_) fun h6 => ?_
 exact Ad h6 (A4 (o' := 4) rfl (Ad h6 (Al (c := Ci Ap c.fPend) s2 (.here) rfl (Ad h6 (Cn (Ad h6 (A2 (Bs h6 (Ea q6 h6) Aj))))))))
 exact Ab h6 (Ab h6 (Ab h6 (Ab h6 (Br h6 (D9 q6 h6) Aj))))
 intro b6 q6
 apply Aw (b6 && (!c.fUp))
 intro b7 q7
 refine Aa (b6) (fun h7 => ?_) fun h7 => ?_
 exact Ad h7 (A4 (o' := 5) rfl (Ad h7 (Al (c := sb c.fUp) s2 (.here) rfl (Ad h7 (B4 (Bs h7 (Ea q7 h7) Aj))))))
 exact Ab h7 (Ab h7 (Ab h7 (Br h7 (D9 q7 h7) Aj)))
 intro b7 q7
 apply Aw (b7 && (c.fClient.toList == (⟨#[]⟩ : ByteArray).toList))
 intro b8 q8
 refine Aa (b7) (fun h8 => ?_) fun h8 => ?_
 exact Ad h8 (A4 (o' := 6) rfl (Ad h8 (Al (c := ss c.fClient) s2 (.here) rfl (Ad h8 (Rm (Bs h8 (Ea q8 h8) Aj))))))
 exact Ab h8 (Ab h8 (Ab h8 (Br h8 (D9 q8 h8) Aj)))
 intro b8 q8
 apply Aw (b8 && (decide (c.fKeep = 0)))
 intro b9 q9
 refine Aa (b8) (fun h9 => ?_) fun h9 => ?_
 exact Ad h9 (A4 (o' := 7) rfl (Ad h9 (Al (c := si c.fKeep) s2 (.here) rfl (Ad h9 (A2 (Bs h9 (Ea q9 h9) Aj))))))
 exact Ab h9 (Ab h9 (Ab h9 (Br h9 (D9 q9 h9) Aj)))
 intro b9 q9
 apply Aw (b9 && (decide (c.fLast = 0)))
 intro b10 q10
 refine Aa (b9) (fun h10 => ?_) fun h10 => ?_
 exact Ad h10 (A4 (o' := 8) rfl (Ad h10 (Al (c := si c.fLast) s2 (.here) rfl (Ad h10 (A2 (Bs h10 (Ea q10 h10) Aj))))))
 exact Ab h10 (Ab h10 (Ab h10 (Br h10 (D9 q10 h10) Aj)))
 intro b10 q10
 apply Aw (b10 && (!c.fHasWill))
 intro b11 q11
 refine Aa (b10) (fun h11 => ?_) fun h11 => ?_
 exact Ad h11 (A4 (o' := 9) rfl (Ad h11 (Al (c := sb c.fHasWill) s2 (.here) rfl (Ad h11 (B4 (Bs h11 (Ea q11 h11) Aj))))))
 exact Ab h11 (Ab h11 (Ab h11 (Br h11 (D9 q11 h11) Aj)))
 intro b11 q11
 apply Aw (b11 && (F2 c.fW))
 intro b12 q12
 refine Aa (b11) (fun h12 => ?_) fun h12 => ?_
 exact Ad h12 (A4 (o' := 10) rfl (Ad h12 (Q3 (ds := Fn c.fW) s2 (.here) (B9 rfl) rfl (Ad h12 (Ao (v := (.bool (F2 c.fW))) s2 rfl (.aggF (Jg _) .nil) (AbY (n + 14) (by omega) c.fW) (Bs h12 (Ea q12 h12) Aj))))))
 exact Ab h12 (Ab h12 (Ab h12 (Br h12 (D9 q12 h12) Aj)))
 intro b12 q12
 apply Aw (b12 && (!c.fGone))
 intro b13 q13
 refine Aa (b12) (fun h13 => ?_) fun h13 => ?_
 exact Ad h13 (A4 (o' := 14) rfl (Ad h13 (Al (c := sb c.fGone) s2 (.here) rfl (Ad h13 (B4 (Bs h13 (Ea q13 h13) Aj))))))
 exact Ab h13 (Ab h13 (Ab h13 (Br h13 (D9 q13 h13) Aj)))
 intro b13 q13
 apply Aw (b13 && (decide (((c.fOut.size : Nat) : Int) = 0)))
 intro b14 q14
 refine Aa (b13) (fun h14 => ?_) fun h14 => ?_
 exact Ad h14 (A4 (o' := 15) rfl (Ad h14 (Al (c := Af c.fOut) s2 (.here) rfl (Ad h14 (Cn (Ad h14 (A2 (Bs h14 (Ea q14 h14) Aj))))))))
 exact Ab h14 (Ab h14 (Ab h14 (Ab h14 (Br h14 (D9 q14 h14) Aj))))
 intro b14 q14
 refine Ai rfl ?_
 have e : Fv c = b14 := by
  (simp only [Fv, Kt, F4, Ku, vE, Hr, q4, q5, q6, q7, q8, q9, q10, q11, q12, q13, q14, h3, if_true, if_false, zaa, zaE, Dv]; cases c.fUp <;> simp only [if_true, if_false, zaa, zaE, if_true, if_false, zaa, Dv] <;> ac_rfl)
 rw [e]
def K4 (c : Gs) (now : Int) : Bool := Fv c && (c.fUp && (!decide (c.fKeep = 0) && (decide (c.fLast ≤ now) && decide (3 * c.fKeep / 2 < now - c.fLast))))
theorem X0 (c : Gs) (h : (Fv c && c.fUp) = true) : 0 ≤ c.fKeep ∧ c.fKeep ≤ 65535 ∧ 0 ≤ c.fLast := by
 obtain ⟨h1, h2⟩ := Bool.and_eq_true_iff.1 h
 unfold Fv at h1
 split at h1
 unfold Gh F4 at h1
 simp only [h2, if_true, zae, decide_eq_true_eq] at h1
 have := h1.2.2.2.2.2.2.1
 unfold Bw at this
 simp only [zae, decide_eq_true_eq] at this
 omega
 unfold Kt at h1
 simp [h2] at h1
theorem AgT (n : Nat) (hn : 1048576 < n) (c : Gs) (now : Int) (hc : Rv c) (hn2 : Xu now) (hf : (Fv c && c.fUp) = true → 0 ≤ c.fKeep ∧ c.fKeep ≤ 65535 ∧ 0 ≤ c.fLast) : Bz E0 (n + 17) 4 13 [.agg (Fs c), .sc (.int .i64 now)] = some (.sc (.bool (K4 c now))) := by
 rw [At, Alj, f13]
 refine Ce (G := (· = some (sb (K4 c now)))) ?_
 have hn3 := hn2.1
 have hn4 := hn2.2
 try simp only [Fc, Fb]
 have s0 : Sep [] [] := B5
 refine Id s0 (D0 (Ge _)) fun i1 H s2 => Ar s2 (.here) rfl (Ao (v := (.bool (Fv c))) s2 rfl (.aggF (Ge _) .nil) (Ae6 n (by omega) c hc) (Aa ((Fv c)) (fun h3 => ?_) fun h3 => ?_))
 refine Ad h3 (A4 (o' := 5) rfl (Ad h3 (Al (c := sb c.fUp) s2 (.here) rfl (Ef h3 (Aa (c.fUp) (fun h4 => ?_) fun h4 => ?_)))))
 refine Ad h4 (A4 (o' := 7) rfl (Ad h4 (Al (c := si c.fKeep) s2 (.here) rfl (Ad h4 (Lh (Ef h4 (Aa ((decide (c.fKeep = 0))) (fun h5 => ?_) fun h5 => ?_)))))))
 have dh5 := of_decide_eq_true h5
 refine Ab (nF h5) (Ab (nF h5) (Ab (nF h5) (Ab (nF h5) (Dq (nF h5) (Ab rfl (Ab rfl (Ab rfl (Ab rfl (Ab rfl (Ab rfl (Ab rfl (Ab rfl (Ab rfl (Dq rfl (Ai rfl ?_)))))))))))))))
 have e : K4 c now = false := by
  simp only [K4, h3, h4, h5, if_true, if_false, zaa, zaE, Dv]
 rw [e]
 have dh5 := of_decide_eq_false h5
 refine Ad (nT h5) (Ad (nT h5) (A4 (o' := 8) rfl (Ad (nT h5) (Al (c := si c.fLast) s2 (.here) rfl (Ad (nT h5) (Ya (Ef (nT h5) (Aa ((decide (c.fLast ≤ now))) (fun h6 => ?_) fun h6 => ?_))))))))
 have dh6 := of_decide_eq_true h6
 refine Ad h6 (Ad h6 (A4 (o' := 8) rfl (Ad h6 (Al (c := .sc (.int .i64 c.fLast)) s2 (.here) rfl (Ad h6 (Nt (by obtain ⟨k1, k2, k3⟩ := hf (by simp [*]); have k4 := of_decide_eq_true (p := c.fLast ≤ now) (by assumption); omega) (by obtain ⟨k1, k2, k3⟩ := hf (by simp [*]); have k4 := of_decide_eq_true (p := c.fLast ≤ now) (by assumption); omega) (Ad h6 (A4 (o' := 7) rfl (Ad h6 (Al (c := .sc (.int .i64 c.fKeep)) s2 (.here) rfl (Ad h6 (Pu (by obtain ⟨k1, k2, k3⟩ := hf (by simp [*]); have k4 := of_decide_eq_true (p := c.fLast ≤ now) (by assumption); omega) (by obtain ⟨k1, k2, k3⟩ := hf (by simp [*]); have k4 := of_decide_eq_true (p := c.fLast ≤ now) (by assumption); omega) (Ad h6 (Ns (by obtain ⟨k1, k2, k3⟩ := hf (by simp [*]); have k4 := of_decide_eq_true (p := c.fLast ≤ now) (by assumption); omega) (by obtain ⟨k1, k2, k3⟩ := hf (by simp [*]); have k4 := of_decide_eq_true (p := c.fLast ≤ now) (by assumption); omega) (by decide) (Ad h6 (Ec (Ef h6 (Ai rfl ?_))))))))))))))))))
 have e : K4 c now = (decide (((3 * c.fKeep) / 2) < (now - c.fLast))) := by
  simp only [K4, h3, h4, h5, h6, if_true, if_false, zaa, zaE, Dv]
 rw [e]
 have dh6 := of_decide_eq_false h6
 refine Ab h6 (Ab h6 (Ab h6 (Ab h6 (Ab h6 (Ab h6 (Ab h6 (Ab h6 (Ab h6 (Dq h6 (Ai rfl ?_))))))))))
 have e : K4 c now = false := by
  simp only [K4, h3, h4, h5, h6, if_true, if_false, zaa, zaE, Dv]
 rw [e]
 refine Ab h4 (Ab h4 (Ab h4 (Dq h4 (Ab rfl (Ab rfl (Ab rfl (Ab rfl (Dq rfl (Ab rfl (Ab rfl (Ab rfl (Ab rfl (Ab rfl (Ab rfl (Ab rfl (Ab rfl (Ab rfl (Dq rfl (Ai rfl ?_)))))))))))))))))))
 have e : K4 c now = false := by
  simp only [K4, h3, h4, if_true, if_false, zaa, zaE, Dv]
 rw [e]
 refine Ab h3 (Ab h3 (Dq h3 (Ab rfl (Ab rfl (Ab rfl (Dq rfl (Ab rfl (Ab rfl (Ab rfl (Ab rfl (Dq rfl (Ab rfl (Ab rfl (Ab rfl (Ab rfl (Ab rfl (Ab rfl (Ab rfl (Ab rfl (Ab rfl (Dq rfl (Ai rfl ?_))))))))))))))))))))))
 have e : K4 c now = false := by
  simp only [K4, h3, if_true, if_false, zaa, zaE, Dv]
 rw [e]
theorem Ah4 (n : Nat) (hn : 1048576 < n) (c : Gs) (now : Int) (hc : Rv c) (hn2 : Xu now) (hf : (Fv c && c.fUp) = true → 0 ≤ c.fKeep ∧ c.fKeep ≤ 65535 ∧ 0 ≤ c.fLast) : Bz E0 (n + 17) 4 11 [.agg (Fs c), .sc (.int .i64 now)] = some (.sc (.bool (K4 c now))) := by
 rw [At, Alh, f11]
 refine Ce (G := (· = some (sb (K4 c now)))) ?_
 have hn3 := hn2.1
 have hn4 := hn2.2
 try simp only [Fc, Fb]
 have s0 : Sep [] [] := B5
 refine Id s0 (D0 (Ge _)) fun i1 H s2 => Ar s2 (.here) rfl (Ao (v := (.bool (Fv c))) s2 rfl (.aggF (Ge _) .nil) (AeI n (by omega) c hc) (Aa ((Fv c)) (fun h3 => ?_) fun h3 => ?_))
 refine Ad h3 (A4 (o' := 5) rfl (Ad h3 (Al (c := sb c.fUp) s2 (.here) rfl (Ef h3 (Aa (c.fUp) (fun h4 => ?_) fun h4 => ?_)))))
 refine Ad h4 (A4 (o' := 7) rfl (Ad h4 (Al (c := si c.fKeep) s2 (.here) rfl (Ad h4 (Lh (Ef h4 (Aa ((decide (c.fKeep = 0))) (fun h5 => ?_) fun h5 => ?_)))))))
 have dh5 := of_decide_eq_true h5
 refine Ab (nF h5) (Ab (nF h5) (Ab (nF h5) (Ab (nF h5) (Dq (nF h5) (Ab rfl (Ab rfl (Ab rfl (Ab rfl (Ab rfl (Ab rfl (Ab rfl (Ab rfl (Ab rfl (Dq rfl (Ai rfl ?_)))))))))))))))
 have e : K4 c now = false := by
  simp only [K4, h3, h4, h5, if_true, if_false, zaa, zaE, Dv]
 rw [e]
 have dh5 := of_decide_eq_false h5
 refine Ad (nT h5) (Ad (nT h5) (A4 (o' := 8) rfl (Ad (nT h5) (Al (c := si c.fLast) s2 (.here) rfl (Ad (nT h5) (Ya (Ef (nT h5) (Aa ((decide (c.fLast ≤ now))) (fun h6 => ?_) fun h6 => ?_))))))))
 have dh6 := of_decide_eq_true h6
 refine Ad h6 (Ad h6 (A4 (o' := 8) rfl (Ad h6 (Al (c := .sc (.int .i64 c.fLast)) s2 (.here) rfl (Ad h6 (Nt (by obtain ⟨k1, k2, k3⟩ := hf (by simp [*]); have k4 := of_decide_eq_true (p := c.fLast ≤ now) (by assumption); omega) (by obtain ⟨k1, k2, k3⟩ := hf (by simp [*]); have k4 := of_decide_eq_true (p := c.fLast ≤ now) (by assumption); omega) (Ad h6 (A4 (o' := 7) rfl (Ad h6 (Al (c := .sc (.int .i64 c.fKeep)) s2 (.here) rfl (Ad h6 (Pu (by obtain ⟨k1, k2, k3⟩ := hf (by simp [*]); have k4 := of_decide_eq_true (p := c.fLast ≤ now) (by assumption); omega) (by obtain ⟨k1, k2, k3⟩ := hf (by simp [*]); have k4 := of_decide_eq_true (p := c.fLast ≤ now) (by assumption); omega) (Ad h6 (Ns (by obtain ⟨k1, k2, k3⟩ := hf (by simp [*]); have k4 := of_decide_eq_true (p := c.fLast ≤ now) (by assumption); omega) (by obtain ⟨k1, k2, k3⟩ := hf (by simp [*]); have k4 := of_decide_eq_true (p := c.fLast ≤ now) (by assumption); omega) (by decide) (Ad h6 (Ec (Ef h6 (Ai rfl ?_))))))))))))))))))
 have e : K4 c now = (decide (((3 * c.fKeep) / 2) < (now - c.fLast))) := by
  simp only [K4, h3, h4, h5, h6, if_true, if_false, zaa, zaE, Dv]
 rw [e]
 have dh6 := of_decide_eq_false h6
 refine Ab h6 (Ab h6 (Ab h6 (Ab h6 (Ab h6 (Ab h6 (Ab h6 (Ab h6 (Ab h6 (Dq h6 (Ai rfl ?_))))))))))
 have e : K4 c now = false := by
  simp only [K4, h3, h4, h5, h6, if_true, if_false, zaa, zaE, Dv]
 rw [e]
 refine Ab h4 (Ab h4 (Ab h4 (Dq h4 (Ab rfl (Ab rfl (Ab rfl (Ab rfl (Dq rfl (Ab rfl (Ab rfl (Ab rfl (Ab rfl (Ab rfl (Ab rfl (Ab rfl (Ab rfl (Ab rfl (Dq rfl (Ai rfl ?_)))))))))))))))))))
 have e : K4 c now = false := by
  simp only [K4, h3, h4, if_true, if_false, zaa, zaE, Dv]
 rw [e]
 refine Ab h3 (Ab h3 (Dq h3 (Ab rfl (Ab rfl (Ab rfl (Dq rfl (Ab rfl (Ab rfl (Ab rfl (Ab rfl (Dq rfl (Ab rfl (Ab rfl (Ab rfl (Ab rfl (Ab rfl (Ab rfl (Ab rfl (Ab rfl (Ab rfl (Dq rfl (Ai rfl ?_))))))))))))))))))))))
 have e : K4 c now = false := by
  simp only [K4, h3, if_true, if_false, zaa, zaE, Dv]
 rw [e]
theorem AeJ (n : Nat) (hn : 1048576 < n) (x0 : Gs) (x1 : Int) (k0 : Wk x0) (k1 : Xu x1) (b0 : Iy x0 ≤ 1048576) : Bz E0 (n + 18) 4 11 [.agg (Fs x0), .sc (.int .i64 x1)] = some (.sc (.bool (K4 x0 x1))) := Ah4 (n + 1) (by omega) x0 x1 (Afb x0 b0) k1 (X0 x0)
theorem Ae7 (n : Nat) (hn : 1048576 < n) (x0 : Gs) (x1 : Int) (k0 : Wk x0) (k1 : Xu x1) (b0 : Iy x0 ≤ 1048576) : Bz E0 (n + 18) 4 13 [.agg (Fs x0), .sc (.int .i64 x1)] = some (.sc (.bool (K4 x0 x1))) := AgT (n + 1) (by omega) x0 x1 (Afb x0 b0) k1 (X0 x0)
end
end Go.Proofs.YtlcpigdmekgajaaGreatDoor.Abs
namespace Go.Proofs.YtlcpigdmekgajaaGreatDoor.Abs
open _root_.Bool renaming false_eq_true → zaa, and_eq_true → zae, not_true → zax, not_false → za0, true_and → za5, false_or → zaC, not_not → zaE, false_and → zaH, or_eq_true → zaP, and_true → zaS, true_or → zbg, and_false → zbn, eq_iff_iff → zbq, and_comm → zbG
open _root_.Option renaming map_eq_some_iff → zaK
open _root_.List renaming length_append → zaf, nil_append → zag, append_assoc → zai, length_cons → zal, append_nil → zan, length_nil → zao, length_singleton → zaq, eq_nil_of_length_eq_zero → zar, all_cons → zas, map_cons → zat, cons_append → zau, map_append → za2, flatten_cons → za3, all_eq_true → za6, all_nil → za7, map_nil → zaB, flatten_nil → zbw
open _root_.ByteArray renaming size_append → zaj, size_extract → zaw
open _root_.Nat renaming le_trans → za9
open Go
set_option linter.unusedVariables false
set_option linter.unusedSimpArgs false
theorem Aj7 (n : Nat) (hn : 1048576 < n) (x0 : Gs) (x1 : Int) (k0 : Wk x0) (k1 : Xu x1) : Bz E0 (n + 30) 4 3 [.agg (Fs x0), .sc (.int .i64 x1)] = some (.sc (.bool true)) := by
 rw [At, AmL, f3]
 simp only [Fl, H9, Dp, Fx, Dl, Gn, Ld, Cx, Fj]
 refine Amq (Ge x0) fun it2 ht2 => Yj ht2 (Ov x0) (AnE rfl (Ds (M9 _ (Ge x0)) (Ds (Gx _ _) I2)) (AhA (n + 24) (by omega) _ x0 k0 _ (by omega) (by omega)) (by omega) rfl fun b0 => Yj ht2 (Ov x0) (AbW rfl (Ds (M9 _ (Ge x0)) I2) (Xc (n + 24) (by omega) x0 (by omega)) (Ge x0) (Zt Z8 (Uy 4 x0)) fun Xt15 yt15 lt15 et15 wt15 => ?_))
 replace ht2 := Mf ht2 Xt15
 refine Iz rfl (Ds wt15 (Ds (Gx _ _) I2)) (AeJ (n + 11) (by omega) x0 x1 k0 k1 (by omega)) (Yj ht2 (Ov x0) (AbW rfl (Ds (M9 _ (Ge x0)) I2) (Xc (n + 24) (by omega) x0 (by omega)) (Ge x0) (Zt Z8 (Uy 4 x0)) fun Xt19 yt19 lt19 et19 wt19 => ?_))
 replace ht2 := Mf ht2 Xt19
 replace wt15 := wt15.grow Xt19
 refine Ams rfl (lt19.trans (Ov x0)) et19 fun it7 ht7 => ?_
 replace ht2 := Mf ht2 [⟨yt19, true, true⟩]
 replace wt15 := wt15.grow [⟨yt19, true, true⟩]
 replace wt19 := wt19.grow [⟨yt19, true, true⟩]
 refine Yj ht7 (lt19.trans (Ov x0)) (Iz rfl (Ds wt19 (Ds (Gx _ _) I2)) (Ae7 (n + 11) (by omega) x0 x1 k0 k1 (by omega)) (Amr (Yj ht7 (lt19.trans (Ov x0)) (Yj ht2 (Ov x0) (AbW rfl (Ds (M9 _ (Ge x0)) I2) (Xc (n + 24) (by omega) x0 (by omega)) (Ge x0) (Zt Z8 (Uy 4 x0)) fun Xt28 yt28 lt28 et28 wt28 => ?_)))))
 replace ht2 := Mf ht2 Xt28
 replace wt15 := wt15.grow Xt28
 replace wt19 := wt19.grow Xt28
 replace ht7 := Mf ht7 Xt28
 refine AnD rfl (Ds wt19 (Ds wt28 I2)) (Afd (n + 24) (by omega) _ x0 (by omega)) ?_
 rfl
end Go.Proofs.YtlcpigdmekgajaaGreatDoor.Abs
namespace Go.Proofs.YtlcpigdmekgajaaGreatDoor.fnExactDue
open _root_.Option renaming map_eq_some_iff → zaK
open Go Go.Shelf Go.Lib Go.ChangeShapes Go.WideShapes Go.ChangeAt Go.RowKit
open Go.Proofs.YtlcpigdmekgajaaGreatDoor.Abs
set_option linter.unusedVariables false
theorem own : ownKnob Tryz.prog.godebug = none := by kernel_rfl
theorem Aj6 : laidOutB Tryz.prog = true := by kernel_rfl
theorem types : ([29, 3].all (tyB As 14)) = true := by kernel_rfl
theorem Ahx : ([29, 3].all fun t => Tryz.prog.readableRec t && decide (t < Tryz.prog.types.size)) = true := by kernel_rfl
theorem AnK {xs : List AV} (h : Amx As 14 [29, 3] xs) : ∃ n, Bz E0 n 4 3 xs = some (.sc (.bool true)) := by
 obtain ⟨y0, ys0, rfl, ⟨cs0, h0, rfl⟩, h⟩ := h
 obtain ⟨y1, ys1, rfl, ⟨cs1, h1, rfl⟩, h⟩ := h
 obtain rfl := h
 obtain ⟨x0, rfl, k0⟩ := Ahk h0
 obtain ⟨x1, rfl, k1⟩ := G4 h1
 exact ⟨_, Aj7 1048577 (by omega) x0 x1 k0 k1⟩
def wArgs : Array Value := #[.agg #[.bool false, .int .i64 0, .slice none 0 0, .bool false, .slice none 0 0, .bool false, .string ⟨#[]⟩, .int .i64 0, .int .i64 0, .bool false, .string ⟨#[]⟩, .slice none 0 0, .int .i64 0, .bool false, .bool false, .slice none 0 0], .int .i64 0]
noncomputable def Qm (os : Os) : World :=
 let w0 := World.holding Tryz.prog os ⟨#[], #[], []⟩
 let put (h : Array Obj) (g : Nat) (cs : Array Value) : Array Obj := h.modify g fun
  | .cells _ t frozen => .cells cs t frozen
  | o => o
 let h1 := put w0.heap 0 (Lib.firstTab.map fun z => Value.int .u8 z).toArray
 let h2 := put h1 1 ((List.range 16).flatMap fun i => [Value.int .u8 (Lib.accLo i), Value.int .u8 (Lib.accHi i)]).toArray
 { w0 with heap := h2 }
theorem Ahc (os : Os) (args : Array Value) : laidMet Tryz.prog Rows.fnExactDueRow.laid ((Qm os).forCall (fun _ _ => 0) ⟨#[], args, []⟩).memory :=
 (LaidIn.of_run (l := Rows.fnExactDueRow.laid) [0, 1] 8 (by kernel_rfl) (by kernel_rfl) (by kernel_rfl) (by kernel_rfl)).met
set_option maxRecDepth 100000 in
theorem Abi (os : Os) {H : Type} (enc : TypeId × Value → H) :
  (OpenSpec.ofChange Rows.fnExactDueSpec).preRow enc Tryz.prog Tryz.f3 Rows.fnExactDueRow.domain false Rows.fnExactDueRow.laid ((Qm os).forCall (fun _ _ => 0) ⟨#[], wArgs, []⟩).memory wArgs := by
 have hw : ((DataW.whole enc Tryz.prog ((Qm os).forCall (fun _ _ => 0) ⟨#[], wArgs, []⟩).memory Tryz.f3.params.toList (OpenSpec.ofChange Rows.fnExactDueSpec).vars false wArgs.toList 8).map (fun x => x.2.1)) = some [] := by kernel_rfl
 obtain ⟨⟨x1, x2, x3⟩, hx, hx1⟩ := zaK.1 hw
 simp only at hx1
 subst hx1
 exact OpenSpec.preRow_of_cond 8 hx rfl (fun k hk => by cases hk) rfl (Ahc os _)
set_option maxRecDepth 100000 in
set_option maxHeartbeats 2000000 in
theorem lifted (os : Os) (started : os.Started) (H : Type) (enc : TypeId × Value → H) (F : Stop.Interp) :
  ReturnsInHanded {} Tryz.checked os 3 .any ((OpenSpec.ofChange Rows.fnExactDueSpec).preRow enc Tryz.prog Tryz.f3 Rows.fnExactDueRow.domain false Rows.fnExactDueRow.laid) (((OpenSpec.ofChange Rows.fnExactDueSpec).at F).post enc Tryz.prog Tryz.f3 false true false false) := by
 refine returnsInHanded_of_row (C := Tryz.checked) (s := OpenSpec.ofChange Rows.fnExactDueSpec) own started (by kernel_rfl) Tryz.func3
  (witness_row_atRef (enc := enc) (C := Tryz.checked) false (Qm os) wArgs rfl (by kernel_rfl) (by kernel_rfl) (by kernel_rfl) (Abi os enc)) ?_
 intro W base args ds gs before hval0 hW _ _ _ hL hS _
 have hval : ∀ (j : Nat) t v, Tryz.f3.params[j]? = some t → args[j]? = some v → Value.okWide Tryz.prog W .any base t v := hval0
 have hW' := hW
 obtain ⟨p, q, hA0, hV, rfl, hfz, hnd⟩ := hW
 have hA : DataW.TrodAll enc Tryz.prog W 0 (fun _ => true) true Tryz.f3.params.toList args.toList ds p := hA0
 rw [Tryz.params3] at hA hval
 obtain ⟨xs, hok, hl, hx⟩ := U6 AhG (n := 14) [29, 3] args.toList ds p hA (fun j t v ht hv => hval j t v (by simpa using ht) (by simpa using hv)) types
 obtain ⟨m, hm⟩ := AnK hok
 have htab0 := utf8Tabs_of_readsT (U8Types.of196 Tryz.laysValid) ⟨by kernel_rfl, by kernel_rfl, by kernel_rfl, by kernel_rfl, by kernel_rfl, by kernel_rfl, by kernel_rfl⟩ (Pinned.utf8First_eq ▸ Lib.laidMet.reads hL (.tail _ (.head _))) (Lib.laidMet.reads hL (.head _))
 have htab : J0 W := ⟨htab0, cell_of_shapedOpen_int (zero := #[.int .i64 0]) hS (of_decide_eq_true (by kernel_rfl)) (by kernel_rfl) rfl (by kernel_rfl) (by kernel_rfl) Tryz.underlying3⟩
 have hc := AeP Ao4 hm (w := W) htab hl hx
 have hA1 := hA
 obtain ⟨v0, vs0, d0, ds0, p0, q0, hargs, rfl, rfl, g0, r0⟩ := trodAll_cons hA
 obtain ⟨v1, vs1, d1, ds1, p1, q1, rfl, rfl, rfl, g1, r1⟩ := trodAll_cons r0
 obtain ⟨rfl, rfl, rfl⟩ := trodAll_nil r1
 obtain ⟨rfl, rfl⟩ := trodVars_none hV
 have hc2 : Calls Tryz.prog 3 args W fun e W' => e = .returned (.bool true) ∧ Below W.heap.size W W' := by simpa using hc
 refine hc2.mono fun e W' ⟨he, bel⟩ => ?_
 subst he
 exact ⟨_, rfl, _, _, _, [], _, [], hW', trodAll_mk1 (shut_bool Tryz.underlying4 _), Rc Aj6 bel Ahx hA1, rfl, bel.frame _, fun h => by cases h⟩
end Go.Proofs.YtlcpigdmekgajaaGreatDoor.fnExactDue
