/- What the proof needs, part 6: a sound evaluator over trees, the program's functions on it, and what they come to. -/
import Derived.Test.YtlcpigdmekgajaaGreatDoorMpe
import Derived.Test.YtlcpigdmekgajaaGreatDoorRows
import Derived.Test.YtlcpigdmekgajaaGreatDoorTie
import Derived.Test.YtlcpigdmekgajaaGreatDoorCards
import Derived.Lib.LaidIn
import Derived.Lib.LaidU8T
import Derived.PinnedBridge
import Derived.SevenTiedAt
import Derived.Deep.DeepHandedRow
import Derived.Deep.DeepWitnessRowRef
import Derived.WalkKit
import Derived.ProofKit
import Derived.OpenShut
import Derived.ShutString
import Derived.ChangeOld
import Derived.Below
import Derived.SizedLaws
set_option linter.unusedVariables false
set_option linter.unusedSimpArgs false
set_option maxRecDepth 100000
set_option maxHeartbeats 32000000
namespace Go.Proofs.YtlcpigdmekgajaaGreatDoor.Abs
open _root_.Bool renaming false_eq_true → zaa, and_eq_true → zae, not_true → zax, not_false → za0, true_and → za5, false_or → zaC, false_and → zaG, or_eq_true → zaO, and_true → zaR, true_or → zbf, not_not → zbg, and_false → zbn, eq_iff_iff → zbq, and_comm → zbG
open _root_.Option renaming map_eq_some_iff → zaJ
open _root_.List renaming length_append → zaf, nil_append → zag, append_assoc → zai, length_cons → zal, append_nil → zan, length_nil → zao, length_singleton → zaq, eq_nil_of_length_eq_zero → zar, all_cons → zas, map_cons → zat, cons_append → zau, map_append → za2, flatten_cons → za3, all_eq_true → za6, all_nil → za7, map_nil → zaB, flatten_nil → zbw
open _root_.ByteArray renaming size_append → zaj, size_extract → zaw
open _root_.Nat renaming le_trans → za9
section
open Go
theorem AeE (n : Nat) (hn : 1048576 < n) (c : Nat) (B : ByteArray) (a : Int) (b : Bool) (hB : B.size ≤ 1099511627776) (h0 : 0 ≤ a) (h1 : a ≤ ((B.size : Nat) : Int)) {β : Type} {G : Option β → Prop} {KH : KO β} {H : Ab} {L : List Ck} (s0 : Sep H (.blk c [Af B, .sc (.int .i64 a), .sc (.bool b)] true :: L)) (hk : ∀ (v : Int) (a' : Int) (b' : Bool) (H' : Ab), Lt B (a, b) = (v, a', b') → Sep H' (.blk c [Af B, .sc (.int .i64 a'), .sc (.bool b')] true :: L) → Gd G (KH (.sc (.int .i64 v)) H')) : Gd G (E7 E0 (n + 1) β 100 [.ptr c 0] H fun x H => KH x H) := by
 rw [Aij, f100]
 try simp only [Fd, Fc]
 refine C8 (Pb (Al (c := sb b) s0 (.here) rfl (Aa (b) (fun h1 => ?_) fun h1 => ?_)))
 refine Ac h1 (Ac h1 (Ac h1 (Ac h1 (Ac h1 (Ac h1 (Ac h1 (Ac h1 (Ac h1 (Ac h1 (Ev h1 (Aq rfl (C8 (Pb (A7 s0 (.here) rfl rfl fun H s2 => ?_))))))))))))))
 have e : Lt B (a, b) = (0, a, true) := by
  unfold Lt; simp [h1]
 exact hk _ _ _ _ e s2
 refine Ad h1 (Ad h1 (C8 (Ad h1 (V2 (Ad h1 (Al (c := si a) s0 (.here) rfl (Ad h1 (Ad h1 (C8 (Ad h1 (N6 (Ad h1 (Al (c := Af B) s0 (.here) rfl (Ad h1 (Cn (Ad h1 (AcN (Es h1 (Aa ((decide (((B.size : Nat) : Int) ≤ a))) (fun h3 => ?_) fun h3 => ?_)))))))))))))))))))
 have dh3 := of_decide_eq_true h3
 refine Aq h3 (C8 (Pb (A7 s0 (.here) rfl rfl fun H s4 => ?_)))
 have e : Lt B (a, b) = (0, a, true) := by
  simp only [Cw] at h3
  unfold Lt; simp [h1, h3]
 exact hk _ _ _ _ e s4
 have dh3 := of_decide_eq_false h3
 refine Av h3 (C8 (V2 (Al (c := si a) s0 (.here) rfl (Bx (by omega) (by omega) (C8 (V2 (A7 s0 (.here) rfl rfl fun H s5 => C8 (N6 (Al (c := Af B) s5 (.here) rfl (C8 (V2 (Al (c := si (a + 1)) s5 (.here) rfl (Pt (by omega) (by omega) ?_)))))))))))))
 have w6 := D4 B ((a + 1) - 1)
 refine Gw (by omega) (by omega) fun _ => Fh (c := su (A6 B ((a + 1) - 1))) rfl (Le (by omega) (by omega) ?_)
 have e : Lt B (a, b) = ((A6 B ((a + 1) - 1)), (a + 1), b) := by
  clear hk s0 s5
  simp only [Cw] at h3
  unfold Lt; simp [h1, h3]; try omega
 exact hk _ _ _ _ e s5
theorem AhO (n : Nat) (hn : 1048576 < n) (c : Nat) (B : ByteArray) (a : Int) (b : Bool) (hB : B.size ≤ 1099511627776) (h0 : 0 ≤ a) (h1 : a ≤ ((B.size : Nat) : Int)) {β : Type} {G : Option β → Prop} {KH : KO β} {H : Ab} {L : List Ck} (s0 : Sep H (.blk c [Af B, .sc (.int .i64 a), .sc (.bool b)] true :: L)) (hk : ∀ (v : Int) (a' : Int) (b' : Bool) (H' : Ab), Hr B (a, b) = (v, a', b') → Sep H' (.blk c [Af B, .sc (.int .i64 a'), .sc (.bool b')] true :: L) → Gd G (KH (.sc (.int .i64 v)) H')) : Gd G (E7 E0 (n + 2) β 102 [.ptr c 0] H fun x H => KH x H) := by
 rw [Aik, f102]
 try simp only [Fd, Fc]
 refine C8 (N6 (Al (c := Af B) s0 (.here) rfl (C8 (V2 (Al (c := si a) s0 (.here) rfl ?_)))))
 obtain ⟨wq1, yq1, oq1, q1⟩ : ∃ w y o, Bo B a = (w, y, o) := ⟨_, _, _, rfl⟩
 have bq1 := Gg q1
 refine Eg s0 rfl (.cons .ro (.cons .sc .nil)) (by have h := AcP n (by omega) B a (by omega) (by omega); rw [q1] at h; exact h) rfl (Bg (Bg (Bg Ea))) ?_
 rintro _ _ H ⟨_, rfl, ⟨_, rfl, ⟨_, rfl, ⟨rfl, rfl⟩⟩⟩⟩ s2
 simp only [zag] at s2
 refine Bp (v := si wq1) rfl (Bp (v := si yq1) rfl (Bp (v := sb oq1) rfl (C8 (Pb (Al (c := sb b) s2 (.here) rfl (Aa (b) (fun h3 => ?_) fun h3 => ?_))))))
 refine Ac h3 (Ac h3 (Ev h3 (Aq rfl (C8 (Pb (A7 s2 (.here) rfl rfl fun H s4 => ?_))))))
 have e : Hr B (a, b) = (0, a, true) := by
  unfold Hr; simp [q1, h3]
 exact hk _ _ _ _ e s4
 refine Ad h3 (Ad h3 (B4 (Es h3 (Aa (oq1) (fun h5 => ?_) fun h5 => ?_))))
 refine Av (nF h5) (C8 (V2 (A7 s2 (.here) rfl rfl fun H s6 => ?_)))
 have e : Hr B (a, b) = (wq1, yq1, b) := by
  unfold Hr; simp [q1, h3, h5]
 exact hk _ _ _ _ e s6
 refine Aq (nT h5) (C8 (Pb (A7 s2 (.here) rfl rfl fun H s7 => ?_)))
 have e : Hr B (a, b) = (0, a, true) := by
  unfold Hr; simp [q1, h3, h5]
 exact hk _ _ _ _ e s7
theorem Kb (n : Nat) (hn : 1048576 < n) (c : Nat) (B : ByteArray) (a : Int) (b : Bool) (hB : B.size ≤ 1099511627776) (h0 : 0 ≤ a) (h1 : a ≤ ((B.size : Nat) : Int)) {β : Type} {G : Option β → Prop} {KH : KO β} {H : Ab} {L : List Ck} (s0 : Sep H (.blk c [Af B, .sc (.int .i64 a), .sc (.bool b)] true :: L)) (hk : ∀ (x : AV) (v : ByteArray) (a' : Int) (b' : Bool) (H' : Ab), Bj x = true → Er B (a, b) = (v, a', b') → Sep H' (.own x 22 (Af v) :: .blk c [Af B, .sc (.int .i64 a'), .sc (.bool b')] true :: L) → Gd G (KH x H')) : Gd G (E7 E0 (n + 6) β 129 [.ptr c 0] H fun x H => KH x H) := by
 rw [AiA, f129]
 try simp only [Fd, Fc]
 refine C8 (N6 (Al (c := Af B) s0 (.here) rfl (C8 (V2 (Al (c := si a) s0 (.here) rfl ?_)))))
 obtain ⟨vq1, yq1, oq1, q1⟩ : ∃ w y o, Bi B a = (w, y, o) := ⟨_, _, _, rfl⟩
 have bq1 := Fu q1
 refine Eg s0 rfl (.cons .ro (.cons .sc .nil)) (by have h := Aju n (by omega) B a (by omega) (by omega); rw [q1] at h; exact h) rfl (Kh (ty := 22) rfl (C2 vq1) (Bg (Bg Ea))) ?_
 rintro _ _ H ⟨x2, _, _, lx2, rfl, rfl, ⟨_, rfl, ⟨_, rfl, ⟨rfl, rfl⟩⟩⟩⟩ s3
 simp only [zag, zau] at s3
 refine Bp (v := x2) rfl (Bp (v := si yq1) rfl (Bp (v := sb oq1) rfl (C8 (Pb (Al (c := sb b) s3 Ct rfl (Aa (b) (fun h4 => ?_) fun h4 => ?_))))))
 refine Ac h4 (Ac h4 (Ev h4 (Aq rfl (C8 (Pb (A7 s3 Ct rfl rfl fun H s5 => ?_))))))
 have e : Er B (a, b) = (bs0, a, true) := by
  unfold Er; simp [q1, h4]
 have s6 := s5.nl (ty := 22) ⟨_, _, rfl, rfl⟩
 exact hk .nl _ _ _ _ rfl e (s6.sel (.cons (.here) (.cons (.here) (.skip .rest))))
 refine Ad h4 (Ad h4 (B4 (Es h4 (Aa (oq1) (fun h7 => ?_) fun h7 => ?_))))
 refine Av (nF h7) (C8 (V2 (A7 s3 Ct rfl rfl fun H s8 => ?_)))
 have e : Er B (a, b) = (vq1, yq1, b) := by
  unfold Er; simp [q1, h4, h7]
 exact hk x2 _ _ _ _ lx2 e (s8.pick Ct)
 refine Aq (nT h7) (C8 (Pb (A7 s3 Ct rfl rfl fun H s9 => ?_)))
 have e : Er B (a, b) = (bs0, a, true) := by
  unfold Er; simp [q1, h4, h7]
 have s10 := s9.nl (ty := 22) ⟨_, _, rfl, rfl⟩
 exact hk .nl _ _ _ _ rfl e (s10.sel (.cons (.here) (.cons (.here) (.skip .rest))))
theorem Wf (n : Nat) (hn : 1048576 < n) (t : Int) (B : ByteArray) (c d : Nat) (id : Int) (hB : B.size ≤ 1099511627776) {β : Type} {G : Option β → Prop} {L : List Ck} (k : KO β) : ∀ (f m : Nat) (a : Int) (b : Bool) (ws : List WantV) (cs : List Int) (ns : List ByteArray) (xw xc xn : AV) (H : Ab), f ≤ m → ((b = true ∧ 1 ≤ f) ∨ 6 ≤ f + (ws.length + cs.length + ns.length)) → ws.length + cs.length + ns.length ≤ 5 → 0 ≤ a → a ≤ ((B.size : Nat) : Int) → Bj xw = true → Bj xc = true → Bj xn = true → Sep H (.own xw 55 (Ch Bn ws) :: .own xc 57 (Ee cs) :: .own xn 56 (Eb ns) :: .blk c [Af B, .sc (.int .i64 a), .sc (.bool b)] true :: .blk d [.sc (.int .i64 t), .sc (.bool false), .sc (.int .i64 0), .sc (.bool false), .sc (.int .i64 id), .sc (.string (⟨#[]⟩)), .nl, .sc (.string (⟨#[]⟩)), .sc (.int .i64 0), .sc (.bool false), .sc (.int .i64 0), .sc (.bool false), .sc (.string (⟨#[]⟩)), .nl, .sc (.int .i64 0), .sc (.bool false), .sc (.bool false), .sc (.string (⟨#[]⟩)), .sc (.bool false), .nl, .sc (.int .i64 0), .sc (.bool false), xw, xn, xc] true :: L) → (∀ (yw yc yn : AV) (a' : Int) (b' : Bool) (H' : Ab), Bj yw = true → Bj yc = true → Bj yn = true → Sep H' (.own yw 55 (Ch Bn ((Cc t B f (a, b) ws cs ns).1)) :: .own yc 57 (Ee ((Cc t B f (a, b) ws cs ns).2.1)) :: .own yn 56 (Eb ((Cc t B f (a, b) ws cs ns).2.2)) :: .blk c [Af B, .sc (.int .i64 (a')), .sc (.bool b')] true :: .blk d [.sc (.int .i64 t), .sc (.bool false), .sc (.int .i64 0), .sc (.bool false), .sc (.int .i64 id), .sc (.string (⟨#[]⟩)), .nl, .sc (.string (⟨#[]⟩)), .sc (.int .i64 0), .sc (.bool false), .sc (.int .i64 0), .sc (.bool false), .sc (.string (⟨#[]⟩)), .nl, .sc (.int .i64 0), .sc (.bool false), .sc (.bool false), .sc (.string (⟨#[]⟩)), .sc (.bool false), .nl, .sc (.int .i64 0), .sc (.bool false), yw, yn, yc] true :: L) → Gd G (k (Dk []) H')) → Gd G (Lh (PR (n + 8) β) (n + 8) k m (.ptr c 0) (.ptr d 0) H)
 | 0, m, a, b, ws, cs, ns, xw, xc, xn, H, hm, hM, ht, h0, h1, lxw, lxc, lxn, s0, hk => by
  exfalso
  omega
 | f + 1, m + 1, a, b, ws, cs, ns, xw, xc, xn, H, hm, hM, ht, h0, h1, lxw, lxc, lxn, s0, hk => by
  rw [Lh]
  try simp only [Fd, Fc]
  refine Pp rfl rfl ?_
  rw [AiC, f131]
  try simp only [Fd, Fc]
  refine C8 (Pb (Al (c := sb b) s0 Nj rfl (B4 (Aa (b) (fun h1 => ?_) fun h1 => ?_))))
  refine Ac (nF h1) (Ac (nF h1) (Ac (nF h1) (Ac (nF h1) (Ac (nF h1) (Ac (nF h1) (Ac (nF h1) (Ac (nF h1) (Ac (nF h1) (Ac (nF h1) (Es (nF h1) (Ac rfl (Ac rfl (Ac rfl (Ac rfl (Ac rfl (Ac rfl (Ac rfl (Ac rfl (Ac rfl (Ac rfl (Ac rfl (Ac rfl (Ac rfl (Ac rfl (Ac rfl (Ac rfl (Ac rfl (Ac rfl (Es rfl (Av rfl ?_))))))))))))))))))))))))))))))
  have e : Cc t B (f + 1) (a, b) ws cs ns = (ws, cs, ns) := by
   rw [Cc]; simp [h1]
  rw [e] at hk
  exact hk xw xc xn a b _ lxw lxc lxn (s0.sel (.cons (.here) (.cons (.here) (.cons (.here) (.cons (.here) (.cons (.here) .rest))))))
  refine Ad (nT h1) (Ad (nT h1) (C8 (Ad (nT h1) (V2 (Ad (nT h1) (Al (c := si a) s0 Nj rfl (Ad (nT h1) (Ad (nT h1) (C8 (Ad (nT h1) (N6 (Ad (nT h1) (Al (c := Af B) s0 Nj rfl (Ad (nT h1) (Cn (Ad (nT h1) (Dd (Ev (nT h1) (Aa ((decide (a < ((B.size : Nat) : Int)))) (fun h2 => ?_) fun h2 => ?_)))))))))))))))))))
  have dh2 := of_decide_eq_true h2
  refine Ad h2 (Ad h2 (C8 (Ad h2 (Kv (Ad h2 (Al (c := xw) s0 Nk rfl (Ad h2 (Kf s0 (.here) (Ad h2 (Ad h2 (C8 (Ad h2 (K8 (Ad h2 (Al (c := xc) s0 Nk rfl (Ad h2 (Kf s0 Ct (Ad h2 (Bx (by omega) (by omega) (Ad h2 (Ad h2 (C8 (Ad h2 (K7 (Ad h2 (Al (c := xn) s0 Nk rfl (Ad h2 (Kf s0 Df (Ad h2 (Bx (by omega) (by omega) (Ad h2 (O2 (Ev h2 (Aa ((decide (((((ws.length : Nat) : Int) + ((cs.length : Nat) : Int)) + ((ns.length : Nat) : Int)) ≤ 4))) (fun h3 => ?_) fun h3 => ?_))))))))))))))))))))))))))))))))))
  have dh3 := of_decide_eq_true h3
  refine Aq h3 (C8 (N6 (Al (c := si t) s0 Nk rfl (A2 (Aa ((decide (t = 8))) (fun h4 => ?_) fun h4 => ?_)))))
  have dh4 := of_decide_eq_true h4
  refine Aq h4 (Bf (cs := [sE, i0]) rfl (Id s0 fun i5 H s6 => B9 (cs' := [sE, i0]) s6 (.here) (Ag rfl) rfl (B8 rfl) rfl fun H s7 => Pp rfl rfl ?_))
  rw [M2, f101]
  try simp only [Fd, Fc]
  have s9 := s7.pick Nk
  refine Ke rfl rfl (Kb (n + 1) (by omega) c B a (b) hB (by omega) (by omega) s9 fun xq8 vq8 aq8 bq8 H lxq8 q8 s10 => ?_)
  have b_q8 := Fq q8 (by omega) (by omega)
  refine Nc s10 ⟨_, _, rfl, rfl, rfl, rfl⟩ (.here) (N6 (A7 s10 Df rfl rfl fun H s11 => ?_))
  have s13 := s11.pick Df
  refine Ke rfl rfl (AeE (n + 7) (by omega) c B aq8 (bq8) hB (by omega) (by omega) s13 fun vq12 aq12 bq12 H q12 s14 => ?_)
  have b_q12 := Qu q12 (by omega) (by omega)
  refine V2 (A7 s14 Ct rfl rfl fun H s15 => C8 (Kv (Al (c := xw) s15 Z7 rfl (Ar s15 (.here) rfl (Bf (cs := [ss vq8, si vq12]) (K5 (z' := [ss vq8, si vq12]) (Ag rfl) rfl (B8 rfl) rfl (rfl)) (Cf s15 fun i16 H s17 => Zg (cty := [9, 3]) (e := (⟨vq8, vq12⟩ : WantV)) s17 ⟨_, _, rfl, rfl, rfl, rfl⟩ Nk (.here) rfl rfl (.sc (.sc .nil)) (Ft trivial) rfl (by omega) fun x18 H lx18 s19 => C8 (Kv (B9 (cs' := [si t, bF, i0, bF, si id, sE, .nl, sE, i0, bF, i0, bF, sE, .nl, i0, bF, bF, sE, bF, .nl, i0, bF, x18, xn, xc]) s19 Z7 (D6 lx18) rfl (B8 rfl) rfl fun H s20 => ?_))))))))
  have e : Cc t B (f + 1) (a, b) ws cs ns = Cc t B f (aq12, bq12) (ws ++ [⟨vq8, vq12⟩]) cs ns := by
   simp only [Cw] at h2 h3 h4
   rw [Cc]; simp only [q8, q12]; simp [h1, h2, h3, h4]
  rw [e] at hk
  have hM2 : 6 ≤ f + 1 + (ws.length + cs.length + ns.length) := hM.resolve_left (by simp [h1])
  exact Wf n hn t B c d id hB k f m aq12 bq12 (ws ++ [⟨vq8, vq12⟩]) cs ns x18 xc xn _ (by omega) (by (simp only [zaf, zaq]; omega)) (by (simp only [zaf, zaq]; omega)) (by omega) (by omega) lx18 lxc lxn (s20.sel (.cons Ct (.cons Nk (.cons Nk (.cons Df (.cons (.here) zS2)))))) hk
  have dh4 := of_decide_eq_false h4
  refine Av h4 (A2 (Aa ((decide (t = 9))) (fun h21 => ?_) fun h21 => ?_))
  have dh21 := of_decide_eq_true h21
  refine Aq h21 ?_
  have s23 := s0.pick Nj
  refine Ke rfl rfl (AeE (n + 7) (by omega) c B a (b) hB (by omega) (by omega) s23 fun vq22 aq22 bq22 H q22 s24 => ?_)
  have b_q22 := Qu q22 (by omega) (by omega)
  refine C8 (K8 (Al (c := xc) s24 Nk rfl (Bf (cs := [si vq22]) rfl (Cf s24 fun i25 H s26 => AcM s26 Nj (.here) ⟨_, _, rfl, rfl, rfl, rfl⟩ rfl (by omega) fun x27 H lx27 s28 => C8 (K8 (B9 (cs' := [si t, bF, i0, bF, si id, sE, .nl, sE, i0, bF, i0, bF, sE, .nl, i0, bF, bF, sE, bF, .nl, i0, bF, xw, xn, x27]) s28 Nk (D6 lx27) rfl (B8 rfl) rfl fun H s29 => ?_))))))
  have e : Cc t B (f + 1) (a, b) ws cs ns = Cc t B f (aq22, bq22) ws (cs ++ [vq22]) ns := by
   simp only [Cw] at h2 h3 h4 h21
   rw [Cc]; simp only [q22]; simp [h1, h2, h3, h4, h21]
  rw [e] at hk
  have hM2 : 6 ≤ f + 1 + (ws.length + cs.length + ns.length) := hM.resolve_left (by simp [h1])
  exact Wf n hn t B c d id hB k f m aq22 bq22 ws (cs ++ [vq22]) ns xw x27 xn _ (by omega) (by (simp only [zaf, zaq]; omega)) (by (simp only [zaf, zaq]; omega)) (by omega) (by omega) lxw lx27 lxn (s29.sel (.cons Nj (.cons Ct (.cons Df (.cons Ct (.cons (.here) .rest)))))) hk
  have dh21 := of_decide_eq_false h21
  refine Av h21 (A2 (Aa ((decide (t = 10))) (fun h30 => ?_) fun h30 => ?_))
  have dh30 := of_decide_eq_true h30
  refine Aq h30 (Pp rfl rfl ?_)
  rw [M2, f101]
  try simp only [Fd, Fc]
  have s32 := s0.pick Nj
  refine Ke rfl rfl (Kb (n + 1) (by omega) c B a (b) hB (by omega) (by omega) s32 fun xq31 vq31 aq31 bq31 H lxq31 q31 s33 => ?_)
  have b_q31 := Fq q31 (by omega) (by omega)
  refine Nc s33 ⟨_, _, rfl, rfl, rfl, rfl⟩ (.here) (C8 (K7 (Al (c := xn) s33 Xp rfl (Bf (cs := [ss vq31]) rfl (Cf s33 fun i34 H s35 => Zh s35 Xp (.here) ⟨_, _, rfl, rfl, rfl, rfl⟩ rfl (by omega) fun x36 H lx36 s37 => C8 (K7 (B9 (cs' := [si t, bF, i0, bF, si id, sE, .nl, sE, i0, bF, i0, bF, sE, .nl, i0, bF, bF, sE, bF, .nl, i0, bF, xw, x36, xc]) s37 Xp (D6 lx36) rfl (B8 rfl) rfl fun H s38 => ?_)))))))
  have e : Cc t B (f + 1) (a, b) ws cs ns = Cc t B f (aq31, bq31) ws cs (ns ++ [vq31]) := by
   simp only [Cw] at h2 h3 h4 h21 h30
   rw [Cc]; simp only [q31]; simp [h1, h2, h3, h4, h21, h30]
  rw [e] at hk
  have hM2 : 6 ≤ f + 1 + (ws.length + cs.length + ns.length) := hM.resolve_left (by simp [h1])
  exact Wf n hn t B c d id hB k f m aq31 bq31 ws cs (ns ++ [vq31]) xw xc x36 _ (by omega) (by (simp only [zaf, zaq]; omega)) (by (simp only [zaf, zaq]; omega)) (by omega) (by omega) lxw lxc lx36 (s38.sel (.cons Nk (.cons Nk (.cons Ct (.cons Df (.cons (.here) (.skip .rest))))))) hk
  have dh30 := of_decide_eq_false h30
  refine Av h30 (C8 (Pb (B9 (cs' := [Af B, si a, bT]) s0 Nj (D6 rfl) rfl (B8 rfl) rfl fun H s39 => ?_)))
  have e : Cc t B (f + 1) (a, b) ws cs ns = Cc t B f (a, true) ws cs ns := by
   simp only [Cw] at h2 h3 h4 h21 h30
   rw [Cc]; simp [h1, h2, h3, h4, h21, h30]
  rw [e] at hk
  have hM2 : 6 ≤ f + 1 + (ws.length + cs.length + ns.length) := hM.resolve_left (by simp [h1])
  exact Wf n hn t B c d id hB k f m a true ws cs ns xw xc xn _ (by omega) (by exact Or.inl ⟨rfl, by omega⟩) (by omega) (by omega) (by omega) lxw lxc lxn (s39.sel (.cons Ct (.cons Ct (.cons Ct (.cons (.here) (.cons (.here) .rest)))))) hk
  have dh3 := of_decide_eq_false h3
  refine Av h3 ?_
  have e : Cc t B (f + 1) (a, b) ws cs ns = (ws, cs, ns) := by
   clear hk s0
   simp only [Cw] at h2 h3
   rw [Cc]; simp [h1, h2, h3]; try omega
  rw [e] at hk
  exact hk xw xc xn a b _ lxw lxc lxn (s0.sel (.cons (.here) (.cons (.here) (.cons (.here) (.cons (.here) (.cons (.here) .rest))))))
  have dh2 := of_decide_eq_false h2
  refine Ac h2 (Ac h2 (Ac h2 (Ac h2 (Ac h2 (Ac h2 (Ac h2 (Ac h2 (Ac h2 (Ac h2 (Ac h2 (Ac h2 (Ac h2 (Ac h2 (Ac h2 (Ac h2 (Ac h2 (Ac h2 (Es h2 (Av rfl ?_)))))))))))))))))))
  have e : Cc t B (f + 1) (a, b) ws cs ns = (ws, cs, ns) := by
   simp only [Cw] at h2
   rw [Cc]; simp [h1, h2]
  rw [e] at hk
  exact hk xw xc xn a b _ lxw lxc lxn (s0.sel (.cons (.here) (.cons (.here) (.cons (.here) (.cons (.here) (.cons (.here) .rest))))))
theorem AkD (n : Nat) (hn : 1048576 < n) (first : Int) (B : ByteArray) (hf : 0 ≤ first ∧ first < 256) (hB : B.size ≤ 1099511627776) : B3 E0 (n + 11) 59 69 [.sc (.int .i64 first), Af B] = some (.agg (Ap (Dq first B))) := by
 rw [Au, Al4, f69]
 refine Ci (G := (· = some (.agg (Ap (Dq first B))))) ?_
 try simp only [Fd, Fc]
 have s0 : Sep [] [] := Cb
 refine Id s0 fun i1 H s2 => Bf (cs := [Af B, i0, bF]) rfl (Iy s2 (Ag rfl) fun i3 H s4 => Ps (by omega) (by omega) (by decide) (Bf (cs := [si (first / 16), bF, i0, bF, i0, sE, .nl, sE, i0, bF, i0, bF, sE, .nl, i0, bF, bF, sE, bF, .nl, i0, bF, .nl, .nl, .nl]) rfl (Id s4 fun i5 H s6 => B9 (cs' := [si (first / 16), bF, i0, bF, i0, sE, .nl, sE, i0, bF, i0, bF, sE, .nl, i0, bF, bF, sE, bF, .nl, i0, bF, .nl, .nl, .nl]) s6 (.here) (Ag rfl) rfl (B8 rfl) rfl fun H s7 => N6 (Al (c := si (first / 16)) s7 (.here) rfl (A2 (De (Aa ((decide ((first / 16) = 1))) (fun h8 => ?_) fun h8 => ?_)))))))
 have dh8 := of_decide_eq_true h8
 refine Aq h8 (Pp rfl rfl ?_)
 rw [AlW, f99]
 try simp only [Fd, Fc]
 refine Pp rfl rfl ?_
 rw [M2, f101]
 try simp only [Fd, Fc]
 have s10 := s7.pick Ct
 refine Ke rfl rfl (Kb (n + 2) (by omega) i3 B 0 (false) hB (by omega) (by omega) s10 fun xq9 vq9 aq9 bq9 H lxq9 q9 s11 => ?_)
 have b_q9 := Fq q9 (by omega) (by omega)
 refine Nc s11 ⟨_, _, rfl, rfl, rfl, rfl⟩ (.here) ?_
 have s13 := s11.pick Ct
 refine Ke rfl rfl (AeE (n + 8) (by omega) i3 B aq9 (bq9) hB (by omega) (by omega) s13 fun vq12 aq12 bq12 H q12 s14 => ?_)
 have b_q12 := Qu q12 (by omega) (by omega)
 refine C8 (gf8 (A7 s14 Df rfl rfl fun H s15 => ?_))
 have s17 := s15.pick Ct
 refine Ke rfl rfl (AeE (n + 8) (by omega) i3 B aq12 (bq12) hB (by omega) (by omega) s17 fun vq16 aq16 bq16 H q16 s18 => ?_)
 have b_q16 := Qu q16 (by omega) (by omega)
 have s20 := s18.pick (.here)
 refine Ke rfl rfl (AhO (n + 7) (by omega) i3 B aq16 (bq16) hB (by omega) (by omega) s20 fun vq19 aq19 bq19 H q19 s21 => ?_)
 have b_q19 := Tw q19 (by omega) (by omega)
 refine C8 (V3 (A7 s21 Ct rfl rfl fun H s22 => Pp rfl rfl ?_))
 rw [M2, f101]
 try simp only [Fd, Fc]
 have s24 := s22.pick Ct
 refine Ke rfl rfl (Kb (n + 2) (by omega) i3 B aq19 (bq19) hB (by omega) (by omega) s24 fun xq23 vq23 aq23 bq23 H lxq23 q23 s25 => ?_)
 have b_q23 := Fq q23 (by omega) (by omega)
 refine Nc s25 ⟨_, _, rfl, rfl, rfl, rfl⟩ (.here) (C8 (gf7 (A7 s25 Df rfl rfl fun H s26 => Gv rfl (M4 (Gv rfl (M4 (Gv rfl (M4 (Gv rfl (M4 (C8 (gf9 (A7 s26 (.here) rfl rfl fun H s27 => C8 (Qw (A7 s27 (.here) rfl rfl fun H s28 => C8 (Ku (A7 s28 (.here) rfl rfl fun H s29 => C8 (Pa (A7 s29 (.here) rfl rfl fun H s30 => C8 (Qw (Al (c := sb (!(decide ((bits .and .i64 vq16 4) = 0)))) s30 (.here) rfl (De (Aa ((decide ((bits .and .i64 vq16 4) = 0))) (fun h31 => ?_) fun h31 => ?_)))))))))))))))))))))))
 have dh31 := of_decide_eq_true h31
 refine Av (nF h31) (C8 (Pa (Al (c := sb (!(decide ((bits .and .i64 vq16 128) = 0)))) s30 (.here) rfl (De (Aa ((decide ((bits .and .i64 vq16 128) = 0))) (fun h32 => ?_) fun h32 => ?_)))))
 have dh32 := of_decide_eq_true h32
 refine Av (nF h32) (C8 (Ku (Al (c := sb (!(decide ((bits .and .i64 vq16 64) = 0)))) s30 (.here) rfl (Aa ((decide ((bits .and .i64 vq16 64) = 0))) (fun h33 => ?_) fun h33 => ?_))))
 have dh33 := of_decide_eq_true h33
 refine Av (nF h33) (Ar s30 (.here) rfl (B9 (cs' := [si (first / 16), bF, i0, bF, i0, sE, .nl, ss vq23, si vq12, sb (!(decide ((bits .and .i64 vq16 2) = 0))), si vq19, sb (!(decide ((bits .and .i64 vq16 4) = 0))), sE, .nl, i0, bF, sb (!(decide ((bits .and .i64 vq16 128) = 0))), sE, sb (!(decide ((bits .and .i64 vq16 64) = 0))), .nl, i0, bF, .nl, .nl, .nl]) s30 Nk (Ag rfl) rfl (B8 rfl) rfl fun H s34 => Ar s34 (.here) rfl (Aj (B7 s34 ⟨_, rfl, rfl⟩ (D2 (.nl (D2 (.nl (Hv (.nl (.sc (.sc (.nl (.nl (.nl .nil))))))))))) (D3 ⟨Be, (D3 ⟨Be, (Hw ⟨Be, (Ft ⟨Be, ⟨Be, ⟨Be, trivial⟩⟩⟩)⟩)⟩)⟩)) ?_)))
 have e : Dq first B = (⟨(first / 16), false, 0, false, 0, ⟨#[]⟩, ⟨#[]⟩, vq23, vq12, (!(decide ((bits .and .i64 vq16 2) = 0))), vq19, (!(decide ((bits .and .i64 vq16 4) = 0))), ⟨#[]⟩, ⟨#[]⟩, 0, false, (!(decide ((bits .and .i64 vq16 128) = 0))), ⟨#[]⟩, (!(decide ((bits .and .i64 vq16 64) = 0))), ⟨#[]⟩, 0, false, [], [], []⟩ : PacketV) := by
  simp only [Cw] at h8
  unfold Dq Fs Gu; simp only [h8, h31, h32, h33, q9, q12, q16, q19, q23, if_true, if_false, or_true, or_false, false_or, true_or, zax, za0, zaa, reduceIte]; simp [B6, h8, h31, h32, h33]
 rw [e]
 rfl
 have dh33 := of_decide_eq_false h33
 refine Aq (nT h33) ?_
 have s36 := s30.pick Df
 refine Ke rfl rfl (Kb (n + 3) (by omega) i3 B aq23 (bq23) hB (by omega) (by omega) s36 fun xq35 vq35 aq35 bq35 H lxq35 q35 s37 => ?_)
 have b_q35 := Fq q35 (by omega) (by omega)
 refine C8 (Nd (A7 s37 Df lxq35 rfl fun H s38 => Ar s38 (.here) rfl (B9 (cs' := [si (first / 16), bF, i0, bF, i0, sE, .nl, ss vq23, si vq12, sb (!(decide ((bits .and .i64 vq16 2) = 0))), si vq19, sb (!(decide ((bits .and .i64 vq16 4) = 0))), sE, .nl, i0, bF, sb (!(decide ((bits .and .i64 vq16 128) = 0))), sE, sb (!(decide ((bits .and .i64 vq16 64) = 0))), xq35, i0, bF, .nl, .nl, .nl]) s38 Xp (Ag (Ae rfl (Ae rfl (Ae rfl (Ae rfl (Ae rfl (Ae rfl (Ae rfl (Ae rfl (Ae rfl (Ae rfl (Ae rfl (Ae rfl (Ae rfl (Ae rfl (Ae rfl (Ae rfl (Ae rfl (Ae rfl (Ae rfl (Ae lxq35 rfl))))))))))))))))))))) rfl (B8 rfl) rfl fun H s39 => Ar s39 (.here) rfl (Aj (B7 s39 ⟨_, rfl, rfl⟩ (D2 (.nl (D2 (.nl (Hv (.own Df (.sc (.sc (.nl (.nl (.nl .nil))))))))))) (D3 ⟨Be, (D3 ⟨Be, (Hw ⟨(B5 (C2 vq35) (by decide)), (Ft ⟨Be, ⟨Be, ⟨Be, trivial⟩⟩⟩)⟩)⟩)⟩)) ?_))))
 have e : Dq first B = (⟨(first / 16), false, 0, false, 0, ⟨#[]⟩, ⟨#[]⟩, vq23, vq12, (!(decide ((bits .and .i64 vq16 2) = 0))), vq19, (!(decide ((bits .and .i64 vq16 4) = 0))), ⟨#[]⟩, ⟨#[]⟩, 0, false, (!(decide ((bits .and .i64 vq16 128) = 0))), ⟨#[]⟩, (!(decide ((bits .and .i64 vq16 64) = 0))), vq35, 0, false, [], [], []⟩ : PacketV) := by
  simp only [Cw] at h8
  unfold Dq Fs Gu; simp only [h8, h31, h32, h33, q9, q12, q16, q19, q23, q35, if_true, if_false, or_true, or_false, false_or, true_or, zax, za0, zaa, reduceIte]; simp [B6, h8, h31, h32, h33]
 rw [e]
 rfl
 have dh32 := of_decide_eq_false h32
 refine Aq (nT h32) (Pp rfl rfl ?_)
 rw [M2, f101]
 try simp only [Fd, Fc]
 have s41 := s30.pick Df
 refine Ke rfl rfl (Kb (n + 2) (by omega) i3 B aq23 (bq23) hB (by omega) (by omega) s41 fun xq40 vq40 aq40 bq40 H lxq40 q40 s42 => ?_)
 have b_q40 := Fq q40 (by omega) (by omega)
 refine Nc s42 ⟨_, _, rfl, rfl, rfl, rfl⟩ (.here) (C8 (Pu (A7 s42 Df rfl rfl fun H s43 => C8 (Ku (Al (c := sb (!(decide ((bits .and .i64 vq16 64) = 0)))) s43 (.here) rfl (Aa ((decide ((bits .and .i64 vq16 64) = 0))) (fun h44 => ?_) fun h44 => ?_))))))
 have dh44 := of_decide_eq_true h44
 refine Av (nF h44) (Ar s43 (.here) rfl (B9 (cs' := [si (first / 16), bF, i0, bF, i0, sE, .nl, ss vq23, si vq12, sb (!(decide ((bits .and .i64 vq16 2) = 0))), si vq19, sb (!(decide ((bits .and .i64 vq16 4) = 0))), sE, .nl, i0, bF, sb (!(decide ((bits .and .i64 vq16 128) = 0))), ss vq40, sb (!(decide ((bits .and .i64 vq16 64) = 0))), .nl, i0, bF, .nl, .nl, .nl]) s43 Xp (Ag rfl) rfl (B8 rfl) rfl fun H s45 => Ar s45 (.here) rfl (Aj (B7 s45 ⟨_, rfl, rfl⟩ (D2 (.nl (D2 (.nl (Hv (.nl (.sc (.sc (.nl (.nl (.nl .nil))))))))))) (D3 ⟨Be, (D3 ⟨Be, (Hw ⟨Be, (Ft ⟨Be, ⟨Be, ⟨Be, trivial⟩⟩⟩)⟩)⟩)⟩)) ?_)))
 have e : Dq first B = (⟨(first / 16), false, 0, false, 0, ⟨#[]⟩, ⟨#[]⟩, vq23, vq12, (!(decide ((bits .and .i64 vq16 2) = 0))), vq19, (!(decide ((bits .and .i64 vq16 4) = 0))), ⟨#[]⟩, ⟨#[]⟩, 0, false, (!(decide ((bits .and .i64 vq16 128) = 0))), vq40, (!(decide ((bits .and .i64 vq16 64) = 0))), ⟨#[]⟩, 0, false, [], [], []⟩ : PacketV) := by
  simp only [Cw] at h8
  unfold Dq Fs Gu; simp only [h8, h31, h32, h44, q9, q12, q16, q19, q23, q40, if_true, if_false, or_true, or_false, false_or, true_or, zax, za0, zaa, reduceIte]; simp [B6, h8, h31, h32, h44]
 rw [e]
 rfl
 have dh44 := of_decide_eq_false h44
 refine Aq (nT h44) ?_
 have s47 := s43.pick Df
 refine Ke rfl rfl (Kb (n + 3) (by omega) i3 B aq40 (bq40) hB (by omega) (by omega) s47 fun xq46 vq46 aq46 bq46 H lxq46 q46 s48 => ?_)
 have b_q46 := Fq q46 (by omega) (by omega)
 refine C8 (Nd (A7 s48 Df lxq46 rfl fun H s49 => Ar s49 (.here) rfl (B9 (cs' := [si (first / 16), bF, i0, bF, i0, sE, .nl, ss vq23, si vq12, sb (!(decide ((bits .and .i64 vq16 2) = 0))), si vq19, sb (!(decide ((bits .and .i64 vq16 4) = 0))), sE, .nl, i0, bF, sb (!(decide ((bits .and .i64 vq16 128) = 0))), ss vq40, sb (!(decide ((bits .and .i64 vq16 64) = 0))), xq46, i0, bF, .nl, .nl, .nl]) s49 Z7 (Ag (Ae rfl (Ae rfl (Ae rfl (Ae rfl (Ae rfl (Ae rfl (Ae rfl (Ae rfl (Ae rfl (Ae rfl (Ae rfl (Ae rfl (Ae rfl (Ae rfl (Ae rfl (Ae rfl (Ae rfl (Ae rfl (Ae rfl (Ae lxq46 rfl))))))))))))))))))))) rfl (B8 rfl) rfl fun H s50 => Ar s50 (.here) rfl (Aj (B7 s50 ⟨_, rfl, rfl⟩ (D2 (.nl (D2 (.nl (Hv (.own Df (.sc (.sc (.nl (.nl (.nl .nil))))))))))) (D3 ⟨Be, (D3 ⟨Be, (Hw ⟨(B5 (C2 vq46) (by decide)), (Ft ⟨Be, ⟨Be, ⟨Be, trivial⟩⟩⟩)⟩)⟩)⟩)) ?_))))
 have e : Dq first B = (⟨(first / 16), false, 0, false, 0, ⟨#[]⟩, ⟨#[]⟩, vq23, vq12, (!(decide ((bits .and .i64 vq16 2) = 0))), vq19, (!(decide ((bits .and .i64 vq16 4) = 0))), ⟨#[]⟩, ⟨#[]⟩, 0, false, (!(decide ((bits .and .i64 vq16 128) = 0))), vq40, (!(decide ((bits .and .i64 vq16 64) = 0))), vq46, 0, false, [], [], []⟩ : PacketV) := by
  simp only [Cw] at h8
  unfold Dq Fs Gu; simp only [h8, h31, h32, h44, q9, q12, q16, q19, q23, q40, q46, if_true, if_false, or_true, or_false, false_or, true_or, zax, za0, zaa, reduceIte]; simp [B6, h8, h31, h32, h44]
 rw [e]
 rfl
 have dh31 := of_decide_eq_false h31
 refine Aq (nT h31) (T6 8 rfl (by decide) (Gv rfl (Gv rfl (M4 (C8 (V6 (A7 s30 (.here) rfl rfl fun H s51 => C8 (Aa5 (A7 s51 (.here) rfl rfl fun H s52 => Pp rfl rfl ?_)))))))))
 rw [M2, f101]
 try simp only [Fd, Fc]
 have s54 := s52.pick Df
 refine Ke rfl rfl (Kb (n + 2) (by omega) i3 B aq23 (bq23) hB (by omega) (by omega) s54 fun xq53 vq53 aq53 bq53 H lxq53 q53 s55 => ?_)
 have b_q53 := Fq q53 (by omega) (by omega)
 refine Nc s55 ⟨_, _, rfl, rfl, rfl, rfl⟩ (.here) (C8 (V4 (A7 s55 Df rfl rfl fun H s56 => ?_)))
 have s58 := s56.pick Df
 refine Ke rfl rfl (Kb (n + 3) (by omega) i3 B aq53 (bq53) hB (by omega) (by omega) s58 fun xq57 vq57 aq57 bq57 H lxq57 q57 s59 => ?_)
 have b_q57 := Fq q57 (by omega) (by omega)
 refine C8 (V5 (A7 s59 Df lxq57 rfl fun H s60 => C8 (Pa (Al (c := sb (!(decide ((bits .and .i64 vq16 128) = 0)))) s60 (.here) rfl (De (Aa ((decide ((bits .and .i64 vq16 128) = 0))) (fun h61 => ?_) fun h61 => ?_))))))
 have dh61 := of_decide_eq_true h61
 refine Av (nF h61) (C8 (Ku (Al (c := sb (!(decide ((bits .and .i64 vq16 64) = 0)))) s60 (.here) rfl (Aa ((decide ((bits .and .i64 vq16 64) = 0))) (fun h62 => ?_) fun h62 => ?_))))
 have dh62 := of_decide_eq_true h62
 refine Av (nF h62) (Ar s60 (.here) rfl (B9 (cs' := [si (first / 16), bF, i0, bF, i0, sE, .nl, ss vq23, si vq12, sb (!(decide ((bits .and .i64 vq16 2) = 0))), si vq19, sb (!(decide ((bits .and .i64 vq16 4) = 0))), ss vq53, xq57, si (bits .and .i64 (vq16 / 8) 3), sb (!(decide ((bits .and .i64 vq16 32) = 0))), sb (!(decide ((bits .and .i64 vq16 128) = 0))), sE, sb (!(decide ((bits .and .i64 vq16 64) = 0))), .nl, i0, bF, .nl, .nl, .nl]) s60 Z7 (Ag (Ae rfl (Ae rfl (Ae rfl (Ae rfl (Ae rfl (Ae rfl (Ae rfl (Ae rfl (Ae rfl (Ae rfl (Ae rfl (Ae rfl (Ae rfl (Ae lxq57 rfl))))))))))))))) rfl (B8 rfl) rfl fun H s63 => Ar s63 (.here) rfl (Aj (B7 s63 ⟨_, rfl, rfl⟩ (D2 (.nl (D2 (.own Df (Hv (.nl (.sc (.sc (.nl (.nl (.nl .nil))))))))))) (D3 ⟨Be, (D3 ⟨(B5 (C2 vq57) (by decide)), (Hw ⟨Be, (Ft ⟨Be, ⟨Be, ⟨Be, trivial⟩⟩⟩)⟩)⟩)⟩)) ?_)))
 have e : Dq first B = (⟨(first / 16), false, 0, false, 0, ⟨#[]⟩, ⟨#[]⟩, vq23, vq12, (!(decide ((bits .and .i64 vq16 2) = 0))), vq19, (!(decide ((bits .and .i64 vq16 4) = 0))), vq53, vq57, (bits .and .i64 (vq16 / 8) 3), (!(decide ((bits .and .i64 vq16 32) = 0))), (!(decide ((bits .and .i64 vq16 128) = 0))), ⟨#[]⟩, (!(decide ((bits .and .i64 vq16 64) = 0))), ⟨#[]⟩, 0, false, [], [], []⟩ : PacketV) := by
  simp only [Cw] at h8
  unfold Dq Fs Gu; simp only [h8, h31, h61, h62, q9, q12, q16, q19, q23, q53, q57, if_true, if_false, or_true, or_false, false_or, true_or, zax, za0, zaa, reduceIte]; simp [B6, h8, h31, h61, h62]
 rw [e]
 rfl
 have dh62 := of_decide_eq_false h62
 refine Aq (nT h62) ?_
 have s65 := s60.pick Df
 refine Ke rfl rfl (Kb (n + 3) (by omega) i3 B aq57 (bq57) hB (by omega) (by omega) s65 fun xq64 vq64 aq64 bq64 H lxq64 q64 s66 => ?_)
 have b_q64 := Fq q64 (by omega) (by omega)
 refine C8 (Nd (A7 s66 Df lxq64 rfl fun H s67 => Ar s67 (.here) rfl (B9 (cs' := [si (first / 16), bF, i0, bF, i0, sE, .nl, ss vq23, si vq12, sb (!(decide ((bits .and .i64 vq16 2) = 0))), si vq19, sb (!(decide ((bits .and .i64 vq16 4) = 0))), ss vq53, xq57, si (bits .and .i64 (vq16 / 8) 3), sb (!(decide ((bits .and .i64 vq16 32) = 0))), sb (!(decide ((bits .and .i64 vq16 128) = 0))), sE, sb (!(decide ((bits .and .i64 vq16 64) = 0))), xq64, i0, bF, .nl, .nl, .nl]) s67 zP7 (Ag (Ae rfl (Ae rfl (Ae rfl (Ae rfl (Ae rfl (Ae rfl (Ae rfl (Ae rfl (Ae rfl (Ae rfl (Ae rfl (Ae rfl (Ae rfl (Ae lxq57 (Ae rfl (Ae rfl (Ae rfl (Ae rfl (Ae rfl (Ae lxq64 rfl))))))))))))))))))))) rfl (B8 rfl) rfl fun H s68 => Ar s68 (.here) rfl (Aj (B7 s68 ⟨_, rfl, rfl⟩ (D2 (.nl (D2 (.own Nk (Hv (.own Df (.sc (.sc (.nl (.nl (.nl .nil))))))))))) (D3 ⟨Be, (D3 ⟨(B5 (C2 vq57) (by decide)), (Hw ⟨(B5 (C2 vq64) (by decide)), (Ft ⟨Be, ⟨Be, ⟨Be, trivial⟩⟩⟩)⟩)⟩)⟩)) ?_))))
 have e : Dq first B = (⟨(first / 16), false, 0, false, 0, ⟨#[]⟩, ⟨#[]⟩, vq23, vq12, (!(decide ((bits .and .i64 vq16 2) = 0))), vq19, (!(decide ((bits .and .i64 vq16 4) = 0))), vq53, vq57, (bits .and .i64 (vq16 / 8) 3), (!(decide ((bits .and .i64 vq16 32) = 0))), (!(decide ((bits .and .i64 vq16 128) = 0))), ⟨#[]⟩, (!(decide ((bits .and .i64 vq16 64) = 0))), vq64, 0, false, [], [], []⟩ : PacketV) := by
  simp only [Cw] at h8
  unfold Dq Fs Gu; simp only [h8, h31, h61, h62, q9, q12, q16, q19, q23, q53, q57, q64, if_true, if_false, or_true, or_false, false_or, true_or, zax, za0, zaa, reduceIte]; simp [B6, h8, h31, h61, h62]
 rw [e]
 rfl
 have dh61 := of_decide_eq_false h61
 refine Aq (nT h61) (Pp rfl rfl ?_)
 rw [M2, f101]
 try simp only [Fd, Fc]
 have s70 := s60.pick Df
 refine Ke rfl rfl (Kb (n + 2) (by omega) i3 B aq57 (bq57) hB (by omega) (by omega) s70 fun xq69 vq69 aq69 bq69 H lxq69 q69 s71 => ?_)
 have b_q69 := Fq q69 (by omega) (by omega)
 refine Nc s71 ⟨_, _, rfl, rfl, rfl, rfl⟩ (.here) (C8 (Pu (A7 s71 Df rfl rfl fun H s72 => C8 (Ku (Al (c := sb (!(decide ((bits .and .i64 vq16 64) = 0)))) s72 (.here) rfl (Aa ((decide ((bits .and .i64 vq16 64) = 0))) (fun h73 => ?_) fun h73 => ?_))))))
 have dh73 := of_decide_eq_true h73
 refine Av (nF h73) (Ar s72 (.here) rfl (B9 (cs' := [si (first / 16), bF, i0, bF, i0, sE, .nl, ss vq23, si vq12, sb (!(decide ((bits .and .i64 vq16 2) = 0))), si vq19, sb (!(decide ((bits .and .i64 vq16 4) = 0))), ss vq53, xq57, si (bits .and .i64 (vq16 / 8) 3), sb (!(decide ((bits .and .i64 vq16 32) = 0))), sb (!(decide ((bits .and .i64 vq16 128) = 0))), ss vq69, sb (!(decide ((bits .and .i64 vq16 64) = 0))), .nl, i0, bF, .nl, .nl, .nl]) s72 zP7 (Ag (Ae rfl (Ae rfl (Ae rfl (Ae rfl (Ae rfl (Ae rfl (Ae rfl (Ae rfl (Ae rfl (Ae rfl (Ae rfl (Ae rfl (Ae rfl (Ae lxq57 rfl))))))))))))))) rfl (B8 rfl) rfl fun H s74 => Ar s74 (.here) rfl (Aj (B7 s74 ⟨_, rfl, rfl⟩ (D2 (.nl (D2 (.own Nk (Hv (.nl (.sc (.sc (.nl (.nl (.nl .nil))))))))))) (D3 ⟨Be, (D3 ⟨(B5 (C2 vq57) (by decide)), (Hw ⟨Be, (Ft ⟨Be, ⟨Be, ⟨Be, trivial⟩⟩⟩)⟩)⟩)⟩)) ?_)))
 have e : Dq first B = (⟨(first / 16), false, 0, false, 0, ⟨#[]⟩, ⟨#[]⟩, vq23, vq12, (!(decide ((bits .and .i64 vq16 2) = 0))), vq19, (!(decide ((bits .and .i64 vq16 4) = 0))), vq53, vq57, (bits .and .i64 (vq16 / 8) 3), (!(decide ((bits .and .i64 vq16 32) = 0))), (!(decide ((bits .and .i64 vq16 128) = 0))), vq69, (!(decide ((bits .and .i64 vq16 64) = 0))), ⟨#[]⟩, 0, false, [], [], []⟩ : PacketV) := by
  simp only [Cw] at h8
  unfold Dq Fs Gu; simp only [h8, h31, h61, h73, q9, q12, q16, q19, q23, q53, q57, q69, if_true, if_false, or_true, or_false, false_or, true_or, zax, za0, zaa, reduceIte]; simp [B6, h8, h31, h61, h73]
 rw [e]
 rfl
 have dh73 := of_decide_eq_false h73
 refine Aq (nT h73) ?_
 have s76 := s72.pick Df
 refine Ke rfl rfl (Kb (n + 3) (by omega) i3 B aq69 (bq69) hB (by omega) (by omega) s76 fun xq75 vq75 aq75 bq75 H lxq75 q75 s77 => ?_)
 have b_q75 := Fq q75 (by omega) (by omega)
 refine C8 (Nd (A7 s77 Df lxq75 rfl fun H s78 => Ar s78 (.here) rfl (B9 (cs' := [si (first / 16), bF, i0, bF, i0, sE, .nl, ss vq23, si vq12, sb (!(decide ((bits .and .i64 vq16 2) = 0))), si vq19, sb (!(decide ((bits .and .i64 vq16 4) = 0))), ss vq53, xq57, si (bits .and .i64 (vq16 / 8) 3), sb (!(decide ((bits .and .i64 vq16 32) = 0))), sb (!(decide ((bits .and .i64 vq16 128) = 0))), ss vq69, sb (!(decide ((bits .and .i64 vq16 64) = 0))), xq75, i0, bF, .nl, .nl, .nl]) s78 zP8 (Ag (Ae rfl (Ae rfl (Ae rfl (Ae rfl (Ae rfl (Ae rfl (Ae rfl (Ae rfl (Ae rfl (Ae rfl (Ae rfl (Ae rfl (Ae rfl (Ae lxq57 (Ae rfl (Ae rfl (Ae rfl (Ae rfl (Ae rfl (Ae lxq75 rfl))))))))))))))))))))) rfl (B8 rfl) rfl fun H s79 => Ar s79 (.here) rfl (Aj (B7 s79 ⟨_, rfl, rfl⟩ (D2 (.nl (D2 (.own Xp (Hv (.own Df (.sc (.sc (.nl (.nl (.nl .nil))))))))))) (D3 ⟨Be, (D3 ⟨(B5 (C2 vq57) (by decide)), (Hw ⟨(B5 (C2 vq75) (by decide)), (Ft ⟨Be, ⟨Be, ⟨Be, trivial⟩⟩⟩)⟩)⟩)⟩)) ?_))))
 have e : Dq first B = (⟨(first / 16), false, 0, false, 0, ⟨#[]⟩, ⟨#[]⟩, vq23, vq12, (!(decide ((bits .and .i64 vq16 2) = 0))), vq19, (!(decide ((bits .and .i64 vq16 4) = 0))), vq53, vq57, (bits .and .i64 (vq16 / 8) 3), (!(decide ((bits .and .i64 vq16 32) = 0))), (!(decide ((bits .and .i64 vq16 128) = 0))), vq69, (!(decide ((bits .and .i64 vq16 64) = 0))), vq75, 0, false, [], [], []⟩ : PacketV) := by
  simp only [Cw] at h8
  unfold Dq Fs Gu; simp only [h8, h31, h61, h73, q9, q12, q16, q19, q23, q53, q57, q69, q75, if_true, if_false, or_true, or_false, false_or, true_or, zax, za0, zaa, reduceIte]; simp [B6, h8, h31, h61, h73]
 rw [e]
 rfl
 have dh8 := of_decide_eq_false h8
 refine Av h8 (A2 (Aa ((decide ((first / 16) = 2))) (fun h80 => ?_) fun h80 => ?_))
 have dh80 := of_decide_eq_true h80
 refine Aq h80 ?_
 have s82 := s7.pick Ct
 refine Ke rfl rfl (AeE (n + 9) (by omega) i3 B 0 (false) hB (by omega) (by omega) s82 fun vq81 aq81 bq81 H q81 s83 => ?_)
 have b_q81 := Qu q81 (by omega) (by omega)
 refine A2 (V7 (A7 s83 Ct rfl rfl fun H s84 => ?_))
 have s86 := s84.pick Ct
 refine Ke rfl rfl (AeE (n + 9) (by omega) i3 B aq81 (bq81) hB (by omega) (by omega) s86 fun vq85 aq85 bq85 H q85 s87 => ?_)
 have b_q85 := Qu q85 (by omega) (by omega)
 refine Rm (A7 s87 Ct rfl rfl fun H s88 => Ar s88 (.here) rfl (B9 (cs' := [si (first / 16), bF, i0, bF, i0, sE, .nl, sE, i0, bF, i0, bF, sE, .nl, i0, bF, bF, sE, bF, .nl, si vq85, sb (decide (vq81 = 1)), .nl, .nl, .nl]) s88 Df (Ag rfl) rfl (B8 rfl) rfl fun H s89 => Ar s89 (.here) rfl (Aj (B7 s89 ⟨_, rfl, rfl⟩ (D2 (.nl (D2 (.nl (Hv (.nl (.sc (.sc (.nl (.nl (.nl .nil))))))))))) (D3 ⟨Be, (D3 ⟨Be, (Hw ⟨Be, (Ft ⟨Be, ⟨Be, ⟨Be, trivial⟩⟩⟩)⟩)⟩)⟩)) ?_)))
 have e : Dq first B = (⟨(first / 16), false, 0, false, 0, ⟨#[]⟩, ⟨#[]⟩, ⟨#[]⟩, 0, false, 0, false, ⟨#[]⟩, ⟨#[]⟩, 0, false, false, ⟨#[]⟩, false, ⟨#[]⟩, vq85, (decide (vq81 = 1)), [], [], []⟩ : PacketV) := by
  simp only [Cw] at h8 h80
  unfold Dq Fs Gu; simp only [h8, h80, q81, q85, if_true, if_false, or_true, or_false, false_or, true_or, zax, za0, zaa, reduceIte]; simp [B6, h8, h80]
 rw [e]
 rfl
 have dh80 := of_decide_eq_false h80
 refine Av h80 (A2 (Aa ((decide ((first / 16) = 3))) (fun h90 => ?_) fun h90 => ?_))
 have dh90 := of_decide_eq_true h90
 refine Aq h90 (Gv rfl (M4 (T6 2 rfl (by decide) (Gv rfl (Gv rfl (M4 (V2 (A7 s7 (.here) rfl rfl fun H s91 => Pb (A7 s91 (.here) rfl rfl fun H s92 => gf3 (A7 s92 (.here) rfl rfl fun H s93 => Pp rfl rfl ?_))))))))))
 rw [M2, f101]
 try simp only [Fd, Fc]
 have s95 := s93.pick Ct
 refine Ke rfl rfl (Kb (n + 3) (by omega) i3 B 0 (false) hB (by omega) (by omega) s95 fun xq94 vq94 aq94 bq94 H lxq94 q94 s96 => ?_)
 have b_q94 := Fq q94 (by omega) (by omega)
 refine Nc s96 ⟨_, _, rfl, rfl, rfl, rfl⟩ (.here) (gf5 (A7 s96 Df rfl rfl fun H s97 => Pb (Al (c := si (bits .and .i64 (first / 2) 3)) s97 (.here) rfl (Ej (De (Aa ((decide (0 < (bits .and .i64 (first / 2) 3)))) (fun h98 => ?_) fun h98 => ?_))))))
 have dh98 := of_decide_eq_true h98
 refine Aq h98 ?_
 have s100 := s97.pick Df
 refine Ke rfl rfl (AhO (n + 8) (by omega) i3 B aq94 (bq94) hB (by omega) (by omega) s100 fun vq99 aq99 bq99 H q99 s101 => ?_)
 have b_q99 := Tw q99 (by omega) (by omega)
 refine It (A7 s101 Ct rfl rfl fun H s102 => C8 (Pb (Al (c := sb bq99) s102 Ct rfl (B4 (Aa (bq99) (fun h103 => ?_) fun h103 => ?_)))))
 refine Av (nF h103) (Ar s102 (.here) rfl (B9 (cs' := [si (first / 16), sb (!(decide ((bits .and .i64 first 8) = 0))), si (bits .and .i64 (first / 2) 3), sb (!(decide ((bits .and .i64 first 1) = 0))), si vq99, ss vq94, .nl, sE, i0, bF, i0, bF, sE, .nl, i0, bF, bF, sE, bF, .nl, i0, bF, .nl, .nl, .nl]) s102 Nj (Ag rfl) rfl (B8 rfl) rfl fun H s104 => Ar s104 (.here) rfl (Aj (B7 s104 ⟨_, rfl, rfl⟩ (D2 (.nl (D2 (.nl (Hv (.nl (.sc (.sc (.nl (.nl (.nl .nil))))))))))) (D3 ⟨Be, (D3 ⟨Be, (Hw ⟨Be, (Ft ⟨Be, ⟨Be, ⟨Be, trivial⟩⟩⟩)⟩)⟩)⟩)) ?_)))
 have e : Dq first B = (⟨(first / 16), (!(decide ((bits .and .i64 first 8) = 0))), (bits .and .i64 (first / 2) 3), (!(decide ((bits .and .i64 first 1) = 0))), vq99, vq94, ⟨#[]⟩, ⟨#[]⟩, 0, false, 0, false, ⟨#[]⟩, ⟨#[]⟩, 0, false, false, ⟨#[]⟩, false, ⟨#[]⟩, 0, false, [], [], []⟩ : PacketV) := by
  simp only [Cw] at h8 h80 h90 h98
  unfold Dq Fs Gu; simp only [h8, h80, h90, h98, h103, q94, q99, if_true, if_false, or_true, or_false, false_or, true_or, zax, za0, zaa, reduceIte]; simp [B6, h8, h80, h90, h98, h103]
 rw [e]
 rfl
 refine Aq (nT h103) (C8 (V2 (Al (c := si aq99) s102 Ct rfl (Gx aq99 ((B.size : Nat) : Int) rfl rfl (by omega) (by omega) (by omega) ?_))))
 have z105 := zaw (a := B) (b := aq99.toNat) (e := ((B.size : Nat) : Int).toNat)
 refine Bf (cs := [Af (B.extract aq99.toNat ((B.size : Nat) : Int).toNat)]) rfl (Cf s102 fun i106 H s107 => Ca s107 rfl (.sl (.here) rfl (.cons .ro .nil) .nil) (Nr (n + 6) (by omega) (B.extract aq99.toNat ((B.size : Nat) : Int).toNat) (by omega)) (C2 (B.extract aq99.toNat ((B.size : Nat) : Int).toNat)) fun x108 H lx108 s109 => gf6 (A7 s109 Df lx108 rfl fun H s110 => Ar s110 (.here) rfl (B9 (cs' := [si (first / 16), sb (!(decide ((bits .and .i64 first 8) = 0))), si (bits .and .i64 (first / 2) 3), sb (!(decide ((bits .and .i64 first 1) = 0))), si vq99, ss vq94, x108, sE, i0, bF, i0, bF, sE, .nl, i0, bF, bF, sE, bF, .nl, i0, bF, .nl, .nl, .nl]) s110 Xp (Ag (Ae rfl (Ae rfl (Ae rfl (Ae rfl (Ae rfl (Ae rfl (Ae lx108 rfl)))))))) rfl (B8 rfl) rfl fun H s111 => Ar s111 (.here) rfl (Aj (B7 s111 ⟨_, rfl, rfl⟩ (D2 (.own Df (D2 (.nl (Hv (.nl (.sc (.sc (.nl (.nl (.nl .nil))))))))))) (D3 ⟨(B5 (C2 (B.extract aq99.toNat ((B.size : Nat) : Int).toNat)) (by decide)), (D3 ⟨Be, (Hw ⟨Be, (Ft ⟨Be, ⟨Be, ⟨Be, trivial⟩⟩⟩)⟩)⟩)⟩)) ?_))))
 have e : Dq first B = (⟨(first / 16), (!(decide ((bits .and .i64 first 8) = 0))), (bits .and .i64 (first / 2) 3), (!(decide ((bits .and .i64 first 1) = 0))), vq99, vq94, (B.extract aq99.toNat ((B.size : Nat) : Int).toNat), ⟨#[]⟩, 0, false, 0, false, ⟨#[]⟩, ⟨#[]⟩, 0, false, false, ⟨#[]⟩, false, ⟨#[]⟩, 0, false, [], [], []⟩ : PacketV) := by
  simp only [Cw] at h8 h80 h90 h98
  unfold Dq Fs Gu; simp only [h8, h80, h90, h98, h103, q94, q99, if_true, if_false, or_true, or_false, false_or, true_or, zax, za0, zaa, reduceIte]; simp [B6, h8, h80, h90, h98, h103]
 rw [e]
 rfl
 have dh98 := of_decide_eq_false h98
 refine Av h98 (C8 (Pb (Al (c := sb bq94) s97 Df rfl (B4 (Aa (bq94) (fun h112 => ?_) fun h112 => ?_)))))
 refine Av (nF h112) (Ar s97 (.here) rfl (B9 (cs' := [si (first / 16), sb (!(decide ((bits .and .i64 first 8) = 0))), si (bits .and .i64 (first / 2) 3), sb (!(decide ((bits .and .i64 first 1) = 0))), i0, ss vq94, .nl, sE, i0, bF, i0, bF, sE, .nl, i0, bF, bF, sE, bF, .nl, i0, bF, .nl, .nl, .nl]) s97 Nj (Ag rfl) rfl (B8 rfl) rfl fun H s113 => Ar s113 (.here) rfl (Aj (B7 s113 ⟨_, rfl, rfl⟩ (D2 (.nl (D2 (.nl (Hv (.nl (.sc (.sc (.nl (.nl (.nl .nil))))))))))) (D3 ⟨Be, (D3 ⟨Be, (Hw ⟨Be, (Ft ⟨Be, ⟨Be, ⟨Be, trivial⟩⟩⟩)⟩)⟩)⟩)) ?_)))
 have e : Dq first B = (⟨(first / 16), (!(decide ((bits .and .i64 first 8) = 0))), (bits .and .i64 (first / 2) 3), (!(decide ((bits .and .i64 first 1) = 0))), 0, vq94, ⟨#[]⟩, ⟨#[]⟩, 0, false, 0, false, ⟨#[]⟩, ⟨#[]⟩, 0, false, false, ⟨#[]⟩, false, ⟨#[]⟩, 0, false, [], [], []⟩ : PacketV) := by
  simp only [Cw] at h8 h80 h90 h98
  unfold Dq Fs Gu; simp only [h8, h80, h90, h98, h112, q94, if_true, if_false, or_true, or_false, false_or, true_or, zax, za0, zaa, reduceIte]; simp [B6, h8, h80, h90, h98, h112]
 rw [e]
 rfl
 refine Aq (nT h112) (C8 (V2 (Al (c := si aq94) s97 Df rfl (Gx aq94 ((B.size : Nat) : Int) rfl rfl (by omega) (by omega) (by omega) ?_))))
 have z114 := zaw (a := B) (b := aq94.toNat) (e := ((B.size : Nat) : Int).toNat)
 refine Bf (cs := [Af (B.extract aq94.toNat ((B.size : Nat) : Int).toNat)]) rfl (Cf s97 fun i115 H s116 => Ca s116 rfl (.sl (.here) rfl (.cons .ro .nil) .nil) (Nr (n + 6) (by omega) (B.extract aq94.toNat ((B.size : Nat) : Int).toNat) (by omega)) (C2 (B.extract aq94.toNat ((B.size : Nat) : Int).toNat)) fun x117 H lx117 s118 => gf6 (A7 s118 Df lx117 rfl fun H s119 => Ar s119 (.here) rfl (B9 (cs' := [si (first / 16), sb (!(decide ((bits .and .i64 first 8) = 0))), si (bits .and .i64 (first / 2) 3), sb (!(decide ((bits .and .i64 first 1) = 0))), i0, ss vq94, x117, sE, i0, bF, i0, bF, sE, .nl, i0, bF, bF, sE, bF, .nl, i0, bF, .nl, .nl, .nl]) s119 Xp (Ag (Ae rfl (Ae rfl (Ae rfl (Ae rfl (Ae rfl (Ae rfl (Ae lx117 rfl)))))))) rfl (B8 rfl) rfl fun H s120 => Ar s120 (.here) rfl (Aj (B7 s120 ⟨_, rfl, rfl⟩ (D2 (.own Df (D2 (.nl (Hv (.nl (.sc (.sc (.nl (.nl (.nl .nil))))))))))) (D3 ⟨(B5 (C2 (B.extract aq94.toNat ((B.size : Nat) : Int).toNat)) (by decide)), (D3 ⟨Be, (Hw ⟨Be, (Ft ⟨Be, ⟨Be, ⟨Be, trivial⟩⟩⟩)⟩)⟩)⟩)) ?_))))
 have e : Dq first B = (⟨(first / 16), (!(decide ((bits .and .i64 first 8) = 0))), (bits .and .i64 (first / 2) 3), (!(decide ((bits .and .i64 first 1) = 0))), 0, vq94, (B.extract aq94.toNat ((B.size : Nat) : Int).toNat), ⟨#[]⟩, 0, false, 0, false, ⟨#[]⟩, ⟨#[]⟩, 0, false, false, ⟨#[]⟩, false, ⟨#[]⟩, 0, false, [], [], []⟩ : PacketV) := by
  simp only [Cw] at h8 h80 h90 h98
  unfold Dq Fs Gu; simp only [h8, h80, h90, h98, h112, q94, if_true, if_false, or_true, or_false, false_or, true_or, zax, za0, zaa, reduceIte]; simp [B6, h8, h80, h90, h98, h112]
 rw [e]
 rfl
 have dh90 := of_decide_eq_false h90
 refine Av h90 (A2 (De (Aa ((decide ((first / 16) = 12))) (fun h121 => ?_) fun h121 => ?_)))
 have dh121 := of_decide_eq_true h121
 refine Aq h121 (Aq h121 (Ar s7 (.here) rfl (B9 (cs' := [si (first / 16), bF, i0, bF, i0, sE, .nl, sE, i0, bF, i0, bF, sE, .nl, i0, bF, bF, sE, bF, .nl, i0, bF, .nl, .nl, .nl]) s7 Df (Ag rfl) rfl (B8 rfl) rfl fun H s122 => Ar s122 (.here) rfl (Aj (B7 s122 ⟨_, rfl, rfl⟩ (D2 (.nl (D2 (.nl (Hv (.nl (.sc (.sc (.nl (.nl (.nl .nil))))))))))) (D3 ⟨Be, (D3 ⟨Be, (Hw ⟨Be, (Ft ⟨Be, ⟨Be, ⟨Be, trivial⟩⟩⟩)⟩)⟩)⟩)) ?_))))
 have e : Dq first B = (⟨(first / 16), false, 0, false, 0, ⟨#[]⟩, ⟨#[]⟩, ⟨#[]⟩, 0, false, 0, false, ⟨#[]⟩, ⟨#[]⟩, 0, false, false, ⟨#[]⟩, false, ⟨#[]⟩, 0, false, [], [], []⟩ : PacketV) := by
  simp only [Cw] at h8 h80 h90 h121
  unfold Dq Fs Gu; simp only [h8, h80, h90, h121, if_true, if_false, or_true, or_false, false_or, true_or, zax, za0, zaa, reduceIte]; simp [B6, h8, h80, h90, h121]
 rw [e]
 rfl
 have dh121 := of_decide_eq_false h121
 refine Av h121 (A2 (Aa ((decide ((first / 16) = 13))) (fun h123 => ?_) fun h123 => ?_))
 have dh123 := of_decide_eq_true h123
 refine Aq h123 (Aq h123 (Ar s7 (.here) rfl (B9 (cs' := [si (first / 16), bF, i0, bF, i0, sE, .nl, sE, i0, bF, i0, bF, sE, .nl, i0, bF, bF, sE, bF, .nl, i0, bF, .nl, .nl, .nl]) s7 Df (Ag rfl) rfl (B8 rfl) rfl fun H s124 => Ar s124 (.here) rfl (Aj (B7 s124 ⟨_, rfl, rfl⟩ (D2 (.nl (D2 (.nl (Hv (.nl (.sc (.sc (.nl (.nl (.nl .nil))))))))))) (D3 ⟨Be, (D3 ⟨Be, (Hw ⟨Be, (Ft ⟨Be, ⟨Be, ⟨Be, trivial⟩⟩⟩)⟩)⟩)⟩)) ?_))))
 have e : Dq first B = (⟨(first / 16), false, 0, false, 0, ⟨#[]⟩, ⟨#[]⟩, ⟨#[]⟩, 0, false, 0, false, ⟨#[]⟩, ⟨#[]⟩, 0, false, false, ⟨#[]⟩, false, ⟨#[]⟩, 0, false, [], [], []⟩ : PacketV) := by
  simp only [Cw] at h8 h80 h90 h121 h123
  unfold Dq Fs Gu; simp only [h8, h80, h90, h121, h123, if_true, if_false, or_true, or_false, false_or, true_or, zax, za0, zaa, reduceIte]; simp [B6, h8, h80, h90, h121, h123]
 rw [e]
 rfl
 have dh123 := of_decide_eq_false h123
 refine Av h123 (A2 (Aa ((decide ((first / 16) = 14))) (fun h125 => ?_) fun h125 => ?_))
 have dh125 := of_decide_eq_true h125
 refine Aq h125 (Ar s7 (.here) rfl (B9 (cs' := [si (first / 16), bF, i0, bF, i0, sE, .nl, sE, i0, bF, i0, bF, sE, .nl, i0, bF, bF, sE, bF, .nl, i0, bF, .nl, .nl, .nl]) s7 Df (Ag rfl) rfl (B8 rfl) rfl fun H s126 => Ar s126 (.here) rfl (Aj (B7 s126 ⟨_, rfl, rfl⟩ (D2 (.nl (D2 (.nl (Hv (.nl (.sc (.sc (.nl (.nl (.nl .nil))))))))))) (D3 ⟨Be, (D3 ⟨Be, (Hw ⟨Be, (Ft ⟨Be, ⟨Be, ⟨Be, trivial⟩⟩⟩)⟩)⟩)⟩)) ?_)))
 have e : Dq first B = (⟨(first / 16), false, 0, false, 0, ⟨#[]⟩, ⟨#[]⟩, ⟨#[]⟩, 0, false, 0, false, ⟨#[]⟩, ⟨#[]⟩, 0, false, false, ⟨#[]⟩, false, ⟨#[]⟩, 0, false, [], [], []⟩ : PacketV) := by
  simp only [Cw] at h8 h80 h90 h121 h123 h125
  unfold Dq Fs Gu; simp only [h8, h80, h90, h121, h123, h125, if_true, if_false, or_true, or_false, false_or, true_or, zax, za0, zaa, reduceIte]; simp [B6, h8, h80, h90, h121, h123, h125]
 rw [e]
 rfl
 have dh125 := of_decide_eq_false h125
 refine Av h125 ?_
 have s128 := s7.pick Ct
 refine Ke rfl rfl (AhO (n + 8) (by omega) i3 B 0 (false) hB (by omega) (by omega) s128 fun vq127 aq127 bq127 H q127 s129 => ?_)
 have b_q127 := Tw q127 (by omega) (by omega)
 refine It (A7 s129 Ct rfl rfl fun H s130 => Pp rfl rfl ?_)
 rw [Ail, f103]
 have s131 := s130.nl (ty := 56) ⟨_, _, rfl, rfl⟩
 have s132 := s131.nl (ty := 57) ⟨_, _, rfl, rfl⟩
 have s133 := s132.nl (ty := 55) ⟨_, _, rfl, rfl⟩
 have s135a := s133.sel (.cons .here (.cons .here (.cons .here (.cons Ct (.cons (.here) .rest)))))
 refine Wf (n + 1) (by omega) (first / 16) B i3 i5 vq127 hB _ 8 _ aq127 bq127 [] [] [] .nl .nl .nl _ (by omega) (Or.inr (by decide)) (by decide) (by omega) (by omega) rfl rfl rfl s135a fun wq134 cq134 nq134 aq134 bq134 H lwq134 lcq134 lnq134 s135 => Ar s135 Nk rfl (B9 (cs' := [si (first / 16), bF, i0, bF, si vq127, sE, .nl, sE, i0, bF, i0, bF, sE, .nl, i0, bF, bF, sE, bF, .nl, i0, bF, wq134, nq134, cq134]) s135 Xp (Ag (Ae rfl (Ae rfl (Ae rfl (Ae rfl (Ae rfl (Ae rfl (Ae rfl (Ae rfl (Ae rfl (Ae rfl (Ae rfl (Ae rfl (Ae rfl (Ae rfl (Ae rfl (Ae rfl (Ae rfl (Ae rfl (Ae rfl (Ae rfl (Ae rfl (Ae rfl (Ae lwq134 (Ae lnq134 (Ae lcq134 rfl)))))))))))))))))))))))))) rfl (B8 rfl) rfl fun H s136 => Ar s136 (.here) rfl (Aj (B7 s136 ⟨_, rfl, rfl⟩ (D2 (.nl (D2 (.nl (Hv (.nl (.sc (.sc (.own Ct (.own Df (.own Ct .nil))))))))))) (D3 ⟨Be, (D3 ⟨Be, (Hw ⟨Be, (Ft ⟨(B5 (Lo ((Cc (first / 16) B 8 (aq127, bq127) [] [] []).1)) (by decide)), ⟨(B5 (Wk ((Cc (first / 16) B 8 (aq127, bq127) [] [] []).2.2)) (by decide)), ⟨(B5 (Zp ((Cc (first / 16) B 8 (aq127, bq127) [] [] []).2.1)) (by decide)), trivial⟩⟩⟩)⟩)⟩)⟩)) ?_))
 have e : Dq first B = (⟨(first / 16), false, 0, false, vq127, ⟨#[]⟩, ⟨#[]⟩, ⟨#[]⟩, 0, false, 0, false, ⟨#[]⟩, ⟨#[]⟩, 0, false, false, ⟨#[]⟩, false, ⟨#[]⟩, 0, false, ((Cc (first / 16) B 8 (aq127, bq127) [] [] []).1), (Cc (first / 16) B 8 (aq127, bq127) [] [] []).2.2, (Cc (first / 16) B 8 (aq127, bq127) [] [] []).2.1⟩ : PacketV) := by
  simp only [Cw] at h8 h80 h90 h121 h123 h125
  unfold Dq Fs Gu; simp only [h8, h80, h90, h121, h123, h125, q127, if_true, if_false, or_true, or_false, false_or, true_or, zax, za0, zaa, reduceIte]; simp [B6, h8, h80, h90, h121, h123, h125]
 rw [e]
 rfl
end
section
open Go
theorem Ace (n : Nat) (hn : 1048576 < n) (B : ByteArray) (hB : B.size ≤ 1048576) : B3 E0 (n + 6) 59 86 [Af B] = some (.agg (Ap (A1 B))) := by
 rw [Au, AlJ, f86]
 refine Ci (G := (· = some (.agg (Ap (A1 B))))) ?_
 try simp only [Fd, Fc]
 have s0 : Sep [] [] := Cb
 refine Id s0 fun i1 H s2 => Bf (cs := [si 1, bF, i0, bF, i0, sE, .nl, sE, i0, bF, i0, bF, sE, .nl, i0, bF, bF, sE, bF, .nl, i0, bF, .nl, .nl, .nl]) rfl (Id s2 fun i3 H s4 => B9 (cs' := [si 1, bF, i0, bF, i0, sE, .nl, sE, i0, bF, i0, bF, sE, .nl, i0, bF, bF, sE, bF, .nl, i0, bF, .nl, .nl, .nl]) s4 (.here) (Ag rfl) rfl (B8 rfl) rfl fun H s5 => ?_)
 obtain ⟨vq6, yq6, oq6, q6⟩ : ∃ w y o, B0 B 0 = (w, y, o) := ⟨_, _, _, rfl⟩
 have bq6 := G0 q6
 refine Eg s5 rfl (.cons .ro (.cons .sc .nil)) (by have h := Lp n (by omega) B 0 (by omega) (by omega); rw [q6] at h; exact h) rfl (Bg (Bg (Bg Ea))) ?_
 rintro _ _ H ⟨_, rfl, ⟨_, rfl, ⟨_, rfl, ⟨rfl, rfl⟩⟩⟩⟩ s7
 simp only [zag] at s7
 refine Bp (v := ss vq6) rfl (Bp (v := si yq6) rfl (Bp (v := sb oq6) rfl (B4 (Aa (oq6) (fun h8 => ?_) fun h8 => ?_))))
 refine Ad (nF h8) (Ad (nF h8) (Pq (Es (nF h8) (Aa ((vq6.toList == (⟨#[77, 81, 84, 84]⟩ : ByteArray).toList)) (fun h9 => ?_) fun h9 => ?_))))
 refine Ad (nF h9) (Ad (nF h9) (Ad (nF h9) (Cn (Ad (nF h9) (Pt (by omega) (by omega) (Ad (nF h9) (Ej (Es (nF h9) (Aa ((decide ((((B.size : Nat) : Int) - 2) < yq6))) (fun h10 => ?_) fun h10 => ?_)))))))))
 have dh10 := of_decide_eq_true h10
 refine Aq h10 (Bf (cs := En) rfl (B9 (cs' := En) s7 Ct (Ag rfl) rfl (B8 rfl) rfl fun H s11 => Ar s11 (.here) rfl (Aj (B7 s11 ⟨_, rfl, rfl⟩ (D2 (.nl (D2 (.nl (Hv (.nl (.sc (.sc (.nl (.nl (.nl .nil))))))))))) (D3 ⟨Be, (D3 ⟨Be, (Hw ⟨Be, (Ft ⟨Be, ⟨Be, ⟨Be, trivial⟩⟩⟩)⟩)⟩)⟩)) ?_)))
 have e : A1 B = (⟨0, false, 0, false, 0, ⟨#[]⟩, ⟨#[]⟩, ⟨#[]⟩, 0, false, 0, false, ⟨#[]⟩, ⟨#[]⟩, 0, false, false, ⟨#[]⟩, false, ⟨#[]⟩, 0, false, [], [], []⟩ : PacketV) := by
  unfold A1 H6 Hu Ht Ei Hs Gj; simp only [h8, h9, h10, q6, if_true, if_false, or_true, or_false, false_or, true_or, zaa, reduceIte, mqtt, Dy]; (rfl)
 rw [e]
 rfl
 have dh10 := of_decide_eq_false h10
 refine Av h10 ?_
 have w12 := D4 B yq6
 refine Gw (by omega) (by omega) fun _ => Fh (c := su (A6 B yq6)) rfl (Le (by omega) (by omega) (gf8 (A7 s7 (.here) rfl rfl fun H s13 => Bx (by omega) (by omega) ?_)))
 have w14 := D4 B (yq6 + 1)
 refine Gw (by omega) (by omega) fun _ => Fh (c := su (A6 B (yq6 + 1))) rfl (Le (by omega) (by omega) (Gv rfl (Ej (gf9 (A7 s13 (.here) rfl rfl fun H s15 => Gv rfl (Ej (Qw (A7 s15 (.here) rfl rfl fun H s16 => T6 8 rfl (by decide) (Gv rfl (V6 (A7 s16 (.here) rfl rfl fun H s17 => Gv rfl (Ej (Aa5 (A7 s17 (.here) rfl rfl fun H s18 => Gv rfl (Ej (Ku (A7 s18 (.here) rfl rfl fun H s19 => Gv rfl (Ej (Pa (A7 s19 (.here) rfl rfl fun H s20 => Bx (by omega) (by omega) ?_))))))))))))))))))))
 obtain ⟨wq21, yq21, oq21, q21⟩ : ∃ w y o, Bo B (yq6 + 2) = (w, y, o) := ⟨_, _, _, rfl⟩
 have bq21 := Gg q21
 refine Eg s20 rfl (.cons .ro (.cons .sc .nil)) (by have h := Qs (n + 4) (by omega) B (yq6 + 2) (by omega) (by omega); rw [q21] at h; exact h) rfl (Bg (Bg (Bg Ea))) ?_
 rintro _ _ H ⟨_, rfl, ⟨_, rfl, ⟨_, rfl, ⟨rfl, rfl⟩⟩⟩⟩ s22
 simp only [zag] at s22
 refine Bp (v := si wq21) rfl (Bp (v := si yq21) rfl (Bp (v := sb oq21) rfl (V3 (A7 s22 (.here) rfl rfl fun H s23 => ?_))))
 obtain ⟨vq24, yq24, oq24, q24⟩ : ∃ w y o, B0 B yq21 = (w, y, o) := ⟨_, _, _, rfl⟩
 have bq24 := G0 q24
 refine Eg s23 rfl (.cons .ro (.cons .sc .nil)) (by have h := Lp n (by omega) B yq21 (by omega) (by omega); rw [q24] at h; exact h) rfl (Bg (Bg (Bg Ea))) ?_
 rintro _ _ H ⟨_, rfl, ⟨_, rfl, ⟨_, rfl, ⟨rfl, rfl⟩⟩⟩⟩ s25
 simp only [zag] at s25
 refine Bp (v := ss vq24) rfl (Bp (v := si yq24) rfl (Bp (v := sb oq24) rfl (gf7 (A7 s25 (.here) rfl rfl fun H s26 => B4 (Aa (oq21) (fun h27 => ?_) fun h27 => ?_)))))
 refine Ad (nF h27) (Ad (nF h27) (B4 (Es (nF h27) (Aa (oq24) (fun h28 => ?_) fun h28 => ?_))))
 refine Av (nF h28) (Qw (Al (c := .sc (.bool (decide (0 < (bits .and .i64 (A6 B (yq6 + 1)) 4))))) s26 (.here) rfl (De (Aa ((decide (0 < (bits .and .i64 (A6 B (yq6 + 1)) 4)))) (fun h29 => ?_) fun h29 => ?_))))
 have dh29 := of_decide_eq_true h29
 refine Aq h29 ?_
 obtain ⟨vq30, yq30, oq30, q30⟩ : ∃ w y o, B0 B yq24 = (w, y, o) := ⟨_, _, _, rfl⟩
 have bq30 := G0 q30
 refine Eg s26 rfl (.cons .ro (.cons .sc .nil)) (by have h := Lp n (by omega) B yq24 (by omega) (by omega); rw [q30] at h; exact h) rfl (Bg (Bg (Bg Ea))) ?_
 rintro _ _ H ⟨_, rfl, ⟨_, rfl, ⟨_, rfl, ⟨rfl, rfl⟩⟩⟩⟩ s31
 simp only [zag] at s31
 refine Bp (v := ss vq30) rfl (Bp (v := si yq30) rfl (Bp (v := sb oq30) rfl ?_))
 obtain ⟨vq32, yq32, oq32, q32⟩ : ∃ w y o, Bi B yq30 = (w, y, o) := ⟨_, _, _, rfl⟩
 have bq32 := Fu q32
 refine Eg s31 rfl (.cons .ro (.cons .sc .nil)) (by have h := Qr (n + 3) (by omega) B yq30 (by omega) (by omega); rw [q32] at h; exact h) rfl (Kh (ty := 22) rfl (C2 vq32) (Bg (Bg Ea))) ?_
 rintro _ _ H ⟨x33, _, _, lx33, rfl, rfl, ⟨_, rfl, ⟨_, rfl, ⟨rfl, rfl⟩⟩⟩⟩ s34
 simp only [zag, zau] at s34
 refine Bp (v := x33) rfl (Bp (v := si yq32) rfl (Bp (v := sb oq32) rfl (B4 (Aa (oq30) (fun h35 => ?_) fun h35 => ?_))))
 refine Ad (nF h35) (Ad (nF h35) (B4 (Es (nF h35) (Aa (oq32) (fun h36 => ?_) fun h36 => ?_))))
 refine Av (nF h36) (V4 (A7 s34 Ct rfl rfl fun H s37 => V5 (A7 s37 (.here) lx33 rfl fun H s38 => Pa (Al (c := .sc (.bool (decide (0 < (bits .and .i64 (A6 B (yq6 + 1)) 128))))) s38 (.here) rfl (De (Aa ((decide (0 < (bits .and .i64 (A6 B (yq6 + 1)) 128)))) (fun h39 => ?_) fun h39 => ?_))))))
 have dh39 := of_decide_eq_true h39
 refine Aq h39 ?_
 obtain ⟨vq40, yq40, oq40, q40⟩ : ∃ w y o, B0 B yq32 = (w, y, o) := ⟨_, _, _, rfl⟩
 have bq40 := G0 q40
 refine Eg s38 rfl (.cons .ro (.cons .sc .nil)) (by have h := Lp n (by omega) B yq32 (by omega) (by omega); rw [q40] at h; exact h) rfl (Bg (Bg (Bg Ea))) ?_
 rintro _ _ H ⟨_, rfl, ⟨_, rfl, ⟨_, rfl, ⟨rfl, rfl⟩⟩⟩⟩ s41
 simp only [zag] at s41
 refine Bp (v := ss vq40) rfl (Bp (v := si yq40) rfl (Bp (v := sb oq40) rfl (B4 (Aa (oq40) (fun h42 => ?_) fun h42 => ?_))))
 refine Av (nF h42) (Pu (A7 s41 (.here) rfl rfl fun H s43 => Ku (Al (c := .sc (.bool (decide (0 < (bits .and .i64 (A6 B (yq6 + 1)) 64))))) s43 (.here) rfl (De (Aa ((decide (0 < (bits .and .i64 (A6 B (yq6 + 1)) 64)))) (fun h44 => ?_) fun h44 => ?_)))))
 have dh44 := of_decide_eq_true h44
 refine Aq h44 ?_
 obtain ⟨vq45, yq45, oq45, q45⟩ : ∃ w y o, Bi B yq40 = (w, y, o) := ⟨_, _, _, rfl⟩
 have bq45 := Fu q45
 refine Eg s43 rfl (.cons .ro (.cons .sc .nil)) (by have h := Qr (n + 3) (by omega) B yq40 (by omega) (by omega); rw [q45] at h; exact h) rfl (Kh (ty := 22) rfl (C2 vq45) (Bg (Bg Ea))) ?_
 rintro _ _ H ⟨x46, _, _, lx46, rfl, rfl, ⟨_, rfl, ⟨_, rfl, ⟨rfl, rfl⟩⟩⟩⟩ s47
 simp only [zag, zau] at s47
 refine Bp (v := x46) rfl (Bp (v := si yq45) rfl (Bp (v := sb oq45) rfl (B4 (Aa (oq45) (fun h48 => ?_) fun h48 => ?_))))
 refine Av (nF h48) (Nd (A7 s47 Ct lx46 rfl fun H s49 => Ar s49 (.here) rfl (B9 (cs' := [si 1, bF, i0, bF, i0, sE, .nl, ss vq24, si (A6 B yq6), .sc (.bool (decide (0 < (bits .and .i64 (A6 B (yq6 + 1)) 2)))), si wq21, .sc (.bool (decide (0 < (bits .and .i64 (A6 B (yq6 + 1)) 4)))), ss vq30, x33, si (bits .and .i64 ((A6 B (yq6 + 1)) / 8) 3), .sc (.bool (decide (0 < (bits .and .i64 (A6 B (yq6 + 1)) 32)))), .sc (.bool (decide (0 < (bits .and .i64 (A6 B (yq6 + 1)) 128)))), ss vq40, .sc (.bool (decide (0 < (bits .and .i64 (A6 B (yq6 + 1)) 64)))), x46, i0, bF, .nl, .nl, .nl]) s49 Nj (Ag (Ae rfl (Ae rfl (Ae rfl (Ae rfl (Ae rfl (Ae rfl (Ae rfl (Ae rfl (Ae rfl (Ae rfl (Ae rfl (Ae rfl (Ae rfl (Ae lx33 (Ae rfl (Ae rfl (Ae rfl (Ae rfl (Ae rfl (Ae lx46 rfl))))))))))))))))))))) rfl (B8 rfl) rfl fun H s50 => Ar s50 (.here) rfl (Aj (B7 s50 ⟨_, rfl, rfl⟩ (D2 (.nl (D2 (.own Nj (Hv (.own Df (.sc (.sc (.nl (.nl (.nl .nil))))))))))) (D3 ⟨Be, (D3 ⟨(B5 (C2 vq32) (by decide)), (Hw ⟨(B5 (C2 vq45) (by decide)), (Ft ⟨Be, ⟨Be, ⟨Be, trivial⟩⟩⟩)⟩)⟩)⟩)) ?_))))
 have e : A1 B = (⟨1, false, 0, false, 0, ⟨#[]⟩, ⟨#[]⟩, vq24, (A6 B yq6), (decide (0 < (bits .and .i64 (A6 B (yq6 + 1)) 2))), wq21, (decide (0 < (bits .and .i64 (A6 B (yq6 + 1)) 4))), vq30, vq32, (bits .and .i64 ((A6 B (yq6 + 1)) / 8) 3), (decide (0 < (bits .and .i64 (A6 B (yq6 + 1)) 32))), (decide (0 < (bits .and .i64 (A6 B (yq6 + 1)) 128))), vq40, (decide (0 < (bits .and .i64 (A6 B (yq6 + 1)) 64))), vq45, 0, false, [], [], []⟩ : PacketV) := by
  unfold A1 H6 Hu Ht Ei Hs Gj; simp only [h8, h9, h10, h27, h28, h29, h35, h36, h39, h42, h44, h48, q6, q21, q24, q30, q32, q40, q45, if_true, if_false, or_true, or_false, false_or, true_or, zaa, reduceIte, mqtt, Dy]; (rfl)
 rw [e]
 rfl
 refine Aq (nT h48) (Bf (cs := En) rfl (B9 (cs' := En) s47 Nj (Ag rfl) rfl (B8 rfl) rfl fun H s51 => Ar s51 (.here) rfl (Aj (B7 s51 ⟨_, rfl, rfl⟩ (D2 (.nl (D2 (.nl (Hv (.nl (.sc (.sc (.nl (.nl (.nl .nil))))))))))) (D3 ⟨Be, (D3 ⟨Be, (Hw ⟨Be, (Ft ⟨Be, ⟨Be, ⟨Be, trivial⟩⟩⟩)⟩)⟩)⟩)) ?_)))
 have e : A1 B = (⟨0, false, 0, false, 0, ⟨#[]⟩, ⟨#[]⟩, ⟨#[]⟩, 0, false, 0, false, ⟨#[]⟩, ⟨#[]⟩, 0, false, false, ⟨#[]⟩, false, ⟨#[]⟩, 0, false, [], [], []⟩ : PacketV) := by
  unfold A1 H6 Hu Ht Ei Hs Gj; simp only [h8, h9, h10, h27, h28, h29, h35, h36, h39, h42, h44, h48, q6, q21, q24, q30, q32, q40, q45, if_true, if_false, or_true, or_false, false_or, true_or, zaa, reduceIte, mqtt, Dy]; (rfl)
 rw [e]
 rfl
 have dh44 := of_decide_eq_false h44
 refine Av h44 (Ar s43 (.here) rfl (B9 (cs' := [si 1, bF, i0, bF, i0, sE, .nl, ss vq24, si (A6 B yq6), .sc (.bool (decide (0 < (bits .and .i64 (A6 B (yq6 + 1)) 2)))), si wq21, .sc (.bool (decide (0 < (bits .and .i64 (A6 B (yq6 + 1)) 4)))), ss vq30, x33, si (bits .and .i64 ((A6 B (yq6 + 1)) / 8) 3), .sc (.bool (decide (0 < (bits .and .i64 (A6 B (yq6 + 1)) 32)))), .sc (.bool (decide (0 < (bits .and .i64 (A6 B (yq6 + 1)) 128)))), ss vq40, .sc (.bool (decide (0 < (bits .and .i64 (A6 B (yq6 + 1)) 64)))), .nl, i0, bF, .nl, .nl, .nl]) s43 Df (Ag (Ae rfl (Ae rfl (Ae rfl (Ae rfl (Ae rfl (Ae rfl (Ae rfl (Ae rfl (Ae rfl (Ae rfl (Ae rfl (Ae rfl (Ae rfl (Ae lx33 rfl))))))))))))))) rfl (B8 rfl) rfl fun H s52 => Ar s52 (.here) rfl (Aj (B7 s52 ⟨_, rfl, rfl⟩ (D2 (.nl (D2 (.own Df (Hv (.nl (.sc (.sc (.nl (.nl (.nl .nil))))))))))) (D3 ⟨Be, (D3 ⟨(B5 (C2 vq32) (by decide)), (Hw ⟨Be, (Ft ⟨Be, ⟨Be, ⟨Be, trivial⟩⟩⟩)⟩)⟩)⟩)) ?_)))
 have e : A1 B = (⟨1, false, 0, false, 0, ⟨#[]⟩, ⟨#[]⟩, vq24, (A6 B yq6), (decide (0 < (bits .and .i64 (A6 B (yq6 + 1)) 2))), wq21, (decide (0 < (bits .and .i64 (A6 B (yq6 + 1)) 4))), vq30, vq32, (bits .and .i64 ((A6 B (yq6 + 1)) / 8) 3), (decide (0 < (bits .and .i64 (A6 B (yq6 + 1)) 32))), (decide (0 < (bits .and .i64 (A6 B (yq6 + 1)) 128))), vq40, (decide (0 < (bits .and .i64 (A6 B (yq6 + 1)) 64))), ⟨#[]⟩, 0, false, [], [], []⟩ : PacketV) := by
  unfold A1 H6 Hu Ht Ei Hs Gj; simp only [h8, h9, h10, h27, h28, h29, h35, h36, h39, h42, h44, q6, q21, q24, q30, q32, q40, if_true, if_false, or_true, or_false, false_or, true_or, zaa, reduceIte, mqtt, Dy]; (rfl)
 rw [e]
 rfl
 refine Aq (nT h42) (Bf (cs := En) rfl (B9 (cs' := En) s41 Df (Ag rfl) rfl (B8 rfl) rfl fun H s53 => Ar s53 (.here) rfl (Aj (B7 s53 ⟨_, rfl, rfl⟩ (D2 (.nl (D2 (.nl (Hv (.nl (.sc (.sc (.nl (.nl (.nl .nil))))))))))) (D3 ⟨Be, (D3 ⟨Be, (Hw ⟨Be, (Ft ⟨Be, ⟨Be, ⟨Be, trivial⟩⟩⟩)⟩)⟩)⟩)) ?_)))
 have e : A1 B = (⟨0, false, 0, false, 0, ⟨#[]⟩, ⟨#[]⟩, ⟨#[]⟩, 0, false, 0, false, ⟨#[]⟩, ⟨#[]⟩, 0, false, false, ⟨#[]⟩, false, ⟨#[]⟩, 0, false, [], [], []⟩ : PacketV) := by
  unfold A1 H6 Hu Ht Ei Hs Gj; simp only [h8, h9, h10, h27, h28, h29, h35, h36, h39, h42, q6, q21, q24, q30, q32, q40, if_true, if_false, or_true, or_false, false_or, true_or, zaa, reduceIte, mqtt, Dy]; (rfl)
 rw [e]
 rfl
 have dh39 := of_decide_eq_false h39
 refine Av h39 (Ku (Al (c := .sc (.bool (decide (0 < (bits .and .i64 (A6 B (yq6 + 1)) 64))))) s38 (.here) rfl (De (Aa ((decide (0 < (bits .and .i64 (A6 B (yq6 + 1)) 64)))) (fun h54 => ?_) fun h54 => ?_))))
 have dh54 := of_decide_eq_true h54
 refine Aq h54 ?_
 obtain ⟨vq55, yq55, oq55, q55⟩ : ∃ w y o, Bi B yq32 = (w, y, o) := ⟨_, _, _, rfl⟩
 have bq55 := Fu q55
 refine Eg s38 rfl (.cons .ro (.cons .sc .nil)) (by have h := Qr (n + 3) (by omega) B yq32 (by omega) (by omega); rw [q55] at h; exact h) rfl (Kh (ty := 22) rfl (C2 vq55) (Bg (Bg Ea))) ?_
 rintro _ _ H ⟨x56, _, _, lx56, rfl, rfl, ⟨_, rfl, ⟨_, rfl, ⟨rfl, rfl⟩⟩⟩⟩ s57
 simp only [zag, zau] at s57
 refine Bp (v := x56) rfl (Bp (v := si yq55) rfl (Bp (v := sb oq55) rfl (B4 (Aa (oq55) (fun h58 => ?_) fun h58 => ?_))))
 refine Av (nF h58) (Nd (A7 s57 Ct lx56 rfl fun H s59 => Ar s59 (.here) rfl (B9 (cs' := [si 1, bF, i0, bF, i0, sE, .nl, ss vq24, si (A6 B yq6), .sc (.bool (decide (0 < (bits .and .i64 (A6 B (yq6 + 1)) 2)))), si wq21, .sc (.bool (decide (0 < (bits .and .i64 (A6 B (yq6 + 1)) 4)))), ss vq30, x33, si (bits .and .i64 ((A6 B (yq6 + 1)) / 8) 3), .sc (.bool (decide (0 < (bits .and .i64 (A6 B (yq6 + 1)) 32)))), .sc (.bool (decide (0 < (bits .and .i64 (A6 B (yq6 + 1)) 128)))), sE, .sc (.bool (decide (0 < (bits .and .i64 (A6 B (yq6 + 1)) 64)))), x56, i0, bF, .nl, .nl, .nl]) s59 Nj (Ag (Ae rfl (Ae rfl (Ae rfl (Ae rfl (Ae rfl (Ae rfl (Ae rfl (Ae rfl (Ae rfl (Ae rfl (Ae rfl (Ae rfl (Ae rfl (Ae lx33 (Ae rfl (Ae rfl (Ae rfl (Ae rfl (Ae rfl (Ae lx56 rfl))))))))))))))))))))) rfl (B8 rfl) rfl fun H s60 => Ar s60 (.here) rfl (Aj (B7 s60 ⟨_, rfl, rfl⟩ (D2 (.nl (D2 (.own Nj (Hv (.own Df (.sc (.sc (.nl (.nl (.nl .nil))))))))))) (D3 ⟨Be, (D3 ⟨(B5 (C2 vq32) (by decide)), (Hw ⟨(B5 (C2 vq55) (by decide)), (Ft ⟨Be, ⟨Be, ⟨Be, trivial⟩⟩⟩)⟩)⟩)⟩)) ?_))))
 have e : A1 B = (⟨1, false, 0, false, 0, ⟨#[]⟩, ⟨#[]⟩, vq24, (A6 B yq6), (decide (0 < (bits .and .i64 (A6 B (yq6 + 1)) 2))), wq21, (decide (0 < (bits .and .i64 (A6 B (yq6 + 1)) 4))), vq30, vq32, (bits .and .i64 ((A6 B (yq6 + 1)) / 8) 3), (decide (0 < (bits .and .i64 (A6 B (yq6 + 1)) 32))), (decide (0 < (bits .and .i64 (A6 B (yq6 + 1)) 128))), ⟨#[]⟩, (decide (0 < (bits .and .i64 (A6 B (yq6 + 1)) 64))), vq55, 0, false, [], [], []⟩ : PacketV) := by
  unfold A1 H6 Hu Ht Ei Hs Gj; simp only [h8, h9, h10, h27, h28, h29, h35, h36, h39, h54, h58, q6, q21, q24, q30, q32, q55, if_true, if_false, or_true, or_false, false_or, true_or, zaa, reduceIte, mqtt, Dy]; (rfl)
 rw [e]
 rfl
 refine Aq (nT h58) (Bf (cs := En) rfl (B9 (cs' := En) s57 Nj (Ag rfl) rfl (B8 rfl) rfl fun H s61 => Ar s61 (.here) rfl (Aj (B7 s61 ⟨_, rfl, rfl⟩ (D2 (.nl (D2 (.nl (Hv (.nl (.sc (.sc (.nl (.nl (.nl .nil))))))))))) (D3 ⟨Be, (D3 ⟨Be, (Hw ⟨Be, (Ft ⟨Be, ⟨Be, ⟨Be, trivial⟩⟩⟩)⟩)⟩)⟩)) ?_)))
 have e : A1 B = (⟨0, false, 0, false, 0, ⟨#[]⟩, ⟨#[]⟩, ⟨#[]⟩, 0, false, 0, false, ⟨#[]⟩, ⟨#[]⟩, 0, false, false, ⟨#[]⟩, false, ⟨#[]⟩, 0, false, [], [], []⟩ : PacketV) := by
  unfold A1 H6 Hu Ht Ei Hs Gj; simp only [h8, h9, h10, h27, h28, h29, h35, h36, h39, h54, h58, q6, q21, q24, q30, q32, q55, if_true, if_false, or_true, or_false, false_or, true_or, zaa, reduceIte, mqtt, Dy]; (rfl)
 rw [e]
 rfl
 have dh54 := of_decide_eq_false h54
 refine Av h54 (Ar s38 (.here) rfl (B9 (cs' := [si 1, bF, i0, bF, i0, sE, .nl, ss vq24, si (A6 B yq6), .sc (.bool (decide (0 < (bits .and .i64 (A6 B (yq6 + 1)) 2)))), si wq21, .sc (.bool (decide (0 < (bits .and .i64 (A6 B (yq6 + 1)) 4)))), ss vq30, x33, si (bits .and .i64 ((A6 B (yq6 + 1)) / 8) 3), .sc (.bool (decide (0 < (bits .and .i64 (A6 B (yq6 + 1)) 32)))), .sc (.bool (decide (0 < (bits .and .i64 (A6 B (yq6 + 1)) 128)))), sE, .sc (.bool (decide (0 < (bits .and .i64 (A6 B (yq6 + 1)) 64)))), .nl, i0, bF, .nl, .nl, .nl]) s38 Df (Ag (Ae rfl (Ae rfl (Ae rfl (Ae rfl (Ae rfl (Ae rfl (Ae rfl (Ae rfl (Ae rfl (Ae rfl (Ae rfl (Ae rfl (Ae rfl (Ae lx33 rfl))))))))))))))) rfl (B8 rfl) rfl fun H s62 => Ar s62 (.here) rfl (Aj (B7 s62 ⟨_, rfl, rfl⟩ (D2 (.nl (D2 (.own Df (Hv (.nl (.sc (.sc (.nl (.nl (.nl .nil))))))))))) (D3 ⟨Be, (D3 ⟨(B5 (C2 vq32) (by decide)), (Hw ⟨Be, (Ft ⟨Be, ⟨Be, ⟨Be, trivial⟩⟩⟩)⟩)⟩)⟩)) ?_)))
 have e : A1 B = (⟨1, false, 0, false, 0, ⟨#[]⟩, ⟨#[]⟩, vq24, (A6 B yq6), (decide (0 < (bits .and .i64 (A6 B (yq6 + 1)) 2))), wq21, (decide (0 < (bits .and .i64 (A6 B (yq6 + 1)) 4))), vq30, vq32, (bits .and .i64 ((A6 B (yq6 + 1)) / 8) 3), (decide (0 < (bits .and .i64 (A6 B (yq6 + 1)) 32))), (decide (0 < (bits .and .i64 (A6 B (yq6 + 1)) 128))), ⟨#[]⟩, (decide (0 < (bits .and .i64 (A6 B (yq6 + 1)) 64))), ⟨#[]⟩, 0, false, [], [], []⟩ : PacketV) := by
  unfold A1 H6 Hu Ht Ei Hs Gj; simp only [h8, h9, h10, h27, h28, h29, h35, h36, h39, h54, q6, q21, q24, q30, q32, if_true, if_false, or_true, or_false, false_or, true_or, zaa, reduceIte, mqtt, Dy]; (rfl)
 rw [e]
 rfl
 refine Aq (nT h36) (Bf (cs := En) rfl (B9 (cs' := En) s34 Df (Ag rfl) rfl (B8 rfl) rfl fun H s63 => Ar s63 (.here) rfl (Aj (B7 s63 ⟨_, rfl, rfl⟩ (D2 (.nl (D2 (.nl (Hv (.nl (.sc (.sc (.nl (.nl (.nl .nil))))))))))) (D3 ⟨Be, (D3 ⟨Be, (Hw ⟨Be, (Ft ⟨Be, ⟨Be, ⟨Be, trivial⟩⟩⟩)⟩)⟩)⟩)) ?_)))
 have e : A1 B = (⟨0, false, 0, false, 0, ⟨#[]⟩, ⟨#[]⟩, ⟨#[]⟩, 0, false, 0, false, ⟨#[]⟩, ⟨#[]⟩, 0, false, false, ⟨#[]⟩, false, ⟨#[]⟩, 0, false, [], [], []⟩ : PacketV) := by
  unfold A1 H6 Hu Ht Ei Hs Gj; simp only [h8, h9, h10, h27, h28, h29, h35, h36, q6, q21, q24, q30, q32, if_true, if_false, or_true, or_false, false_or, true_or, zaa, reduceIte, mqtt, Dy]; (rfl)
 rw [e]
 rfl
 refine Ac (nT h35) (Ac (nT h35) (Ev (nT h35) (Aq rfl (Bf (cs := En) rfl (B9 (cs' := En) s34 Df (Ag rfl) rfl (B8 rfl) rfl fun H s64 => Ar s64 (.here) rfl (Aj (B7 s64 ⟨_, rfl, rfl⟩ (D2 (.nl (D2 (.nl (Hv (.nl (.sc (.sc (.nl (.nl (.nl .nil))))))))))) (D3 ⟨Be, (D3 ⟨Be, (Hw ⟨Be, (Ft ⟨Be, ⟨Be, ⟨Be, trivial⟩⟩⟩)⟩)⟩)⟩)) ?_))))))
 have e : A1 B = (⟨0, false, 0, false, 0, ⟨#[]⟩, ⟨#[]⟩, ⟨#[]⟩, 0, false, 0, false, ⟨#[]⟩, ⟨#[]⟩, 0, false, false, ⟨#[]⟩, false, ⟨#[]⟩, 0, false, [], [], []⟩ : PacketV) := by
  unfold A1 H6 Hu Ht Ei Hs Gj; simp only [h8, h9, h10, h27, h28, h29, h35, q6, q21, q24, q30, q32, if_true, if_false, or_true, or_false, false_or, true_or, zaa, reduceIte, mqtt, Dy]; (rfl)
 rw [e]
 rfl
 have dh29 := of_decide_eq_false h29
 refine Av h29 (Pa (Al (c := .sc (.bool (decide (0 < (bits .and .i64 (A6 B (yq6 + 1)) 128))))) s26 (.here) rfl (De (Aa ((decide (0 < (bits .and .i64 (A6 B (yq6 + 1)) 128)))) (fun h65 => ?_) fun h65 => ?_))))
 have dh65 := of_decide_eq_true h65
 refine Aq h65 ?_
 obtain ⟨vq66, yq66, oq66, q66⟩ : ∃ w y o, B0 B yq24 = (w, y, o) := ⟨_, _, _, rfl⟩
 have bq66 := G0 q66
 refine Eg s26 rfl (.cons .ro (.cons .sc .nil)) (by have h := Lp n (by omega) B yq24 (by omega) (by omega); rw [q66] at h; exact h) rfl (Bg (Bg (Bg Ea))) ?_
 rintro _ _ H ⟨_, rfl, ⟨_, rfl, ⟨_, rfl, ⟨rfl, rfl⟩⟩⟩⟩ s67
 simp only [zag] at s67
 refine Bp (v := ss vq66) rfl (Bp (v := si yq66) rfl (Bp (v := sb oq66) rfl (B4 (Aa (oq66) (fun h68 => ?_) fun h68 => ?_))))
 refine Av (nF h68) (Pu (A7 s67 (.here) rfl rfl fun H s69 => Ku (Al (c := .sc (.bool (decide (0 < (bits .and .i64 (A6 B (yq6 + 1)) 64))))) s69 (.here) rfl (De (Aa ((decide (0 < (bits .and .i64 (A6 B (yq6 + 1)) 64)))) (fun h70 => ?_) fun h70 => ?_)))))
 have dh70 := of_decide_eq_true h70
 refine Aq h70 ?_
 obtain ⟨vq71, yq71, oq71, q71⟩ : ∃ w y o, Bi B yq66 = (w, y, o) := ⟨_, _, _, rfl⟩
 have bq71 := Fu q71
 refine Eg s69 rfl (.cons .ro (.cons .sc .nil)) (by have h := Qr (n + 3) (by omega) B yq66 (by omega) (by omega); rw [q71] at h; exact h) rfl (Kh (ty := 22) rfl (C2 vq71) (Bg (Bg Ea))) ?_
 rintro _ _ H ⟨x72, _, _, lx72, rfl, rfl, ⟨_, rfl, ⟨_, rfl, ⟨rfl, rfl⟩⟩⟩⟩ s73
 simp only [zag, zau] at s73
 refine Bp (v := x72) rfl (Bp (v := si yq71) rfl (Bp (v := sb oq71) rfl (B4 (Aa (oq71) (fun h74 => ?_) fun h74 => ?_))))
 refine Av (nF h74) (Nd (A7 s73 Ct lx72 rfl fun H s75 => Ar s75 (.here) rfl (B9 (cs' := [si 1, bF, i0, bF, i0, sE, .nl, ss vq24, si (A6 B yq6), .sc (.bool (decide (0 < (bits .and .i64 (A6 B (yq6 + 1)) 2)))), si wq21, .sc (.bool (decide (0 < (bits .and .i64 (A6 B (yq6 + 1)) 4)))), sE, .nl, si (bits .and .i64 ((A6 B (yq6 + 1)) / 8) 3), .sc (.bool (decide (0 < (bits .and .i64 (A6 B (yq6 + 1)) 32)))), .sc (.bool (decide (0 < (bits .and .i64 (A6 B (yq6 + 1)) 128)))), ss vq66, .sc (.bool (decide (0 < (bits .and .i64 (A6 B (yq6 + 1)) 64)))), x72, i0, bF, .nl, .nl, .nl]) s75 Df (Ag (Ae rfl (Ae rfl (Ae rfl (Ae rfl (Ae rfl (Ae rfl (Ae rfl (Ae rfl (Ae rfl (Ae rfl (Ae rfl (Ae rfl (Ae rfl (Ae rfl (Ae rfl (Ae rfl (Ae rfl (Ae rfl (Ae rfl (Ae lx72 rfl))))))))))))))))))))) rfl (B8 rfl) rfl fun H s76 => Ar s76 (.here) rfl (Aj (B7 s76 ⟨_, rfl, rfl⟩ (D2 (.nl (D2 (.nl (Hv (.own Df (.sc (.sc (.nl (.nl (.nl .nil))))))))))) (D3 ⟨Be, (D3 ⟨Be, (Hw ⟨(B5 (C2 vq71) (by decide)), (Ft ⟨Be, ⟨Be, ⟨Be, trivial⟩⟩⟩)⟩)⟩)⟩)) ?_))))
 have e : A1 B = (⟨1, false, 0, false, 0, ⟨#[]⟩, ⟨#[]⟩, vq24, (A6 B yq6), (decide (0 < (bits .and .i64 (A6 B (yq6 + 1)) 2))), wq21, (decide (0 < (bits .and .i64 (A6 B (yq6 + 1)) 4))), ⟨#[]⟩, ⟨#[]⟩, (bits .and .i64 ((A6 B (yq6 + 1)) / 8) 3), (decide (0 < (bits .and .i64 (A6 B (yq6 + 1)) 32))), (decide (0 < (bits .and .i64 (A6 B (yq6 + 1)) 128))), vq66, (decide (0 < (bits .and .i64 (A6 B (yq6 + 1)) 64))), vq71, 0, false, [], [], []⟩ : PacketV) := by
  unfold A1 H6 Hu Ht Ei Hs Gj; simp only [h8, h9, h10, h27, h28, h29, h65, h68, h70, h74, q6, q21, q24, q66, q71, if_true, if_false, or_true, or_false, false_or, true_or, zaa, reduceIte, mqtt, Dy]; (rfl)
 rw [e]
 rfl
 refine Aq (nT h74) (Bf (cs := En) rfl (B9 (cs' := En) s73 Df (Ag rfl) rfl (B8 rfl) rfl fun H s77 => Ar s77 (.here) rfl (Aj (B7 s77 ⟨_, rfl, rfl⟩ (D2 (.nl (D2 (.nl (Hv (.nl (.sc (.sc (.nl (.nl (.nl .nil))))))))))) (D3 ⟨Be, (D3 ⟨Be, (Hw ⟨Be, (Ft ⟨Be, ⟨Be, ⟨Be, trivial⟩⟩⟩)⟩)⟩)⟩)) ?_)))
 have e : A1 B = (⟨0, false, 0, false, 0, ⟨#[]⟩, ⟨#[]⟩, ⟨#[]⟩, 0, false, 0, false, ⟨#[]⟩, ⟨#[]⟩, 0, false, false, ⟨#[]⟩, false, ⟨#[]⟩, 0, false, [], [], []⟩ : PacketV) := by
  unfold A1 H6 Hu Ht Ei Hs Gj; simp only [h8, h9, h10, h27, h28, h29, h65, h68, h70, h74, q6, q21, q24, q66, q71, if_true, if_false, or_true, or_false, false_or, true_or, zaa, reduceIte, mqtt, Dy]; (rfl)
 rw [e]
 rfl
 have dh70 := of_decide_eq_false h70
 refine Av h70 (Ar s69 (.here) rfl (B9 (cs' := [si 1, bF, i0, bF, i0, sE, .nl, ss vq24, si (A6 B yq6), .sc (.bool (decide (0 < (bits .and .i64 (A6 B (yq6 + 1)) 2)))), si wq21, .sc (.bool (decide (0 < (bits .and .i64 (A6 B (yq6 + 1)) 4)))), sE, .nl, si (bits .and .i64 ((A6 B (yq6 + 1)) / 8) 3), .sc (.bool (decide (0 < (bits .and .i64 (A6 B (yq6 + 1)) 32)))), .sc (.bool (decide (0 < (bits .and .i64 (A6 B (yq6 + 1)) 128)))), ss vq66, .sc (.bool (decide (0 < (bits .and .i64 (A6 B (yq6 + 1)) 64)))), .nl, i0, bF, .nl, .nl, .nl]) s69 Ct (Ag rfl) rfl (B8 rfl) rfl fun H s78 => Ar s78 (.here) rfl (Aj (B7 s78 ⟨_, rfl, rfl⟩ (D2 (.nl (D2 (.nl (Hv (.nl (.sc (.sc (.nl (.nl (.nl .nil))))))))))) (D3 ⟨Be, (D3 ⟨Be, (Hw ⟨Be, (Ft ⟨Be, ⟨Be, ⟨Be, trivial⟩⟩⟩)⟩)⟩)⟩)) ?_)))
 have e : A1 B = (⟨1, false, 0, false, 0, ⟨#[]⟩, ⟨#[]⟩, vq24, (A6 B yq6), (decide (0 < (bits .and .i64 (A6 B (yq6 + 1)) 2))), wq21, (decide (0 < (bits .and .i64 (A6 B (yq6 + 1)) 4))), ⟨#[]⟩, ⟨#[]⟩, (bits .and .i64 ((A6 B (yq6 + 1)) / 8) 3), (decide (0 < (bits .and .i64 (A6 B (yq6 + 1)) 32))), (decide (0 < (bits .and .i64 (A6 B (yq6 + 1)) 128))), vq66, (decide (0 < (bits .and .i64 (A6 B (yq6 + 1)) 64))), ⟨#[]⟩, 0, false, [], [], []⟩ : PacketV) := by
  unfold A1 H6 Hu Ht Ei Hs Gj; simp only [h8, h9, h10, h27, h28, h29, h65, h68, h70, q6, q21, q24, q66, if_true, if_false, or_true, or_false, false_or, true_or, zaa, reduceIte, mqtt, Dy]; (rfl)
 rw [e]
 rfl
 refine Aq (nT h68) (Bf (cs := En) rfl (B9 (cs' := En) s67 Ct (Ag rfl) rfl (B8 rfl) rfl fun H s79 => Ar s79 (.here) rfl (Aj (B7 s79 ⟨_, rfl, rfl⟩ (D2 (.nl (D2 (.nl (Hv (.nl (.sc (.sc (.nl (.nl (.nl .nil))))))))))) (D3 ⟨Be, (D3 ⟨Be, (Hw ⟨Be, (Ft ⟨Be, ⟨Be, ⟨Be, trivial⟩⟩⟩)⟩)⟩)⟩)) ?_)))
 have e : A1 B = (⟨0, false, 0, false, 0, ⟨#[]⟩, ⟨#[]⟩, ⟨#[]⟩, 0, false, 0, false, ⟨#[]⟩, ⟨#[]⟩, 0, false, false, ⟨#[]⟩, false, ⟨#[]⟩, 0, false, [], [], []⟩ : PacketV) := by
  unfold A1 H6 Hu Ht Ei Hs Gj; simp only [h8, h9, h10, h27, h28, h29, h65, h68, q6, q21, q24, q66, if_true, if_false, or_true, or_false, false_or, true_or, zaa, reduceIte, mqtt, Dy]; (rfl)
 rw [e]
 rfl
 have dh65 := of_decide_eq_false h65
 refine Av h65 (Ku (Al (c := .sc (.bool (decide (0 < (bits .and .i64 (A6 B (yq6 + 1)) 64))))) s26 (.here) rfl (De (Aa ((decide (0 < (bits .and .i64 (A6 B (yq6 + 1)) 64)))) (fun h80 => ?_) fun h80 => ?_))))
 have dh80 := of_decide_eq_true h80
 refine Aq h80 ?_
 obtain ⟨vq81, yq81, oq81, q81⟩ : ∃ w y o, Bi B yq24 = (w, y, o) := ⟨_, _, _, rfl⟩
 have bq81 := Fu q81
 refine Eg s26 rfl (.cons .ro (.cons .sc .nil)) (by have h := Qr (n + 3) (by omega) B yq24 (by omega) (by omega); rw [q81] at h; exact h) rfl (Kh (ty := 22) rfl (C2 vq81) (Bg (Bg Ea))) ?_
 rintro _ _ H ⟨x82, _, _, lx82, rfl, rfl, ⟨_, rfl, ⟨_, rfl, ⟨rfl, rfl⟩⟩⟩⟩ s83
 simp only [zag, zau] at s83
 refine Bp (v := x82) rfl (Bp (v := si yq81) rfl (Bp (v := sb oq81) rfl (B4 (Aa (oq81) (fun h84 => ?_) fun h84 => ?_))))
 refine Av (nF h84) (Nd (A7 s83 Ct lx82 rfl fun H s85 => Ar s85 (.here) rfl (B9 (cs' := [si 1, bF, i0, bF, i0, sE, .nl, ss vq24, si (A6 B yq6), .sc (.bool (decide (0 < (bits .and .i64 (A6 B (yq6 + 1)) 2)))), si wq21, .sc (.bool (decide (0 < (bits .and .i64 (A6 B (yq6 + 1)) 4)))), sE, .nl, si (bits .and .i64 ((A6 B (yq6 + 1)) / 8) 3), .sc (.bool (decide (0 < (bits .and .i64 (A6 B (yq6 + 1)) 32)))), .sc (.bool (decide (0 < (bits .and .i64 (A6 B (yq6 + 1)) 128)))), sE, .sc (.bool (decide (0 < (bits .and .i64 (A6 B (yq6 + 1)) 64)))), x82, i0, bF, .nl, .nl, .nl]) s85 Df (Ag (Ae rfl (Ae rfl (Ae rfl (Ae rfl (Ae rfl (Ae rfl (Ae rfl (Ae rfl (Ae rfl (Ae rfl (Ae rfl (Ae rfl (Ae rfl (Ae rfl (Ae rfl (Ae rfl (Ae rfl (Ae rfl (Ae rfl (Ae lx82 rfl))))))))))))))))))))) rfl (B8 rfl) rfl fun H s86 => Ar s86 (.here) rfl (Aj (B7 s86 ⟨_, rfl, rfl⟩ (D2 (.nl (D2 (.nl (Hv (.own Df (.sc (.sc (.nl (.nl (.nl .nil))))))))))) (D3 ⟨Be, (D3 ⟨Be, (Hw ⟨(B5 (C2 vq81) (by decide)), (Ft ⟨Be, ⟨Be, ⟨Be, trivial⟩⟩⟩)⟩)⟩)⟩)) ?_))))
 have e : A1 B = (⟨1, false, 0, false, 0, ⟨#[]⟩, ⟨#[]⟩, vq24, (A6 B yq6), (decide (0 < (bits .and .i64 (A6 B (yq6 + 1)) 2))), wq21, (decide (0 < (bits .and .i64 (A6 B (yq6 + 1)) 4))), ⟨#[]⟩, ⟨#[]⟩, (bits .and .i64 ((A6 B (yq6 + 1)) / 8) 3), (decide (0 < (bits .and .i64 (A6 B (yq6 + 1)) 32))), (decide (0 < (bits .and .i64 (A6 B (yq6 + 1)) 128))), ⟨#[]⟩, (decide (0 < (bits .and .i64 (A6 B (yq6 + 1)) 64))), vq81, 0, false, [], [], []⟩ : PacketV) := by
  unfold A1 H6 Hu Ht Ei Hs Gj; simp only [h8, h9, h10, h27, h28, h29, h65, h80, h84, q6, q21, q24, q81, if_true, if_false, or_true, or_false, false_or, true_or, zaa, reduceIte, mqtt, Dy]; (rfl)
 rw [e]
 rfl
 refine Aq (nT h84) (Bf (cs := En) rfl (B9 (cs' := En) s83 Df (Ag rfl) rfl (B8 rfl) rfl fun H s87 => Ar s87 (.here) rfl (Aj (B7 s87 ⟨_, rfl, rfl⟩ (D2 (.nl (D2 (.nl (Hv (.nl (.sc (.sc (.nl (.nl (.nl .nil))))))))))) (D3 ⟨Be, (D3 ⟨Be, (Hw ⟨Be, (Ft ⟨Be, ⟨Be, ⟨Be, trivial⟩⟩⟩)⟩)⟩)⟩)) ?_)))
 have e : A1 B = (⟨0, false, 0, false, 0, ⟨#[]⟩, ⟨#[]⟩, ⟨#[]⟩, 0, false, 0, false, ⟨#[]⟩, ⟨#[]⟩, 0, false, false, ⟨#[]⟩, false, ⟨#[]⟩, 0, false, [], [], []⟩ : PacketV) := by
  unfold A1 H6 Hu Ht Ei Hs Gj; simp only [h8, h9, h10, h27, h28, h29, h65, h80, h84, q6, q21, q24, q81, if_true, if_false, or_true, or_false, false_or, true_or, zaa, reduceIte, mqtt, Dy]; (rfl)
 rw [e]
 rfl
 have dh80 := of_decide_eq_false h80
 refine Av h80 (Ar s26 (.here) rfl (B9 (cs' := [si 1, bF, i0, bF, i0, sE, .nl, ss vq24, si (A6 B yq6), .sc (.bool (decide (0 < (bits .and .i64 (A6 B (yq6 + 1)) 2)))), si wq21, .sc (.bool (decide (0 < (bits .and .i64 (A6 B (yq6 + 1)) 4)))), sE, .nl, si (bits .and .i64 ((A6 B (yq6 + 1)) / 8) 3), .sc (.bool (decide (0 < (bits .and .i64 (A6 B (yq6 + 1)) 32)))), .sc (.bool (decide (0 < (bits .and .i64 (A6 B (yq6 + 1)) 128)))), sE, .sc (.bool (decide (0 < (bits .and .i64 (A6 B (yq6 + 1)) 64)))), .nl, i0, bF, .nl, .nl, .nl]) s26 Ct (Ag rfl) rfl (B8 rfl) rfl fun H s88 => Ar s88 (.here) rfl (Aj (B7 s88 ⟨_, rfl, rfl⟩ (D2 (.nl (D2 (.nl (Hv (.nl (.sc (.sc (.nl (.nl (.nl .nil))))))))))) (D3 ⟨Be, (D3 ⟨Be, (Hw ⟨Be, (Ft ⟨Be, ⟨Be, ⟨Be, trivial⟩⟩⟩)⟩)⟩)⟩)) ?_)))
 have e : A1 B = (⟨1, false, 0, false, 0, ⟨#[]⟩, ⟨#[]⟩, vq24, (A6 B yq6), (decide (0 < (bits .and .i64 (A6 B (yq6 + 1)) 2))), wq21, (decide (0 < (bits .and .i64 (A6 B (yq6 + 1)) 4))), ⟨#[]⟩, ⟨#[]⟩, (bits .and .i64 ((A6 B (yq6 + 1)) / 8) 3), (decide (0 < (bits .and .i64 (A6 B (yq6 + 1)) 32))), (decide (0 < (bits .and .i64 (A6 B (yq6 + 1)) 128))), ⟨#[]⟩, (decide (0 < (bits .and .i64 (A6 B (yq6 + 1)) 64))), ⟨#[]⟩, 0, false, [], [], []⟩ : PacketV) := by
  unfold A1 H6 Hu Ht Ei Hs Gj; simp only [h8, h9, h10, h27, h28, h29, h65, h80, q6, q21, q24, if_true, if_false, or_true, or_false, false_or, true_or, zaa, reduceIte, mqtt, Dy]; (rfl)
 rw [e]
 rfl
 refine Aq (nT h28) (Bf (cs := En) rfl (B9 (cs' := En) s26 Ct (Ag rfl) rfl (B8 rfl) rfl fun H s89 => Ar s89 (.here) rfl (Aj (B7 s89 ⟨_, rfl, rfl⟩ (D2 (.nl (D2 (.nl (Hv (.nl (.sc (.sc (.nl (.nl (.nl .nil))))))))))) (D3 ⟨Be, (D3 ⟨Be, (Hw ⟨Be, (Ft ⟨Be, ⟨Be, ⟨Be, trivial⟩⟩⟩)⟩)⟩)⟩)) ?_)))
 have e : A1 B = (⟨0, false, 0, false, 0, ⟨#[]⟩, ⟨#[]⟩, ⟨#[]⟩, 0, false, 0, false, ⟨#[]⟩, ⟨#[]⟩, 0, false, false, ⟨#[]⟩, false, ⟨#[]⟩, 0, false, [], [], []⟩ : PacketV) := by
  unfold A1 H6 Hu Ht Ei Hs Gj; simp only [h8, h9, h10, h27, h28, q6, q21, q24, if_true, if_false, or_true, or_false, false_or, true_or, zaa, reduceIte, mqtt, Dy]; (rfl)
 rw [e]
 rfl
 refine Ac (nT h27) (Ac (nT h27) (Ev (nT h27) (Aq rfl (Bf (cs := En) rfl (B9 (cs' := En) s26 Ct (Ag rfl) rfl (B8 rfl) rfl fun H s90 => Ar s90 (.here) rfl (Aj (B7 s90 ⟨_, rfl, rfl⟩ (D2 (.nl (D2 (.nl (Hv (.nl (.sc (.sc (.nl (.nl (.nl .nil))))))))))) (D3 ⟨Be, (D3 ⟨Be, (Hw ⟨Be, (Ft ⟨Be, ⟨Be, ⟨Be, trivial⟩⟩⟩)⟩)⟩)⟩)) ?_))))))
 have e : A1 B = (⟨0, false, 0, false, 0, ⟨#[]⟩, ⟨#[]⟩, ⟨#[]⟩, 0, false, 0, false, ⟨#[]⟩, ⟨#[]⟩, 0, false, false, ⟨#[]⟩, false, ⟨#[]⟩, 0, false, [], [], []⟩ : PacketV) := by
  unfold A1 H6 Hu Ht Ei Hs Gj; simp only [h8, h9, h10, h27, q6, q21, q24, if_true, if_false, or_true, or_false, false_or, true_or, zaa, reduceIte, mqtt, Dy]; (rfl)
 rw [e]
 rfl
 refine Ac (nT h9) (Ac (nT h9) (Ac (nT h9) (Ac (nT h9) (Ac (nT h9) (Ev (nT h9) (Aq rfl (Bf (cs := En) rfl (B9 (cs' := En) s7 Ct (Ag rfl) rfl (B8 rfl) rfl fun H s91 => Ar s91 (.here) rfl (Aj (B7 s91 ⟨_, rfl, rfl⟩ (D2 (.nl (D2 (.nl (Hv (.nl (.sc (.sc (.nl (.nl (.nl .nil))))))))))) (D3 ⟨Be, (D3 ⟨Be, (Hw ⟨Be, (Ft ⟨Be, ⟨Be, ⟨Be, trivial⟩⟩⟩)⟩)⟩)⟩)) ?_)))))))))
 have e : A1 B = (⟨0, false, 0, false, 0, ⟨#[]⟩, ⟨#[]⟩, ⟨#[]⟩, 0, false, 0, false, ⟨#[]⟩, ⟨#[]⟩, 0, false, false, ⟨#[]⟩, false, ⟨#[]⟩, 0, false, [], [], []⟩ : PacketV) := by
  unfold A1 H6 Hu Ht Ei Hs Gj; simp only [h8, h9, q6, if_true, if_false, or_true, or_false, false_or, true_or, zaa, reduceIte, mqtt, Dy]; (rfl)
 rw [e]
 rfl
 refine Ac (nT h8) (Ac (nT h8) (Ev (nT h8) (Ac rfl (Ac rfl (Ac rfl (Ac rfl (Ac rfl (Ev rfl (Aq rfl (Bf (cs := En) rfl (B9 (cs' := En) s7 Ct (Ag rfl) rfl (B8 rfl) rfl fun H s92 => Ar s92 (.here) rfl (Aj (B7 s92 ⟨_, rfl, rfl⟩ (D2 (.nl (D2 (.nl (Hv (.nl (.sc (.sc (.nl (.nl (.nl .nil))))))))))) (D3 ⟨Be, (D3 ⟨Be, (Hw ⟨Be, (Ft ⟨Be, ⟨Be, ⟨Be, trivial⟩⟩⟩)⟩)⟩)⟩)) ?_))))))))))))
 have e : A1 B = (⟨0, false, 0, false, 0, ⟨#[]⟩, ⟨#[]⟩, ⟨#[]⟩, 0, false, 0, false, ⟨#[]⟩, ⟨#[]⟩, 0, false, false, ⟨#[]⟩, false, ⟨#[]⟩, 0, false, [], [], []⟩ : PacketV) := by
  unfold A1 H6 Hu Ht Ei Hs Gj; simp only [h8, q6, if_true, if_false, or_true, or_false, false_or, true_or, zaa, reduceIte, mqtt, Dy]; (rfl)
 rw [e]
 rfl
theorem Pg (n : Nat) (hn : 1048576 < n) (t id : Int) (B : ByteArray) (d4 d5 : Nat) (hB : B.size ≤ 1048576) (cs : List Int) : ∀ (f m : Nat) (a : Int) (ws : List WantV) (ns : List ByteArray) (xw xc xn : AV) (H : Ab), f ≤ m → ((B.size : Nat) : Int) - a < f → 0 ≤ a → ((ws.length + ns.length : Nat) : Int) ≤ a ∧ a ≤ ((B.size : Nat) : Int) → Bj xw = true → Bj xc = true → Bj xn = true → Sep H [.own xw 55 (Ch Bn ws), .own xc 57 (Ee cs), .own xn 56 (Eb ns), .blk d4 [.sc (.int .i64 0), .sc (.bool false), .sc (.int .i64 0), .sc (.bool false), .sc (.int .i64 0), .sc (.string (⟨#[]⟩)), .nl, .sc (.string (⟨#[]⟩)), .sc (.int .i64 0), .sc (.bool false), .sc (.int .i64 0), .sc (.bool false), .sc (.string (⟨#[]⟩)), .nl, .sc (.int .i64 0), .sc (.bool false), .sc (.bool false), .sc (.string (⟨#[]⟩)), .sc (.bool false), .nl, .sc (.int .i64 0), .sc (.bool false), .nl, .nl, .nl] true, .blk d5 [.sc (.int .i64 t), .sc (.bool false), .sc (.int .i64 0), .sc (.bool false), .sc (.int .i64 id), .sc (.string (⟨#[]⟩)), .nl, .sc (.string (⟨#[]⟩)), .sc (.int .i64 0), .sc (.bool false), .sc (.int .i64 0), .sc (.bool false), .sc (.string (⟨#[]⟩)), .nl, .sc (.int .i64 0), .sc (.bool false), .sc (.bool false), .sc (.string (⟨#[]⟩)), .sc (.bool false), .nl, .sc (.int .i64 0), .sc (.bool false), xw, xn, xc] true] → Gd (· = some (.agg (Ap (Mt t id cs (C0 t B f a ws ns))))) (Pj (PR (n + 6) AV) (n + 6) (fun x H => Bc As E0.tp 59 H x) m (Af B) (.ptr d4 0) (.ptr d5 0) (.sc (.int .i64 a)) H)
 | 0, m, a, ws, ns, xw, xc, xn, H, hm, hM, h0, h1, lxw, lxc, lxn, s0 => by
  exfalso
  omega
 | f + 1, m + 1, a, ws, ns, xw, xc, xn, H, hm, hM, h0, h1, lxw, lxc, lxn, s0 => by
  rw [Pj]
  try simp only [Fd, Fc]
  refine Cn (Dd (Aa ((decide (a < ((B.size : Nat) : Int)))) (fun h1 => ?_) fun h1 => ?_))
  have dh1 := of_decide_eq_true h1
  refine Ad h1 (N6 (Ad h1 (Al (c := si t) s0 Nk rfl (Ad h1 (A2 (Ad h1 (Aa ((decide (t = 8))) (fun h2 => ?_) fun h2 => ?_)))))))
  have dh2 := of_decide_eq_true h2
  refine Ac h2 (Ac h2 (Ac h2 (Ad h1 (Ev h2 (Ev h1 (Aq rfl ?_))))))
  obtain ⟨vq3, yq3, oq3, q3⟩ : ∃ w y o, B0 B a = (w, y, o) := ⟨_, _, _, rfl⟩
  have bq3 := G0 q3
  refine Eg s0 rfl (.cons .ro (.cons .sc .nil)) (by have h := Lp (n + 1) (by omega) B a (by omega) (by omega); rw [q3] at h; exact h) rfl (Bg (Bg (Bg Ea))) ?_
  rintro _ _ H ⟨_, rfl, ⟨_, rfl, ⟨_, rfl, ⟨rfl, rfl⟩⟩⟩⟩ s4
  simp only [zag] at s4
  refine Bp (v := ss vq3) rfl (Bp (v := si yq3) rfl (Bp (v := sb oq3) rfl (B4 (Aa (oq3) (fun h5 => ?_) fun h5 => ?_))))
  refine Av (nF h5) (N6 (Al (c := si t) s4 Nk rfl (A2 (Aa ((decide (t = 10))) (fun h6 => ?_) fun h6 => ?_))))
  have dh6 := of_decide_eq_true h6
  refine Aq h6 (K7 (Al (c := xn) s4 Nk rfl (Bf (cs := [ss vq3]) rfl (Cf s4 fun i7 H s8 => Zh s8 Nj (.here) ⟨_, _, rfl, rfl, rfl, rfl⟩ rfl (by omega) fun x9 H lx9 s10 => K7 (B9 (cs' := [si t, bF, i0, bF, si id, sE, .nl, sE, i0, bF, i0, bF, sE, .nl, i0, bF, bF, sE, bF, .nl, i0, bF, xw, x9, xc]) s10 Nk (D6 lx9) rfl (B8 rfl) rfl fun H s11 => ?_)))))
  have e : C0 t B (f + 1) a ws ns = C0 t B f yq3 ws (ns ++ [vq3]) := by
   clear s0 s4 s8 s10 s11
   simp only [Cw] at h1 h2 h6
   (exfalso; omega)
  rw [e]
  have hk := bq3.2.2.2 h5
  exact Pg n hn t id B d4 d5 hB cs f m yq3 ws (ns ++ [vq3]) xw xc x9 _ (by omega) (by omega) (by omega) (by omega) lxw lxc lx9 (s11.sel (.cons Df (.cons Df (.cons Ct (.cons Ct (.cons (.here) .nil))))))
  have dh6 := of_decide_eq_false h6
  refine Av h6 (Cn (A2 (Aa ((decide (yq3 = ((B.size : Nat) : Int)))) (fun h12 => ?_) fun h12 => ?_)))
  have dh12 := of_decide_eq_true h12
  refine Aq h12 (Bf (cs := En) rfl (B9 (cs' := En) s4 Nj (Ag rfl) rfl (B8 rfl) rfl fun H s13 => Ar s13 (.here) rfl (Aj (B7 s13 ⟨_, rfl, rfl⟩ (D2 (.nl (D2 (.nl (Hv (.nl (.sc (.sc (.nl (.nl (.nl .nil))))))))))) (D3 ⟨Be, (D3 ⟨Be, (Hw ⟨Be, (Ft ⟨Be, ⟨Be, ⟨Be, trivial⟩⟩⟩)⟩)⟩)⟩)) ?_)))
  have e : Mt t id cs (C0 t B (f + 1) a ws ns) = (⟨0, false, 0, false, 0, ⟨#[]⟩, ⟨#[]⟩, ⟨#[]⟩, 0, false, 0, false, ⟨#[]⟩, ⟨#[]⟩, 0, false, false, ⟨#[]⟩, false, ⟨#[]⟩, 0, false, [], [], []⟩ : PacketV) := by
   simp only [Cw] at h1 h2 h6 h12
   rw [C0]; simp only [q3]; simp [Mt, B6, h1, h2, h5, h6, h12]
  rw [e]
  rfl
  have dh12 := of_decide_eq_false h12
  refine Av h12 (Kv (Al (c := xw) s4 Nk rfl ?_))
  have w14 := D4 B yq3
  refine Gw (by omega) (by omega) fun _ => Fh (c := su (A6 B yq3)) rfl (Le (by omega) (by omega) (Bf (cs := [ss vq3, si (A6 B yq3)]) rfl (Bf (cs := [ss vq3, si (A6 B yq3)]) (K5 (z' := [ss vq3, si (A6 B yq3)]) (Ag rfl) rfl (B8 rfl) rfl (rfl)) (Cf s4 fun i15 H s16 => Zg (cty := [9, 3]) (e := (⟨vq3, (A6 B yq3)⟩ : WantV)) s16 ⟨_, _, rfl, rfl, rfl, rfl⟩ Ct (.here) rfl rfl (.sc (.sc .nil)) (Ft trivial) rfl (by omega) fun x17 H lx17 s18 => Kv (B9 (cs' := [si t, bF, i0, bF, si id, sE, .nl, sE, i0, bF, i0, bF, sE, .nl, i0, bF, bF, sE, bF, .nl, i0, bF, x17, xn, xc]) s18 Nk (D6 lx17) rfl (B8 rfl) rfl fun H s19 => Bx (by omega) (by omega) ?_)))))
  have e : C0 t B (f + 1) a ws ns = C0 t B f (yq3 + 1) (ws ++ [⟨vq3, (A6 B yq3)⟩]) ns := by
   simp only [Cw] at h1 h2 h6 h12
   (rw [C0]; simp only [q3]; simp [h1, h2, h5, h6, h12])
  rw [e]
  have hk := bq3.2.2.2 h5
  exact Pg n hn t id B d4 d5 hB cs f m (yq3 + 1) (ws ++ [⟨vq3, (A6 B yq3)⟩]) ns x17 xc xn _ (by omega) (by omega) (by omega) (by (simp only [zaf, zaq]; omega)) lx17 lxc lxn (s19.sel (.cons Ct (.cons Ct (.cons Ct (.cons Ct (.cons (.here) .nil))))))
  refine Aq (nT h5) (Bf (cs := En) rfl (B9 (cs' := En) s4 Nj (Ag rfl) rfl (B8 rfl) rfl fun H s20 => Ar s20 (.here) rfl (Aj (B7 s20 ⟨_, rfl, rfl⟩ (D2 (.nl (D2 (.nl (Hv (.nl (.sc (.sc (.nl (.nl (.nl .nil))))))))))) (D3 ⟨Be, (D3 ⟨Be, (Hw ⟨Be, (Ft ⟨Be, ⟨Be, ⟨Be, trivial⟩⟩⟩)⟩)⟩)⟩)) ?_)))
  have e : Mt t id cs (C0 t B (f + 1) a ws ns) = (⟨0, false, 0, false, 0, ⟨#[]⟩, ⟨#[]⟩, ⟨#[]⟩, 0, false, 0, false, ⟨#[]⟩, ⟨#[]⟩, 0, false, false, ⟨#[]⟩, false, ⟨#[]⟩, 0, false, [], [], []⟩ : PacketV) := by
   simp only [Cw] at h1 h2
   rw [C0]; simp only [q3]; simp [Mt, B6, h1, h2, h5]
  rw [e]
  rfl
  have dh2 := of_decide_eq_false h2
  refine Ad h2 (N6 (Ad h2 (Al (c := si t) s0 Nk rfl (Ad h2 (A2 (Ad h1 (Es h2 (Ev h1 (Aa ((decide (t = 10))) (fun h21 => ?_) fun h21 => ?_)))))))))
  have dh21 := of_decide_eq_true h21
  refine Aq h21 ?_
  obtain ⟨vq22, yq22, oq22, q22⟩ : ∃ w y o, B0 B a = (w, y, o) := ⟨_, _, _, rfl⟩
  have bq22 := G0 q22
  refine Eg s0 rfl (.cons .ro (.cons .sc .nil)) (by have h := Lp (n + 1) (by omega) B a (by omega) (by omega); rw [q22] at h; exact h) rfl (Bg (Bg (Bg Ea))) ?_
  rintro _ _ H ⟨_, rfl, ⟨_, rfl, ⟨_, rfl, ⟨rfl, rfl⟩⟩⟩⟩ s23
  simp only [zag] at s23
  refine Bp (v := ss vq22) rfl (Bp (v := si yq22) rfl (Bp (v := sb oq22) rfl (B4 (Aa (oq22) (fun h24 => ?_) fun h24 => ?_))))
  refine Av (nF h24) (N6 (Al (c := si t) s23 Nk rfl (A2 (Aq h21 (K7 (Al (c := xn) s23 Nk rfl (Bf (cs := [ss vq22]) rfl (Cf s23 fun i25 H s26 => Zh s26 Nj (.here) ⟨_, _, rfl, rfl, rfl, rfl⟩ rfl (by omega) fun x27 H lx27 s28 => K7 (B9 (cs' := [si t, bF, i0, bF, si id, sE, .nl, sE, i0, bF, i0, bF, sE, .nl, i0, bF, bF, sE, bF, .nl, i0, bF, xw, x27, xc]) s28 Nk (D6 lx27) rfl (B8 rfl) rfl fun H s29 => ?_)))))))))
  have e : C0 t B (f + 1) a ws ns = C0 t B f yq22 ws (ns ++ [vq22]) := by
   simp only [Cw] at h1 h2 h21
   (rw [C0]; simp only [q22]; simp [h1, h2, h21, h24])
  rw [e]
  have hk := bq22.2.2.2 h24
  exact Pg n hn t id B d4 d5 hB cs f m yq22 ws (ns ++ [vq22]) xw xc x27 _ (by omega) (by omega) (by omega) (by (simp only [zaf, zaq]; omega)) lxw lxc lx27 (s29.sel (.cons Df (.cons Df (.cons Ct (.cons Ct (.cons (.here) .nil))))))
  refine Aq (nT h24) (Bf (cs := En) rfl (B9 (cs' := En) s23 Nj (Ag rfl) rfl (B8 rfl) rfl fun H s30 => Ar s30 (.here) rfl (Aj (B7 s30 ⟨_, rfl, rfl⟩ (D2 (.nl (D2 (.nl (Hv (.nl (.sc (.sc (.nl (.nl (.nl .nil))))))))))) (D3 ⟨Be, (D3 ⟨Be, (Hw ⟨Be, (Ft ⟨Be, ⟨Be, ⟨Be, trivial⟩⟩⟩)⟩)⟩)⟩)) ?_)))
  have e : Mt t id cs (C0 t B (f + 1) a ws ns) = (⟨0, false, 0, false, 0, ⟨#[]⟩, ⟨#[]⟩, ⟨#[]⟩, 0, false, 0, false, ⟨#[]⟩, ⟨#[]⟩, 0, false, false, ⟨#[]⟩, false, ⟨#[]⟩, 0, false, [], [], []⟩ : PacketV) := by
   simp only [Cw] at h1 h2 h21
   rw [C0]; simp only [q22]; simp [Mt, B6, h1, h2, h21, h24]
  rw [e]
  rfl
  have dh21 := of_decide_eq_false h21
  refine Av h21 (Ar s0 Nk rfl (B9 (cs' := [si t, bF, i0, bF, si id, sE, .nl, sE, i0, bF, i0, bF, sE, .nl, i0, bF, bF, sE, bF, .nl, i0, bF, xw, xn, xc]) s0 Nj (Ag (Ae rfl (Ae rfl (Ae rfl (Ae rfl (Ae rfl (Ae rfl (Ae rfl (Ae rfl (Ae rfl (Ae rfl (Ae rfl (Ae rfl (Ae rfl (Ae rfl (Ae rfl (Ae rfl (Ae rfl (Ae rfl (Ae rfl (Ae rfl (Ae rfl (Ae rfl (Ae lxw (Ae lxn (Ae lxc rfl)))))))))))))))))))))))))) rfl (B8 rfl) rfl fun H s31 => Ar s31 (.here) rfl (Aj (B7 s31 ⟨_, rfl, rfl⟩ (D2 (.nl (D2 (.nl (Hv (.nl (.sc (.sc (.own Ct (.own Df (.own Ct .nil))))))))))) (D3 ⟨Be, (D3 ⟨Be, (Hw ⟨Be, (Ft ⟨(B5 (Lo ws) (by decide)), ⟨(B5 (Wk ns) (by decide)), ⟨(B5 (Zp cs) (by decide)), trivial⟩⟩⟩)⟩)⟩)⟩)) ?_)))
  have e : Mt t id cs (C0 t B (f + 1) a ws ns) = (⟨t, false, 0, false, id, ⟨#[]⟩, ⟨#[]⟩, ⟨#[]⟩, 0, false, 0, false, ⟨#[]⟩, ⟨#[]⟩, 0, false, false, ⟨#[]⟩, false, ⟨#[]⟩, 0, false, ws, ns, cs⟩ : PacketV) := by
   simp only [Cw] at h1 h2 h21
   rw [C0]; simp [Mt, B6, h1, h2, h21]
  rw [e]
  rfl
  have dh1 := of_decide_eq_false h1
  refine Ac h1 (Ac h1 (Ac h1 (Ac h1 (Dj (Dj (Dj (Ac h1 (Es h1 (Av rfl (Ar s0 Nk rfl (B9 (cs' := [si t, bF, i0, bF, si id, sE, .nl, sE, i0, bF, i0, bF, sE, .nl, i0, bF, bF, sE, bF, .nl, i0, bF, xw, xn, xc]) s0 Nj (Ag (Ae rfl (Ae rfl (Ae rfl (Ae rfl (Ae rfl (Ae rfl (Ae rfl (Ae rfl (Ae rfl (Ae rfl (Ae rfl (Ae rfl (Ae rfl (Ae rfl (Ae rfl (Ae rfl (Ae rfl (Ae rfl (Ae rfl (Ae rfl (Ae rfl (Ae rfl (Ae lxw (Ae lxn (Ae lxc rfl)))))))))))))))))))))))))) rfl (B8 rfl) rfl fun H s32 => Ar s32 (.here) rfl (Aj (B7 s32 ⟨_, rfl, rfl⟩ (D2 (.nl (D2 (.nl (Hv (.nl (.sc (.sc (.own Ct (.own Df (.own Ct .nil))))))))))) (D3 ⟨Be, (D3 ⟨Be, (Hw ⟨Be, (Ft ⟨(B5 (Lo ws) (by decide)), ⟨(B5 (Wk ns) (by decide)), ⟨(B5 (Zp cs) (by decide)), trivial⟩⟩⟩)⟩)⟩)⟩)) ?_))))))))))))
  have e : Mt t id cs (C0 t B (f + 1) a ws ns) = (⟨t, false, 0, false, id, ⟨#[]⟩, ⟨#[]⟩, ⟨#[]⟩, 0, false, 0, false, ⟨#[]⟩, ⟨#[]⟩, 0, false, false, ⟨#[]⟩, false, ⟨#[]⟩, 0, false, ws, ns, cs⟩ : PacketV) := by
   simp only [Cw] at h1
   rw [C0]; simp [Mt, B6, h1]
  rw [e]
  rfl
theorem U7 (n : Nat) (hn : 1048576 < n) (t id : Int) (B : ByteArray) (d4 d5 : Nat) (hB : B.size ≤ 1048576) (a : Int) (ha : 0 ≤ a ∧ a ≤ ((B.size : Nat) : Int)) : ∀ (f m : Nat) (i : Int) (cs : List Int) (xc : AV) (H : Ab), f ≤ m → ((B.size : Nat) : Int) - i < f → 0 ≤ i → ((cs.length : Nat) : Int) ≤ i ∧ i ≤ ((B.size : Nat) : Int) → Bj xc = true → Sep H [.own xc 57 (Ee cs), .blk d4 [.sc (.int .i64 0), .sc (.bool false), .sc (.int .i64 0), .sc (.bool false), .sc (.int .i64 0), .sc (.string (⟨#[]⟩)), .nl, .sc (.string (⟨#[]⟩)), .sc (.int .i64 0), .sc (.bool false), .sc (.int .i64 0), .sc (.bool false), .sc (.string (⟨#[]⟩)), .nl, .sc (.int .i64 0), .sc (.bool false), .sc (.bool false), .sc (.string (⟨#[]⟩)), .sc (.bool false), .nl, .sc (.int .i64 0), .sc (.bool false), .nl, .nl, .nl] true, .blk d5 [.sc (.int .i64 t), .sc (.bool false), .sc (.int .i64 0), .sc (.bool false), .sc (.int .i64 id), .sc (.string (⟨#[]⟩)), .nl, .sc (.string (⟨#[]⟩)), .sc (.int .i64 0), .sc (.bool false), .sc (.int .i64 0), .sc (.bool false), .sc (.string (⟨#[]⟩)), .nl, .sc (.int .i64 0), .sc (.bool false), .sc (.bool false), .sc (.string (⟨#[]⟩)), .sc (.bool false), .nl, .sc (.int .i64 0), .sc (.bool false), .nl, .nl, xc] true] → Gd (· = some (.agg (Ap (Mt t id (Gn B f i cs) (C0 t B (B.size + 1) a [] []))))) (Pm (PR (n + 6) AV) (n + 6) (fun x H => Bc As E0.tp 59 H x) m (Af B) (.ptr d4 0) (.ptr d5 0) (.sc (.int .i64 a)) (.sc (.int .i64 i)) H)
 | 0, m, i, cs, xc, H, hm, hM, h0, h1, lxc, s0 => by
  exfalso
  omega
 | f + 1, m + 1, i, cs, xc, H, hm, hM, h0, h1, lxc, s0 => by
  rw [Pm]
  try simp only [Fd, Fc]
  refine Cn (Dd (Aa ((decide (i < ((B.size : Nat) : Int)))) (fun h1 => ?_) fun h1 => ?_))
  have dh1 := of_decide_eq_true h1
  refine Aq h1 (K8 (Al (c := xc) s0 Df rfl ?_))
  have w2 := D4 B i
  refine Gw (by omega) (by omega) fun _ => Fh (c := su (A6 B i)) rfl (Le (by omega) (by omega) (Bf (cs := [si (A6 B i)]) rfl (Cf s0 fun i3 H s4 => AcM s4 Ct (.here) ⟨_, _, rfl, rfl, rfl, rfl⟩ rfl (by omega) fun x5 H lx5 s6 => K8 (A7 s6 Df lx5 rfl fun H s7 => Bx (by omega) (by omega) ?_))))
  have e : Gn B (f + 1) i cs = Gn B f (i + 1) (cs ++ [(A6 B i)]) := by
   simp only [Cw] at h1
   rw [Gn]; simp [h1]
  rw [e]
  exact U7 n hn t id B d4 d5 hB a ha f m (i + 1) (cs ++ [(A6 B i)]) x5 _ (by omega) (by omega) (by omega) (by (simp only [zaf, zaq]; omega)) lx5 (s7.sel (.cons Ct (.cons Ct (.cons (.here) .nil))))
  have dh1 := of_decide_eq_false h1
  refine Av h1 ?_
  have e : Gn B (f + 1) i cs = cs := by
   simp only [Cw] at h1
   rw [Gn]; simp [h1]
  rw [e]
  have s8 := s0.nl (ty := 56) ⟨_, _, rfl, rfl⟩
  have s9 := s8.nl (ty := 55) ⟨_, _, rfl, rfl⟩
  exact Pg n hn t id B d4 d5 hB cs (B.size + 1) _ a [] [] .nl xc .nl _ (by omega) (by omega) (by omega) (by omega) rfl lxc rfl (s9.sel (.cons (.here) (.cons Ct (.cons (.here) (.cons (.here) (.cons (.here) .nil))))))
theorem AjY (n : Nat) (hn : 1048576 < n) (first : Int) (B : ByteArray) (hf : 0 ≤ first ∧ first < 256) (hB : B.size ≤ 1048576) : B3 E0 (n + 7) 59 63 [.sc (.int .i64 first), Af B] = some (.agg (Ap (Dm first B))) := by
 rw [Au, Aly, f63]
 refine Ci (G := (· = some (.agg (Ap (Dm first B))))) ?_
 try simp only [Fd, Fc]
 have s0 : Sep [] [] := Cb
 refine Id s0 fun i1 H s2 => Ps (by omega) (by omega) (by decide) (Bf (cs := [si (first / 16), bF, i0, bF, i0, sE, .nl, sE, i0, bF, i0, bF, sE, .nl, i0, bF, bF, sE, bF, .nl, i0, bF, .nl, .nl, .nl]) rfl (Id s2 fun i3 H s4 => B9 (cs' := [si (first / 16), bF, i0, bF, i0, sE, .nl, sE, i0, bF, i0, bF, sE, .nl, i0, bF, bF, sE, bF, .nl, i0, bF, .nl, .nl, .nl]) s4 (.here) (Ag rfl) rfl (B8 rfl) rfl fun H s5 => N6 (Al (c := si (first / 16)) s5 (.here) rfl (A2 (Aa ((decide ((first / 16) = 1))) (fun h6 => ?_) fun h6 => ?_)))))
 have dh6 := of_decide_eq_true h6
 refine Aq h6 (Sa s5 rfl (.cons .ro .nil) (Ace n (by omega) B hB) ⟨_, rfl, rfl⟩ (Kg _) ?_)
 rintro _ _ H ⟨x7, x8, x9, x10, x11, x12, lx7, lx8, lx9, lx10, lx11, lx12, rfl, rfl⟩ s13
 simp only [zag, zau] at s13
 refine B9 (cs' := [si ((A1 B).fType), .sc (.bool (A1 B).fDup), si ((A1 B).fQos), .sc (.bool (A1 B).fRetain), si ((A1 B).fId), ss ((A1 B).fTopic), x7, ss ((A1 B).fClient), si ((A1 B).fLevel), .sc (.bool (A1 B).fClean), si ((A1 B).fKeep), .sc (.bool (A1 B).fHasWill), ss ((A1 B).fWTopic), x8, si ((A1 B).fWQos), .sc (.bool (A1 B).fWRetain), .sc (.bool (A1 B).fHasUser), ss ((A1 B).fUser), .sc (.bool (A1 B).fHasPass), x9, si ((A1 B).fCode), .sc (.bool (A1 B).fPresent), x10, x11, x12]) s13 zP7 (Ag (Ae rfl (Ae rfl (Ae rfl (Ae rfl (Ae rfl (Ae rfl (Ae lx7 (Ae rfl (Ae rfl (Ae rfl (Ae rfl (Ae rfl (Ae rfl (Ae lx8 (Ae rfl (Ae rfl (Ae rfl (Ae rfl (Ae rfl (Ae lx9 (Ae rfl (Ae rfl (Ae lx10 (Ae lx11 (Ae lx12 rfl)))))))))))))))))))))))))) rfl (B8 rfl) rfl fun H s14 => Ar s14 (.here) rfl (Aj (B7 s14 ⟨_, rfl, rfl⟩ (D2 (.own Z7 (D2 (.own Xp (Hv (.own Nk (.sc (.sc (.own Nj (.own Df (.own Ct .nil))))))))))) (D3 ⟨(B5 (C2 ((A1 B).fBody)) (by decide)), (D3 ⟨(B5 (C2 ((A1 B).fWBody)) (by decide)), (Hw ⟨(B5 (C2 ((A1 B).fPass)) (by decide)), (Ft ⟨(B5 (Lo ((A1 B).fWants)) (by decide)), ⟨(B5 (Wk ((A1 B).fNames)) (by decide)), ⟨(B5 (Zp ((A1 B).fCodes)) (by decide)), trivial⟩⟩⟩)⟩)⟩)⟩)) ?_)
 have e : Dm first B = (⟨(A1 B).fType, (A1 B).fDup, (A1 B).fQos, (A1 B).fRetain, (A1 B).fId, (A1 B).fTopic, (A1 B).fBody, (A1 B).fClient, (A1 B).fLevel, (A1 B).fClean, (A1 B).fKeep, (A1 B).fHasWill, (A1 B).fWTopic, (A1 B).fWBody, (A1 B).fWQos, (A1 B).fWRetain, (A1 B).fHasUser, (A1 B).fUser, (A1 B).fHasPass, (A1 B).fPass, (A1 B).fCode, (A1 B).fPresent, ((A1 B).fWants), (A1 B).fNames, (A1 B).fCodes⟩ : PacketV) := by
  simp only [Cw] at h6
  unfold Dm H7 F2 Lu; ((simp only [h6, if_true, if_false, or_true, or_false, false_or, true_or, zaa, reduceIte, and_true, and_false, true_and, false_and, Dy]; done))
 rw [e]
 rfl
 have dh6 := of_decide_eq_false h6
 refine Av h6 (N6 (Al (c := si (first / 16)) s5 (.here) rfl (A2 (Aa ((decide ((first / 16) = 2))) (fun h15 => ?_) fun h15 => ?_))))
 have dh15 := of_decide_eq_true h15
 refine Ad h15 (Ad h15 (Cn (Ad h15 (A2 (Ev h15 (Aa ((decide (((B.size : Nat) : Int) = 2))) (fun h16 => ?_) fun h16 => ?_))))))
 have dh16 := of_decide_eq_true h16
 refine Aq h16 ?_
 have w17 := D4 B 0
 refine Gw (by omega) (by omega) fun _ => Fh (c := su (A6 B 0)) rfl (Q0 (v := sb ((A6 B 0) == 1)) (fun k => rfl) (V7 (A7 s5 (.here) rfl rfl fun H s18 => ?_)))
 have w19 := D4 B 1
 refine Gw (by omega) (by omega) fun _ => Fh (c := su (A6 B 1)) rfl (Le (by omega) (by omega) (Rm (A7 s18 (.here) rfl rfl fun H s20 => Ar s20 (.here) rfl (B9 (cs' := [si (first / 16), bF, i0, bF, i0, sE, .nl, sE, i0, bF, i0, bF, sE, .nl, i0, bF, bF, sE, bF, .nl, si (A6 B 1), sb ((A6 B 0) == 1), .nl, .nl, .nl]) s20 Ct (Ag rfl) rfl (B8 rfl) rfl fun H s21 => Ar s21 (.here) rfl (Aj (B7 s21 ⟨_, rfl, rfl⟩ (D2 (.nl (D2 (.nl (Hv (.nl (.sc (.sc (.nl (.nl (.nl .nil))))))))))) (D3 ⟨Be, (D3 ⟨Be, (Hw ⟨Be, (Ft ⟨Be, ⟨Be, ⟨Be, trivial⟩⟩⟩)⟩)⟩)⟩)) ?_)))))
 have e : Dm first B = (⟨(first / 16), false, 0, false, 0, ⟨#[]⟩, ⟨#[]⟩, ⟨#[]⟩, 0, false, 0, false, ⟨#[]⟩, ⟨#[]⟩, 0, false, false, ⟨#[]⟩, false, ⟨#[]⟩, (A6 B 1), ((A6 B 0) == 1), [], [], []⟩ : PacketV) := by
  simp only [Cw] at h6 h15 h16
  unfold Dm H7 F2 Lu; ((simp only [h6, h15, h16, if_true, if_false, or_true, or_false, false_or, true_or, zaa, reduceIte, and_true, and_false, true_and, false_and, Dy]; rfl))
 rw [e]
 rfl
 have dh16 := of_decide_eq_false h16
 refine Av h16 (N6 (Al (c := si (first / 16)) s5 (.here) rfl (A2 (Aa ((decide ((first / 16) = 3))) (fun h22 => ?_) fun h22 => ?_))))
 have dh22 := of_decide_eq_true h22
 refine Aq h22 (Gv rfl (Ej (V2 (A7 s5 (.here) rfl rfl fun H s23 => T6 2 rfl (by decide) (Gv rfl (Pb (A7 s23 (.here) rfl rfl fun H s24 => Gv rfl (Ej (gf3 (A7 s24 (.here) rfl rfl fun H s25 => ?_))))))))))
 obtain ⟨vq26, yq26, oq26, q26⟩ : ∃ w y o, B0 B 0 = (w, y, o) := ⟨_, _, _, rfl⟩
 have bq26 := G0 q26
 refine Eg s25 rfl (.cons .ro (.cons .sc .nil)) (by have h := Lp (n + 1) (by omega) B 0 (by omega) (by omega); rw [q26] at h; exact h) rfl (Bg (Bg (Bg Ea))) ?_
 rintro _ _ H ⟨_, rfl, ⟨_, rfl, ⟨_, rfl, ⟨rfl, rfl⟩⟩⟩⟩ s27
 simp only [zag] at s27
 refine Bp (v := ss vq26) rfl (Bp (v := si yq26) rfl (Bp (v := sb oq26) rfl (B4 (Aa (oq26) (fun h28 => ?_) fun h28 => ?_))))
 refine Av (nF h28) (gf5 (A7 s27 (.here) rfl rfl fun H s29 => Pb (Al (c := si (bits .and .i64 (first / 2) 3)) s29 (.here) rfl (Ej (De (Aa ((decide (0 < (bits .and .i64 (first / 2) 3)))) (fun h30 => ?_) fun h30 => ?_))))))
 have dh30 := of_decide_eq_true h30
 refine Aq h30 ?_
 obtain ⟨wq31, yq31, oq31, q31⟩ : ∃ w y o, Bo B yq26 = (w, y, o) := ⟨_, _, _, rfl⟩
 have bq31 := Gg q31
 refine Eg s29 rfl (.cons .ro (.cons .sc .nil)) (by have h := Qs (n + 5) (by omega) B yq26 (by omega) (by omega); rw [q31] at h; exact h) rfl (Bg (Bg (Bg Ea))) ?_
 rintro _ _ H ⟨_, rfl, ⟨_, rfl, ⟨_, rfl, ⟨rfl, rfl⟩⟩⟩⟩ s32
 simp only [zag] at s32
 refine Bp (v := si wq31) rfl (Bp (v := si yq31) rfl (Bp (v := sb oq31) rfl (B4 (Aa (oq31) (fun h33 => ?_) fun h33 => ?_))))
 refine Av (nF h33) (It (A7 s32 (.here) rfl rfl fun H s34 => Gx yq31 ((B.size : Nat) : Int) rfl rfl (by omega) (by omega) (by omega) ?_))
 have z35 := zaw (a := B) (b := yq31.toNat) (e := ((B.size : Nat) : Int).toNat)
 refine Jr s34 (by omega) fun x36 H lx36 s37 => gf6 (A7 s37 Ct lx36 rfl fun H s38 => Ar s38 (.here) rfl (B9 (cs' := [si (first / 16), sb (decide (0 < (bits .and .i64 first 8))), si (bits .and .i64 (first / 2) 3), sb (decide (0 < (bits .and .i64 first 1))), si wq31, ss vq26, x36, sE, i0, bF, i0, bF, sE, .nl, i0, bF, bF, sE, bF, .nl, i0, bF, .nl, .nl, .nl]) s38 Df (Ag (Ae rfl (Ae rfl (Ae rfl (Ae rfl (Ae rfl (Ae rfl (Ae lx36 rfl)))))))) rfl (B8 rfl) rfl fun H s39 => Ar s39 (.here) rfl (Aj (B7 s39 ⟨_, rfl, rfl⟩ (D2 (.own Df (D2 (.nl (Hv (.nl (.sc (.sc (.nl (.nl (.nl .nil))))))))))) (D3 ⟨(B5 (C2 (B.extract yq31.toNat ((B.size : Nat) : Int).toNat)) (by decide)), (D3 ⟨Be, (Hw ⟨Be, (Ft ⟨Be, ⟨Be, ⟨Be, trivial⟩⟩⟩)⟩)⟩)⟩)) ?_)))
 have e : Dm first B = (⟨(first / 16), (decide (0 < (bits .and .i64 first 8))), (bits .and .i64 (first / 2) 3), (decide (0 < (bits .and .i64 first 1))), wq31, vq26, (B.extract yq31.toNat ((B.size : Nat) : Int).toNat), ⟨#[]⟩, 0, false, 0, false, ⟨#[]⟩, ⟨#[]⟩, 0, false, false, ⟨#[]⟩, false, ⟨#[]⟩, 0, false, [], [], []⟩ : PacketV) := by
  clear s0 s2 s4 s5 s23 s24 s25 s27 s29 s32 s34 s37 s38 s39
  simp only [Cw] at h6 h15 h16 h22 h30
  unfold Dm H7 F2 Lu; ((simp only [h6, h15, h16, h22, h30, h28, h33, q26, q31, if_true, if_false, or_true, or_false, false_or, true_or, zaa, reduceIte, and_true, and_false, true_and, false_and, Dy]; simp [B6, h6, h15, h16, h22, h30, h28, h33]; omega))
 rw [e]
 rfl
 refine Aq (nT h33) (Bf (cs := En) rfl (B9 (cs' := En) s32 Ct (Ag rfl) rfl (B8 rfl) rfl fun H s40 => Ar s40 (.here) rfl (Aj (B7 s40 ⟨_, rfl, rfl⟩ (D2 (.nl (D2 (.nl (Hv (.nl (.sc (.sc (.nl (.nl (.nl .nil))))))))))) (D3 ⟨Be, (D3 ⟨Be, (Hw ⟨Be, (Ft ⟨Be, ⟨Be, ⟨Be, trivial⟩⟩⟩)⟩)⟩)⟩)) ?_)))
 have e : Dm first B = (⟨0, false, 0, false, 0, ⟨#[]⟩, ⟨#[]⟩, ⟨#[]⟩, 0, false, 0, false, ⟨#[]⟩, ⟨#[]⟩, 0, false, false, ⟨#[]⟩, false, ⟨#[]⟩, 0, false, [], [], []⟩ : PacketV) := by
  clear s0 s2 s4 s5 s23 s24 s25 s27 s29 s32 s40
  simp only [Cw] at h6 h15 h16 h22 h30
  unfold Dm H7 F2 Lu; ((simp only [h6, h15, h16, h22, h30, h28, h33, q26, q31, if_true, if_false, or_true, or_false, false_or, true_or, zaa, reduceIte, and_true, and_false, true_and, false_and, Dy]; simp [B6, h6, h15, h16, h22, h30, h28, h33]; omega))
 rw [e]
 rfl
 have dh30 := of_decide_eq_false h30
 refine Av h30 (Gx yq26 ((B.size : Nat) : Int) rfl rfl (by omega) (by omega) (by omega) ?_)
 have z41 := zaw (a := B) (b := yq26.toNat) (e := ((B.size : Nat) : Int).toNat)
 refine Jr s29 (by omega) fun x42 H lx42 s43 => gf6 (A7 s43 Ct lx42 rfl fun H s44 => Ar s44 (.here) rfl (B9 (cs' := [si (first / 16), sb (decide (0 < (bits .and .i64 first 8))), si (bits .and .i64 (first / 2) 3), sb (decide (0 < (bits .and .i64 first 1))), i0, ss vq26, x42, sE, i0, bF, i0, bF, sE, .nl, i0, bF, bF, sE, bF, .nl, i0, bF, .nl, .nl, .nl]) s44 Df (Ag (Ae rfl (Ae rfl (Ae rfl (Ae rfl (Ae rfl (Ae rfl (Ae lx42 rfl)))))))) rfl (B8 rfl) rfl fun H s45 => Ar s45 (.here) rfl (Aj (B7 s45 ⟨_, rfl, rfl⟩ (D2 (.own Df (D2 (.nl (Hv (.nl (.sc (.sc (.nl (.nl (.nl .nil))))))))))) (D3 ⟨(B5 (C2 (B.extract yq26.toNat ((B.size : Nat) : Int).toNat)) (by decide)), (D3 ⟨Be, (Hw ⟨Be, (Ft ⟨Be, ⟨Be, ⟨Be, trivial⟩⟩⟩)⟩)⟩)⟩)) ?_)))
 have e : Dm first B = (⟨(first / 16), (decide (0 < (bits .and .i64 first 8))), (bits .and .i64 (first / 2) 3), (decide (0 < (bits .and .i64 first 1))), 0, vq26, (B.extract yq26.toNat ((B.size : Nat) : Int).toNat), ⟨#[]⟩, 0, false, 0, false, ⟨#[]⟩, ⟨#[]⟩, 0, false, false, ⟨#[]⟩, false, ⟨#[]⟩, 0, false, [], [], []⟩ : PacketV) := by
  clear s0 s2 s4 s5 s23 s24 s25 s27 s29 s43 s44 s45
  simp only [Cw] at h6 h15 h16 h22 h30
  unfold Dm H7 F2 Lu; ((simp only [h6, h15, h16, h22, h30, h28, q26, if_true, if_false, or_true, or_false, false_or, true_or, zaa, reduceIte, and_true, and_false, true_and, false_and, Dy]; simp [B6, h6, h15, h16, h22, h30, h28]; omega))
 rw [e]
 rfl
 refine Aq (nT h28) (Bf (cs := En) rfl (B9 (cs' := En) s27 Ct (Ag rfl) rfl (B8 rfl) rfl fun H s46 => Ar s46 (.here) rfl (Aj (B7 s46 ⟨_, rfl, rfl⟩ (D2 (.nl (D2 (.nl (Hv (.nl (.sc (.sc (.nl (.nl (.nl .nil))))))))))) (D3 ⟨Be, (D3 ⟨Be, (Hw ⟨Be, (Ft ⟨Be, ⟨Be, ⟨Be, trivial⟩⟩⟩)⟩)⟩)⟩)) ?_)))
 have e : Dm first B = (⟨0, false, 0, false, 0, ⟨#[]⟩, ⟨#[]⟩, ⟨#[]⟩, 0, false, 0, false, ⟨#[]⟩, ⟨#[]⟩, 0, false, false, ⟨#[]⟩, false, ⟨#[]⟩, 0, false, [], [], []⟩ : PacketV) := by
  clear s0 s2 s4 s5 s23 s24 s25 s27 s46
  simp only [Cw] at h6 h15 h16 h22
  unfold Dm H7 F2 Lu; ((simp only [h6, h15, h16, h22, h28, q26, if_true, if_false, or_true, or_false, false_or, true_or, zaa, reduceIte, and_true, and_false, true_and, false_and, Dy]; simp [B6, h6, h15, h16, h22, h28]; omega))
 rw [e]
 rfl
 have dh22 := of_decide_eq_false h22
 refine Av h22 (N6 (Al (c := si (first / 16)) s5 (.here) rfl (Dd (De (Aa ((decide ((first / 16) < 12))) (fun h47 => ?_) fun h47 => ?_)))))
 have dh47 := of_decide_eq_true h47
 refine Aq h47 ?_
 obtain ⟨wq48, yq48, oq48, q48⟩ : ∃ w y o, Bo B 0 = (w, y, o) := ⟨_, _, _, rfl⟩
 have bq48 := Gg q48
 refine Eg s5 rfl (.cons .ro (.cons .sc .nil)) (by have h := Qs (n + 5) (by omega) B 0 (by omega) (by omega); rw [q48] at h; exact h) rfl (Bg (Bg (Bg Ea))) ?_
 rintro _ _ H ⟨_, rfl, ⟨_, rfl, ⟨_, rfl, ⟨rfl, rfl⟩⟩⟩⟩ s49
 simp only [zag] at s49
 refine Bp (v := si wq48) rfl (Bp (v := si yq48) rfl (Bp (v := sb oq48) rfl (B4 (Aa (oq48) (fun h50 => ?_) fun h50 => ?_))))
 refine Av (nF h50) (It (A7 s49 (.here) rfl rfl fun H s51 => N6 (Al (c := si (first / 16)) s51 (.here) rfl (A2 (De (Aa ((decide ((first / 16) = 9))) (fun h52 => ?_) fun h52 => ?_))))))
 have dh52 := of_decide_eq_true h52
 refine Aq h52 ?_
 have e : Dm first B = Mt (first / 16) wq48 (Gn B (B.size + 1) yq48 []) (C0 (first / 16) B (B.size + 1) yq48 [] []) := by
  clear s0 s2 s4 s5 s49 s51
  simp only [Cw] at h6 h15 h16 h22 h47 h52
  unfold Dm H7 F2 Lu; ((simp only [h6, h15, h16, h22, h47, h52, h50, q48, if_true, if_false, or_true, or_false, false_or, true_or, zaa, reduceIte, and_true, and_false, true_and, false_and, Dy]; simp [B6, h6, h15, h16, h22, h47, h52, h50]; omega))
 rw [e]
 have s53 := s51.nl (ty := 57) ⟨_, _, rfl, rfl⟩
 exact U7 n hn (first / 16) wq48 B i1 i3 hB yq48 (by omega) (B.size + 1) _ yq48 [] .nl _ (by omega) (by omega) (by omega) (by omega) rfl (s53.sel (.cons (.here) (.cons Ct (.cons (.here) .nil))))
 have dh52 := of_decide_eq_false h52
 refine Av h52 ?_
 have e : Dm first B = Mt (first / 16) wq48 [] (C0 (first / 16) B (B.size + 1) yq48 [] []) := by
  simp only [Cw] at h6 h15 h16 h22 h47 h52
  unfold Dm H7 F2 Lu; ((simp only [h6, h15, h16, h22, h47, h52, h50, q48, if_true, if_false, or_true, or_false, false_or, true_or, zaa, reduceIte, and_true, and_false, true_and, false_and, Dy]; rfl))
 rw [e]
 have s54 := s51.nl (ty := 57) ⟨_, _, rfl, rfl⟩
 have s55 := s54.nl (ty := 56) ⟨_, _, rfl, rfl⟩
 have s56 := s55.nl (ty := 55) ⟨_, _, rfl, rfl⟩
 exact Pg n hn (first / 16) wq48 B i1 i3 hB [] (B.size + 1) _ yq48 [] [] .nl .nl .nl _ (by omega) (by omega) (by omega) (by (simp only [zao]; omega)) rfl rfl rfl (s56.sel (.cons (.here) (.cons Ct (.cons (.here) (.cons Ct (.cons (.here) .nil))))))
 refine Aq (nT h50) (Bf (cs := En) rfl (B9 (cs' := En) s49 Ct (Ag rfl) rfl (B8 rfl) rfl fun H s57 => Ar s57 (.here) rfl (Aj (B7 s57 ⟨_, rfl, rfl⟩ (D2 (.nl (D2 (.nl (Hv (.nl (.sc (.sc (.nl (.nl (.nl .nil))))))))))) (D3 ⟨Be, (D3 ⟨Be, (Hw ⟨Be, (Ft ⟨Be, ⟨Be, ⟨Be, trivial⟩⟩⟩)⟩)⟩)⟩)) ?_)))
 have e : Dm first B = (⟨0, false, 0, false, 0, ⟨#[]⟩, ⟨#[]⟩, ⟨#[]⟩, 0, false, 0, false, ⟨#[]⟩, ⟨#[]⟩, 0, false, false, ⟨#[]⟩, false, ⟨#[]⟩, 0, false, [], [], []⟩ : PacketV) := by
  simp only [Cw] at h6 h15 h16 h22 h47
  unfold Dm H7 F2 Lu; ((simp only [h6, h15, h16, h22, h47, h50, q48, if_true, if_false, or_true, or_false, false_or, true_or, zaa, reduceIte, and_true, and_false, true_and, false_and, Dy]; rfl))
 rw [e]
 rfl
 have dh47 := of_decide_eq_false h47
 refine Av h47 (N6 (Al (c := si (first / 16)) s5 (.here) rfl (A2 (De (Aa ((decide ((first / 16) = 9))) (fun h58 => ?_) fun h58 => ?_)))))
 have dh58 := of_decide_eq_true h58
 refine Aq h58 ?_
 have e : Dm first B = Mt (first / 16) 0 (Gn B (B.size + 1) 0 []) (C0 (first / 16) B (B.size + 1) 0 [] []) := by
  clear s0 s2 s4 s5
  simp only [Cw] at h6 h15 h16 h22 h47 h58
  unfold Dm H7 F2 Lu; ((simp only [h6, h15, h16, h22, h47, h58, if_true, if_false, or_true, or_false, false_or, true_or, zaa, reduceIte, and_true, and_false, true_and, false_and, Dy]; simp [B6, h6, h15, h16, h22, h47, h58]; omega))
 rw [e]
 have s59 := s5.nl (ty := 57) ⟨_, _, rfl, rfl⟩
 exact U7 n hn (first / 16) 0 B i1 i3 hB 0 (by omega) (B.size + 1) _ 0 [] .nl _ (by omega) (by omega) (by omega) (by omega) rfl (s59.sel (.cons (.here) (.cons Ct (.cons (.here) .nil))))
 have dh58 := of_decide_eq_false h58
 refine Av h58 ?_
 have e : Dm first B = Mt (first / 16) 0 [] (C0 (first / 16) B (B.size + 1) 0 [] []) := by
  clear s0 s2 s4 s5
  simp only [Cw] at h6 h15 h16 h22 h47 h58
  unfold Dm H7 F2 Lu; ((simp only [h6, h15, h16, h22, h47, h58, if_true, if_false, or_true, or_false, false_or, true_or, zaa, reduceIte, and_true, and_false, true_and, false_and, Dy]; simp [B6, h6, h15, h16, h22, h47, h58]; omega))
 rw [e]
 have s60 := s5.nl (ty := 57) ⟨_, _, rfl, rfl⟩
 have s61 := s60.nl (ty := 56) ⟨_, _, rfl, rfl⟩
 have s62 := s61.nl (ty := 55) ⟨_, _, rfl, rfl⟩
 exact Pg n hn (first / 16) 0 B i1 i3 hB [] (B.size + 1) _ 0 [] [] .nl .nl .nl _ (by omega) (by omega) (by omega) (by omega) rfl rfl rfl (s62.sel (.cons (.here) (.cons Ct (.cons (.here) (.cons Ct (.cons (.here) .nil))))))
 have dh15 := of_decide_eq_false h15
 refine Ac h15 (Ac h15 (Ac h15 (Es h15 (Av rfl (N6 (Al (c := si (first / 16)) s5 (.here) rfl (A2 (Aa ((decide ((first / 16) = 3))) (fun h63 => ?_) fun h63 => ?_))))))))
 have dh63 := of_decide_eq_true h63
 refine Aq h63 (Gv rfl (Ej (V2 (A7 s5 (.here) rfl rfl fun H s64 => T6 2 rfl (by decide) (Gv rfl (Pb (A7 s64 (.here) rfl rfl fun H s65 => Gv rfl (Ej (gf3 (A7 s65 (.here) rfl rfl fun H s66 => ?_))))))))))
 obtain ⟨vq67, yq67, oq67, q67⟩ : ∃ w y o, B0 B 0 = (w, y, o) := ⟨_, _, _, rfl⟩
 have bq67 := G0 q67
 refine Eg s66 rfl (.cons .ro (.cons .sc .nil)) (by have h := Lp (n + 1) (by omega) B 0 (by omega) (by omega); rw [q67] at h; exact h) rfl (Bg (Bg (Bg Ea))) ?_
 rintro _ _ H ⟨_, rfl, ⟨_, rfl, ⟨_, rfl, ⟨rfl, rfl⟩⟩⟩⟩ s68
 simp only [zag] at s68
 refine Bp (v := ss vq67) rfl (Bp (v := si yq67) rfl (Bp (v := sb oq67) rfl (B4 (Aa (oq67) (fun h69 => ?_) fun h69 => ?_))))
 refine Av (nF h69) (gf5 (A7 s68 (.here) rfl rfl fun H s70 => Pb (Al (c := si (bits .and .i64 (first / 2) 3)) s70 (.here) rfl (Ej (De (Aa ((decide (0 < (bits .and .i64 (first / 2) 3)))) (fun h71 => ?_) fun h71 => ?_))))))
 have dh71 := of_decide_eq_true h71
 refine Aq h71 ?_
 obtain ⟨wq72, yq72, oq72, q72⟩ : ∃ w y o, Bo B yq67 = (w, y, o) := ⟨_, _, _, rfl⟩
 have bq72 := Gg q72
 refine Eg s70 rfl (.cons .ro (.cons .sc .nil)) (by have h := Qs (n + 5) (by omega) B yq67 (by omega) (by omega); rw [q72] at h; exact h) rfl (Bg (Bg (Bg Ea))) ?_
 rintro _ _ H ⟨_, rfl, ⟨_, rfl, ⟨_, rfl, ⟨rfl, rfl⟩⟩⟩⟩ s73
 simp only [zag] at s73
 refine Bp (v := si wq72) rfl (Bp (v := si yq72) rfl (Bp (v := sb oq72) rfl (B4 (Aa (oq72) (fun h74 => ?_) fun h74 => ?_))))
 refine Av (nF h74) (It (A7 s73 (.here) rfl rfl fun H s75 => Gx yq72 ((B.size : Nat) : Int) rfl rfl (by omega) (by omega) (by omega) ?_))
 have z76 := zaw (a := B) (b := yq72.toNat) (e := ((B.size : Nat) : Int).toNat)
 refine Jr s75 (by omega) fun x77 H lx77 s78 => gf6 (A7 s78 Ct lx77 rfl fun H s79 => Ar s79 (.here) rfl (B9 (cs' := [si (first / 16), sb (decide (0 < (bits .and .i64 first 8))), si (bits .and .i64 (first / 2) 3), sb (decide (0 < (bits .and .i64 first 1))), si wq72, ss vq67, x77, sE, i0, bF, i0, bF, sE, .nl, i0, bF, bF, sE, bF, .nl, i0, bF, .nl, .nl, .nl]) s79 Df (Ag (Ae rfl (Ae rfl (Ae rfl (Ae rfl (Ae rfl (Ae rfl (Ae lx77 rfl)))))))) rfl (B8 rfl) rfl fun H s80 => Ar s80 (.here) rfl (Aj (B7 s80 ⟨_, rfl, rfl⟩ (D2 (.own Df (D2 (.nl (Hv (.nl (.sc (.sc (.nl (.nl (.nl .nil))))))))))) (D3 ⟨(B5 (C2 (B.extract yq72.toNat ((B.size : Nat) : Int).toNat)) (by decide)), (D3 ⟨Be, (Hw ⟨Be, (Ft ⟨Be, ⟨Be, ⟨Be, trivial⟩⟩⟩)⟩)⟩)⟩)) ?_)))
 have e : Dm first B = (⟨(first / 16), (decide (0 < (bits .and .i64 first 8))), (bits .and .i64 (first / 2) 3), (decide (0 < (bits .and .i64 first 1))), wq72, vq67, (B.extract yq72.toNat ((B.size : Nat) : Int).toNat), ⟨#[]⟩, 0, false, 0, false, ⟨#[]⟩, ⟨#[]⟩, 0, false, false, ⟨#[]⟩, false, ⟨#[]⟩, 0, false, [], [], []⟩ : PacketV) := by
  simp only [Cw] at h6 h15 h63 h71
  unfold Dm H7 F2 Lu; ((simp only [h6, h15, h63, h71, h69, h74, q67, q72, if_true, if_false, or_true, or_false, false_or, true_or, zaa, reduceIte, and_true, and_false, true_and, false_and, Dy]; rfl))
 rw [e]
 rfl
 refine Aq (nT h74) (Bf (cs := En) rfl (B9 (cs' := En) s73 Ct (Ag rfl) rfl (B8 rfl) rfl fun H s81 => Ar s81 (.here) rfl (Aj (B7 s81 ⟨_, rfl, rfl⟩ (D2 (.nl (D2 (.nl (Hv (.nl (.sc (.sc (.nl (.nl (.nl .nil))))))))))) (D3 ⟨Be, (D3 ⟨Be, (Hw ⟨Be, (Ft ⟨Be, ⟨Be, ⟨Be, trivial⟩⟩⟩)⟩)⟩)⟩)) ?_)))
 have e : Dm first B = (⟨0, false, 0, false, 0, ⟨#[]⟩, ⟨#[]⟩, ⟨#[]⟩, 0, false, 0, false, ⟨#[]⟩, ⟨#[]⟩, 0, false, false, ⟨#[]⟩, false, ⟨#[]⟩, 0, false, [], [], []⟩ : PacketV) := by
  simp only [Cw] at h6 h15 h63 h71
  unfold Dm H7 F2 Lu; ((simp only [h6, h15, h63, h71, h69, h74, q67, q72, if_true, if_false, or_true, or_false, false_or, true_or, zaa, reduceIte, and_true, and_false, true_and, false_and, Dy]; rfl))
 rw [e]
 rfl
 have dh71 := of_decide_eq_false h71
 refine Av h71 (Gx yq67 ((B.size : Nat) : Int) rfl rfl (by omega) (by omega) (by omega) ?_)
 have z82 := zaw (a := B) (b := yq67.toNat) (e := ((B.size : Nat) : Int).toNat)
 refine Jr s70 (by omega) fun x83 H lx83 s84 => gf6 (A7 s84 Ct lx83 rfl fun H s85 => Ar s85 (.here) rfl (B9 (cs' := [si (first / 16), sb (decide (0 < (bits .and .i64 first 8))), si (bits .and .i64 (first / 2) 3), sb (decide (0 < (bits .and .i64 first 1))), i0, ss vq67, x83, sE, i0, bF, i0, bF, sE, .nl, i0, bF, bF, sE, bF, .nl, i0, bF, .nl, .nl, .nl]) s85 Df (Ag (Ae rfl (Ae rfl (Ae rfl (Ae rfl (Ae rfl (Ae rfl (Ae lx83 rfl)))))))) rfl (B8 rfl) rfl fun H s86 => Ar s86 (.here) rfl (Aj (B7 s86 ⟨_, rfl, rfl⟩ (D2 (.own Df (D2 (.nl (Hv (.nl (.sc (.sc (.nl (.nl (.nl .nil))))))))))) (D3 ⟨(B5 (C2 (B.extract yq67.toNat ((B.size : Nat) : Int).toNat)) (by decide)), (D3 ⟨Be, (Hw ⟨Be, (Ft ⟨Be, ⟨Be, ⟨Be, trivial⟩⟩⟩)⟩)⟩)⟩)) ?_)))
 have e : Dm first B = (⟨(first / 16), (decide (0 < (bits .and .i64 first 8))), (bits .and .i64 (first / 2) 3), (decide (0 < (bits .and .i64 first 1))), 0, vq67, (B.extract yq67.toNat ((B.size : Nat) : Int).toNat), ⟨#[]⟩, 0, false, 0, false, ⟨#[]⟩, ⟨#[]⟩, 0, false, false, ⟨#[]⟩, false, ⟨#[]⟩, 0, false, [], [], []⟩ : PacketV) := by
  simp only [Cw] at h6 h15 h63 h71
  unfold Dm H7 F2 Lu; ((simp only [h6, h15, h63, h71, h69, q67, if_true, if_false, or_true, or_false, false_or, true_or, zaa, reduceIte, and_true, and_false, true_and, false_and, Dy]; rfl))
 rw [e]
 rfl
 refine Aq (nT h69) (Bf (cs := En) rfl (B9 (cs' := En) s68 Ct (Ag rfl) rfl (B8 rfl) rfl fun H s87 => Ar s87 (.here) rfl (Aj (B7 s87 ⟨_, rfl, rfl⟩ (D2 (.nl (D2 (.nl (Hv (.nl (.sc (.sc (.nl (.nl (.nl .nil))))))))))) (D3 ⟨Be, (D3 ⟨Be, (Hw ⟨Be, (Ft ⟨Be, ⟨Be, ⟨Be, trivial⟩⟩⟩)⟩)⟩)⟩)) ?_)))
 have e : Dm first B = (⟨0, false, 0, false, 0, ⟨#[]⟩, ⟨#[]⟩, ⟨#[]⟩, 0, false, 0, false, ⟨#[]⟩, ⟨#[]⟩, 0, false, false, ⟨#[]⟩, false, ⟨#[]⟩, 0, false, [], [], []⟩ : PacketV) := by
  simp only [Cw] at h6 h15 h63
  unfold Dm H7 F2 Lu; ((simp only [h6, h15, h63, h69, q67, if_true, if_false, or_true, or_false, false_or, true_or, zaa, reduceIte, and_true, and_false, true_and, false_and, Dy]; rfl))
 rw [e]
 rfl
 have dh63 := of_decide_eq_false h63
 refine Av h63 (N6 (Al (c := si (first / 16)) s5 (.here) rfl (Dd (De (Aa ((decide ((first / 16) < 12))) (fun h88 => ?_) fun h88 => ?_)))))
 have dh88 := of_decide_eq_true h88
 refine Aq h88 ?_
 obtain ⟨wq89, yq89, oq89, q89⟩ : ∃ w y o, Bo B 0 = (w, y, o) := ⟨_, _, _, rfl⟩
 have bq89 := Gg q89
 refine Eg s5 rfl (.cons .ro (.cons .sc .nil)) (by have h := Qs (n + 5) (by omega) B 0 (by omega) (by omega); rw [q89] at h; exact h) rfl (Bg (Bg (Bg Ea))) ?_
 rintro _ _ H ⟨_, rfl, ⟨_, rfl, ⟨_, rfl, ⟨rfl, rfl⟩⟩⟩⟩ s90
 simp only [zag] at s90
 refine Bp (v := si wq89) rfl (Bp (v := si yq89) rfl (Bp (v := sb oq89) rfl (B4 (Aa (oq89) (fun h91 => ?_) fun h91 => ?_))))
 refine Av (nF h91) (It (A7 s90 (.here) rfl rfl fun H s92 => N6 (Al (c := si (first / 16)) s92 (.here) rfl (A2 (De (Aa ((decide ((first / 16) = 9))) (fun h93 => ?_) fun h93 => ?_))))))
 have dh93 := of_decide_eq_true h93
 refine Aq h93 ?_
 have e : Dm first B = Mt (first / 16) wq89 (Gn B (B.size + 1) yq89 []) (C0 (first / 16) B (B.size + 1) yq89 [] []) := by
  simp only [Cw] at h6 h15 h63 h88 h93
  unfold Dm H7 F2 Lu; ((simp only [h6, h15, h63, h88, h93, h91, q89, if_true, if_false, or_true, or_false, false_or, true_or, zaa, reduceIte, and_true, and_false, true_and, false_and, Dy]; rfl))
 rw [e]
 have s94 := s92.nl (ty := 57) ⟨_, _, rfl, rfl⟩
 exact U7 n hn (first / 16) wq89 B i1 i3 hB yq89 (by omega) (B.size + 1) _ yq89 [] .nl _ (by omega) (by omega) (by omega) (by (simp only [zao]; omega)) rfl (s94.sel (.cons (.here) (.cons Ct (.cons (.here) .nil))))
 have dh93 := of_decide_eq_false h93
 refine Av h93 ?_
 have e : Dm first B = Mt (first / 16) wq89 [] (C0 (first / 16) B (B.size + 1) yq89 [] []) := by
  simp only [Cw] at h6 h15 h63 h88 h93
  unfold Dm H7 F2 Lu; ((simp only [h6, h15, h63, h88, h93, h91, q89, if_true, if_false, or_true, or_false, false_or, true_or, zaa, reduceIte, and_true, and_false, true_and, false_and, Dy]; done))
 rw [e]
 have s95 := s92.nl (ty := 57) ⟨_, _, rfl, rfl⟩
 have s96 := s95.nl (ty := 56) ⟨_, _, rfl, rfl⟩
 have s97 := s96.nl (ty := 55) ⟨_, _, rfl, rfl⟩
 exact Pg n hn (first / 16) wq89 B i1 i3 hB [] (B.size + 1) _ yq89 [] [] .nl .nl .nl _ (by omega) (by omega) (by omega) (by (simp only [zao]; omega)) rfl rfl rfl (s97.sel (.cons (.here) (.cons Ct (.cons (.here) (.cons Ct (.cons (.here) .nil))))))
 refine Aq (nT h91) (Bf (cs := En) rfl (B9 (cs' := En) s90 Ct (Ag rfl) rfl (B8 rfl) rfl fun H s98 => Ar s98 (.here) rfl (Aj (B7 s98 ⟨_, rfl, rfl⟩ (D2 (.nl (D2 (.nl (Hv (.nl (.sc (.sc (.nl (.nl (.nl .nil))))))))))) (D3 ⟨Be, (D3 ⟨Be, (Hw ⟨Be, (Ft ⟨Be, ⟨Be, ⟨Be, trivial⟩⟩⟩)⟩)⟩)⟩)) ?_)))
 have e : Dm first B = (⟨0, false, 0, false, 0, ⟨#[]⟩, ⟨#[]⟩, ⟨#[]⟩, 0, false, 0, false, ⟨#[]⟩, ⟨#[]⟩, 0, false, false, ⟨#[]⟩, false, ⟨#[]⟩, 0, false, [], [], []⟩ : PacketV) := by
  simp only [Cw] at h6 h15 h63 h88
  unfold Dm H7 F2 Lu; ((simp only [h6, h15, h63, h88, h91, q89, if_true, if_false, or_true, or_false, false_or, true_or, zaa, reduceIte, and_true, and_false, true_and, false_and, Dy]; rfl))
 rw [e]
 rfl
 have dh88 := of_decide_eq_false h88
 refine Av h88 (N6 (Al (c := si (first / 16)) s5 (.here) rfl (A2 (De (Aa ((decide ((first / 16) = 9))) (fun h99 => ?_) fun h99 => ?_)))))
 have dh99 := of_decide_eq_true h99
 refine Aq h99 ?_
 have e : Dm first B = Mt (first / 16) 0 (Gn B (B.size + 1) 0 []) (C0 (first / 16) B (B.size + 1) 0 [] []) := by
  clear s0 s2 s4 s5
  simp only [Cw] at h6 h15 h63 h88 h99
  unfold Dm H7 F2 Lu; ((simp only [h6, h15, h63, h88, h99, if_true, if_false, or_true, or_false, false_or, true_or, zaa, reduceIte, and_true, and_false, true_and, false_and, Dy]; simp [B6, h6, h15, h63, h88, h99]; omega))
 rw [e]
 have s100 := s5.nl (ty := 57) ⟨_, _, rfl, rfl⟩
 exact U7 n hn (first / 16) 0 B i1 i3 hB 0 (by omega) (B.size + 1) _ 0 [] .nl _ (by omega) (by omega) (by omega) (by omega) rfl (s100.sel (.cons (.here) (.cons Ct (.cons (.here) .nil))))
 have dh99 := of_decide_eq_false h99
 refine Av h99 ?_
 have e : Dm first B = Mt (first / 16) 0 [] (C0 (first / 16) B (B.size + 1) 0 [] []) := by
  simp only [Cw] at h6 h15 h63 h88 h99
  unfold Dm H7 F2 Lu; ((simp only [h6, h15, h63, h88, h99, if_true, if_false, or_true, or_false, false_or, true_or, zaa, reduceIte, and_true, and_false, true_and, false_and, Dy]; done))
 rw [e]
 have s101 := s5.nl (ty := 57) ⟨_, _, rfl, rfl⟩
 have s102 := s101.nl (ty := 56) ⟨_, _, rfl, rfl⟩
 have s103 := s102.nl (ty := 55) ⟨_, _, rfl, rfl⟩
 exact Pg n hn (first / 16) 0 B i1 i3 hB [] (B.size + 1) _ 0 [] [] .nl .nl .nl _ (by omega) (by omega) (by omega) (by (simp only [zao]; omega)) rfl rfl rfl (s103.sel (.cons (.here) (.cons Ct (.cons (.here) (.cons Ct (.cons (.here) .nil))))))
end
section
open Go
def E5 (p : PacketV) (B : ByteArray) (e : Int) : PacketV × Int × Int :=
 if !Ah p || !((Gi p).toList == (B.extract (0 : Int).toNat e.toNat).toList) then (B6 0, 0, 2) else (p, e, 0)
def E6 (rd : Int → ByteArray → PacketV) (B : ByteArray) (r : Int × Int × Int) : PacketV × Int × Int :=
 if !decide (r.2.2 = 0) then (B6 0, 0, r.2.2)
 else if decide (340 < r.1) then (B6 0, 0, 2)
 else if decide (((B.size : Nat) : Int) - r.2.1 < r.1) then (B6 0, 0, 1)
 else E5 (rd (A6 B 0) (B.extract r.2.1.toNat (r.2.1 + r.1).toNat)) B (r.2.1 + r.1)
def Fb (rd : Int → ByteArray → PacketV) (B : ByteArray) : PacketV × Int × Int :=
 if decide (((B.size : Nat) : Int) = 0) then (B6 0, 0, 1)
 else if !Dz (A6 B 0) then (B6 0, 0, 2)
 else E6 rd B (C1 B 1)
theorem AgQ (n : Nat) (hn : 1048576 < n) (B : ByteArray) (hB : B.size ≤ 1048576) : B3 E0 (n + 13) 60 33 [Af B] = some (.tup [.agg (Ap (Fb Dq B).1), .sc (.int .i64 (Fb Dq B).2.1), .sc (.int .i64 (Fb Dq B).2.2)]) := by
 rw [Au, All, f33]
 refine Ci (G := (· = some (.tup [.agg (Ap (Fb Dq B).1), .sc (.int .i64 (Fb Dq B).2.1), .sc (.int .i64 (Fb Dq B).2.2)]))) ?_
 try simp only [Fd, Fc]
 have s0 : Sep [] [] := Cb
 refine Id s0 fun i1 H s2 => Cn (A2 (Aa ((decide (((B.size : Nat) : Int) = 0))) (fun h3 => ?_) fun h3 => ?_))
 have dh3 := of_decide_eq_true h3
 refine Aq h3 (Bf (cs := En) rfl (B9 (cs' := En) s2 (.here) (Ag rfl) rfl (B8 rfl) rfl fun H s4 => Ar s4 (.here) rfl (Aj (Cd s4 rfl (.agg ⟨_, rfl, rfl⟩ (D2 (.nl (D2 (.nl (Hv (.nl (.sc (.sc (.nl (.nl (.nl .nil))))))))))) (.sc (.sc .nil))) ⟨(Mu ⟨_, rfl, rfl⟩ (D3 ⟨Be, (D3 ⟨Be, (Hw ⟨Be, (Ft ⟨Be, ⟨Be, ⟨Be, trivial⟩⟩⟩)⟩)⟩)⟩)), (Ft trivial)⟩) ?_)))
 have e : Fb Dq B = ((B6 0), 0, 1) := by
  unfold Fb E6 E5; simp only [h3, if_true, if_false, zaa, reduceIte, Dy]
 rw [e]
 rfl
 have dh3 := of_decide_eq_false h3
 refine Av h3 ?_
 have w5 := D4 B 0
 refine Gw (by omega) (by omega) fun _ => Fh (c := su (A6 B 0)) rfl (Le (by omega) (by omega) (Ao (v := (.bool (Dz (A6 B 0)))) s2 rfl (.cons .sc .nil) (AbQ (n + 10) (by omega) (A6 B 0) (by omega)) (B4 (Aa ((Dz (A6 B 0))) (fun h6 => ?_) fun h6 => ?_))))
 refine Av (nF h6) ?_
 obtain ⟨nq7, yq7, cq7, q7⟩ : ∃ w y o, C1 B 1 = (w, y, o) := ⟨_, _, _, rfl⟩
 have bq7 := Rs (B := B) (a := 1)
 rw [q7] at bq7
 dsimp only at bq7
 refine Eg s2 rfl (.cons .ro (.cons .sc .nil)) (by have h := Ajv (n + 10) (by omega) B 1 (by omega) (by omega); rw [q7] at h; exact h) rfl (Bg (Bg (Bg Ea))) ?_
 rintro _ _ H ⟨_, rfl, ⟨_, rfl, ⟨_, rfl, ⟨rfl, rfl⟩⟩⟩⟩ s8
 simp only [zag] at s8
 refine Bp (v := si nq7) rfl (Bp (v := si yq7) rfl (Bp (v := si cq7) rfl (M4 (Aa ((decide (cq7 = 0))) (fun h9 => ?_) fun h9 => ?_))))
 have dh9 := of_decide_eq_true h9
 replace bq7 := bq7 (of_decide_eq_true h9)
 refine Av (nF h9) (Ej (Aa ((decide (340 < nq7))) (fun h10 => ?_) fun h10 => ?_))
 have dh10 := of_decide_eq_true h10
 refine Aq h10 (Bf (cs := En) rfl (B9 (cs' := En) s8 (.here) (Ag rfl) rfl (B8 rfl) rfl fun H s11 => Ar s11 (.here) rfl (Aj (Cd s11 rfl (.agg ⟨_, rfl, rfl⟩ (D2 (.nl (D2 (.nl (Hv (.nl (.sc (.sc (.nl (.nl (.nl .nil))))))))))) (.sc (.sc .nil))) ⟨(Mu ⟨_, rfl, rfl⟩ (D3 ⟨Be, (D3 ⟨Be, (Hw ⟨Be, (Ft ⟨Be, ⟨Be, ⟨Be, trivial⟩⟩⟩)⟩)⟩)⟩)), (Ft trivial)⟩) ?_)))
 have e : Fb Dq B = ((B6 0), 0, 2) := by
  unfold Fb E6 E5; simp only [h3, h6, h9, h10, q7, if_true, if_false, zaa, reduceIte, Dy]
 rw [e]
 rfl
 have dh10 := of_decide_eq_false h10
 refine Av h10 (Cn (Pt (by omega) (by omega) (Ej (Aa ((decide ((((B.size : Nat) : Int) - yq7) < nq7))) (fun h12 => ?_) fun h12 => ?_))))
 have dh12 := of_decide_eq_true h12
 refine Aq h12 (Bf (cs := En) rfl (B9 (cs' := En) s8 (.here) (Ag rfl) rfl (B8 rfl) rfl fun H s13 => Ar s13 (.here) rfl (Aj (Cd s13 rfl (.agg ⟨_, rfl, rfl⟩ (D2 (.nl (D2 (.nl (Hv (.nl (.sc (.sc (.nl (.nl (.nl .nil))))))))))) (.sc (.sc .nil))) ⟨(Mu ⟨_, rfl, rfl⟩ (D3 ⟨Be, (D3 ⟨Be, (Hw ⟨Be, (Ft ⟨Be, ⟨Be, ⟨Be, trivial⟩⟩⟩)⟩)⟩)⟩)), (Ft trivial)⟩) ?_)))
 have e : Fb Dq B = ((B6 0), 0, 1) := by
  unfold Fb E6 E5; simp only [h3, h6, h9, h10, h12, q7, if_true, if_false, zaa, reduceIte, Dy]
 rw [e]
 rfl
 have dh12 := of_decide_eq_false h12
 refine Av h12 ?_
 have w14 := D4 B 0
 refine Gw (by omega) (by omega) fun _ => Fh (c := su (A6 B 0)) rfl (Le (by omega) (by omega) (Bx (by omega) (by omega) (Gx yq7 (yq7 + nq7) rfl rfl (by omega) (by omega) (by omega) ?_)))
 have z15 := zaw (a := B) (b := yq7.toNat) (e := (yq7 + nq7).toNat)
 refine De (Gd.bothE ?_ ?_)
 have hR : (B.extract yq7.toNat (yq7 + nq7).toNat).size ≤ 340 := by rw [zaw]; omega
 have hbd := Ak9 (A6 B 0) (B.extract yq7.toNat (yq7 + nq7).toNat) hR
 have hyp := hbd.hyp (by decide)
 refine Sa s8 rfl (.cons .sc (.cons .ro .nil)) (AkD (n + 1) (by omega) (A6 B 0) (B.extract yq7.toNat (yq7 + nq7).toNat) (by omega) (by omega)) ⟨_, rfl, rfl⟩ (Kg _) ?_
 rintro _ _ H ⟨x16, x17, x18, x19, x20, x21, lx16, lx17, lx18, lx19, lx20, lx21, rfl, rfl⟩ s22
 simp only [zag, zau] at s22
 refine Id s22 fun i23 H s24 => B9 (cs' := [si ((Dq (A6 B 0) (B.extract yq7.toNat (yq7 + nq7).toNat)).fType), .sc (.bool (Dq (A6 B 0) (B.extract yq7.toNat (yq7 + nq7).toNat)).fDup), si ((Dq (A6 B 0) (B.extract yq7.toNat (yq7 + nq7).toNat)).fQos), .sc (.bool (Dq (A6 B 0) (B.extract yq7.toNat (yq7 + nq7).toNat)).fRetain), si ((Dq (A6 B 0) (B.extract yq7.toNat (yq7 + nq7).toNat)).fId), ss ((Dq (A6 B 0) (B.extract yq7.toNat (yq7 + nq7).toNat)).fTopic), x16, ss ((Dq (A6 B 0) (B.extract yq7.toNat (yq7 + nq7).toNat)).fClient), si ((Dq (A6 B 0) (B.extract yq7.toNat (yq7 + nq7).toNat)).fLevel), .sc (.bool (Dq (A6 B 0) (B.extract yq7.toNat (yq7 + nq7).toNat)).fClean), si ((Dq (A6 B 0) (B.extract yq7.toNat (yq7 + nq7).toNat)).fKeep), .sc (.bool (Dq (A6 B 0) (B.extract yq7.toNat (yq7 + nq7).toNat)).fHasWill), ss ((Dq (A6 B 0) (B.extract yq7.toNat (yq7 + nq7).toNat)).fWTopic), x17, si ((Dq (A6 B 0) (B.extract yq7.toNat (yq7 + nq7).toNat)).fWQos), .sc (.bool (Dq (A6 B 0) (B.extract yq7.toNat (yq7 + nq7).toNat)).fWRetain), .sc (.bool (Dq (A6 B 0) (B.extract yq7.toNat (yq7 + nq7).toNat)).fHasUser), ss ((Dq (A6 B 0) (B.extract yq7.toNat (yq7 + nq7).toNat)).fUser), .sc (.bool (Dq (A6 B 0) (B.extract yq7.toNat (yq7 + nq7).toNat)).fHasPass), x18, si ((Dq (A6 B 0) (B.extract yq7.toNat (yq7 + nq7).toNat)).fCode), .sc (.bool (Dq (A6 B 0) (B.extract yq7.toNat (yq7 + nq7).toNat)).fPresent), x19, x20, x21]) s24 (.here) (Ag (Ae rfl (Ae rfl (Ae rfl (Ae rfl (Ae rfl (Ae rfl (Ae lx16 (Ae rfl (Ae rfl (Ae rfl (Ae rfl (Ae rfl (Ae rfl (Ae lx17 (Ae rfl (Ae rfl (Ae rfl (Ae rfl (Ae rfl (Ae lx18 (Ae rfl (Ae rfl (Ae lx19 (Ae lx20 (Ae lx21 rfl)))))))))))))))))))))))))) rfl (B8 rfl) rfl fun H s25 => Ar s25 (.here) rfl ?_
 refine Ao (v := (.bool (Ah (Dq (A6 B 0) (B.extract yq7.toNat (yq7 + nq7).toNat))))) s25 rfl (.agg (Gs (.cons (.own (by decide) Z7) (Gs (.cons (.own (by decide) Xp) (Mv (.cons (.own (by decide) Nk) (Ir (.cons (.own (by decide) Nj) (.cons (.own (by decide) Df) (.cons (.own (by decide) Ct) .nil)))))))))) .nil) (Qj (n + 2) (by omega) (Dq (A6 B 0) (B.extract yq7.toNat (yq7 + nq7).toNat)) hyp) (B4 (Aa ((Ah (Dq (A6 B 0) (B.extract yq7.toNat (yq7 + nq7).toNat)))) (fun h26 => ?_) fun h26 => ?_))
 refine Ad (nF h26) (Ar s25 (.here) rfl (Ad (nF h26) (Ad (nF h26) (Ad (nF h26) (Ad (nF h26) (Bx (by omega) (by omega) (Ad (nF h26) (Gx 0 (yq7 + nq7) rfl rfl (by omega) (by omega) (by omega) ?_))))))))
 have z27 := zaw (a := B) (b := (0 : Int).toNat) (e := (yq7 + nq7).toNat)
 refine Ad (nF h26) (Ca s25 rfl (.agg (Gs (.cons (.own (by decide) Z7) (Gs (.cons (.own (by decide) Xp) (Mv (.cons (.own (by decide) Nk) (Ir (.cons (.own (by decide) Nj) (.cons (.own (by decide) Df) (.cons (.own (by decide) Ct) .nil)))))))))) .nil) (Aa7 (n + 1) (by omega) (Dq (A6 B 0) (B.extract yq7.toNat (yq7 + nq7).toNat)) hyp (za9 hbd.b1 (by decide)) (za9 hbd.b2 (by decide)) (za9 hbd.b3 (by decide))) (C2 (Gi (Dq (A6 B 0) (B.extract yq7.toNat (yq7 + nq7).toNat)))) fun x28 H lx28 s29 => Ad (nF h26) (Ao (v := (.bool ((Gi (Dq (A6 B 0) (B.extract yq7.toNat (yq7 + nq7).toNat))).toList == (B.extract (0 : Int).toNat (yq7 + nq7).toNat).toList))) s29 rfl (.cons (.own (by decide) (.here)) (.cons .ro .nil)) (Jf (n + 11) _ (Gi (Dq (A6 B 0) (B.extract yq7.toNat (yq7 + nq7).toNat))) (B.extract (0 : Int).toNat (yq7 + nq7).toNat)) (Ad (nF h26) (B4 (Es (nF h26) (Aa (((Gi (Dq (A6 B 0) (B.extract yq7.toNat (yq7 + nq7).toNat))).toList == (B.extract (0 : Int).toNat (yq7 + nq7).toNat).toList)) (fun h30 => ?_) fun h30 => ?_))))))
 refine Av (nF h30) (Ar s29 Ct rfl (Bx (by omega) (by omega) (B9 (cs' := [si ((Dq (A6 B 0) (B.extract yq7.toNat (yq7 + nq7).toNat)).fType), .sc (.bool (Dq (A6 B 0) (B.extract yq7.toNat (yq7 + nq7).toNat)).fDup), si ((Dq (A6 B 0) (B.extract yq7.toNat (yq7 + nq7).toNat)).fQos), .sc (.bool (Dq (A6 B 0) (B.extract yq7.toNat (yq7 + nq7).toNat)).fRetain), si ((Dq (A6 B 0) (B.extract yq7.toNat (yq7 + nq7).toNat)).fId), ss ((Dq (A6 B 0) (B.extract yq7.toNat (yq7 + nq7).toNat)).fTopic), x16, ss ((Dq (A6 B 0) (B.extract yq7.toNat (yq7 + nq7).toNat)).fClient), si ((Dq (A6 B 0) (B.extract yq7.toNat (yq7 + nq7).toNat)).fLevel), .sc (.bool (Dq (A6 B 0) (B.extract yq7.toNat (yq7 + nq7).toNat)).fClean), si ((Dq (A6 B 0) (B.extract yq7.toNat (yq7 + nq7).toNat)).fKeep), .sc (.bool (Dq (A6 B 0) (B.extract yq7.toNat (yq7 + nq7).toNat)).fHasWill), ss ((Dq (A6 B 0) (B.extract yq7.toNat (yq7 + nq7).toNat)).fWTopic), x17, si ((Dq (A6 B 0) (B.extract yq7.toNat (yq7 + nq7).toNat)).fWQos), .sc (.bool (Dq (A6 B 0) (B.extract yq7.toNat (yq7 + nq7).toNat)).fWRetain), .sc (.bool (Dq (A6 B 0) (B.extract yq7.toNat (yq7 + nq7).toNat)).fHasUser), ss ((Dq (A6 B 0) (B.extract yq7.toNat (yq7 + nq7).toNat)).fUser), .sc (.bool (Dq (A6 B 0) (B.extract yq7.toNat (yq7 + nq7).toNat)).fHasPass), x18, si ((Dq (A6 B 0) (B.extract yq7.toNat (yq7 + nq7).toNat)).fCode), .sc (.bool (Dq (A6 B 0) (B.extract yq7.toNat (yq7 + nq7).toNat)).fPresent), x19, x20, x21]) s29 zP8 (Ag (Ae rfl (Ae rfl (Ae rfl (Ae rfl (Ae rfl (Ae rfl (Ae lx16 (Ae rfl (Ae rfl (Ae rfl (Ae rfl (Ae rfl (Ae rfl (Ae lx17 (Ae rfl (Ae rfl (Ae rfl (Ae rfl (Ae rfl (Ae lx18 (Ae rfl (Ae rfl (Ae lx19 (Ae lx20 (Ae lx21 rfl)))))))))))))))))))))))))) rfl (B8 rfl) rfl fun H s31 => Ar s31 (.here) rfl ?_)))
 refine Aj (Cd s31 rfl (.agg ⟨_, rfl, rfl⟩ (D2 (.own zP8 (D2 (.own zP7 (Hv (.own Z7 (.sc (.sc (.own Xp (.own Nk (.own Nj .nil))))))))))) (.sc (.sc .nil))) ⟨(Mu ⟨_, rfl, rfl⟩ (D3 ⟨(B5 (C2 ((Dq (A6 B 0) (B.extract yq7.toNat (yq7 + nq7).toNat)).fBody)) (by decide)), (D3 ⟨(B5 (C2 ((Dq (A6 B 0) (B.extract yq7.toNat (yq7 + nq7).toNat)).fWBody)) (by decide)), (Hw ⟨(B5 (C2 ((Dq (A6 B 0) (B.extract yq7.toNat (yq7 + nq7).toNat)).fPass)) (by decide)), (Ft ⟨(B5 (Lo ((Dq (A6 B 0) (B.extract yq7.toNat (yq7 + nq7).toNat)).fWants)) (by decide)), ⟨(B5 (Wk ((Dq (A6 B 0) (B.extract yq7.toNat (yq7 + nq7).toNat)).fNames)) (by decide)), ⟨(B5 (Zp ((Dq (A6 B 0) (B.extract yq7.toNat (yq7 + nq7).toNat)).fCodes)) (by decide)), trivial⟩⟩⟩)⟩)⟩)⟩)), (Ft trivial)⟩) ?_
 have e : Fb Dq B = ((Dq (A6 B 0) (B.extract yq7.toNat (yq7 + nq7).toNat)), (yq7 + nq7), 0) := by
  unfold Fb E6 E5; simp only [h3, h6, h9, h10, h12, h26, h30, q7, if_true, if_false, zaa, reduceIte, Dy]
 rw [e]
 rfl
 refine Aq (nT h30) (Bf (cs := En) rfl (B9 (cs' := En) s29 zP8 (Ag rfl) rfl (B8 rfl) rfl fun H s32 => Ar s32 (.here) rfl (Aj (Cd s32 rfl (.agg ⟨_, rfl, rfl⟩ (D2 (.nl (D2 (.nl (Hv (.nl (.sc (.sc (.nl (.nl (.nl .nil))))))))))) (.sc (.sc .nil))) ⟨(Mu ⟨_, rfl, rfl⟩ (D3 ⟨Be, (D3 ⟨Be, (Hw ⟨Be, (Ft ⟨Be, ⟨Be, ⟨Be, trivial⟩⟩⟩)⟩)⟩)⟩)), (Ft trivial)⟩) ?_)))
 have e : Fb Dq B = ((B6 0), 0, 2) := by
  unfold Fb E6 E5; simp only [h3, h6, h9, h10, h12, h26, h30, q7, if_true, if_false, zaa, reduceIte, Dy]
 rw [e]
 rfl
 refine Ac (nT h26) (Ac (nT h26) (Ac (nT h26) (Ac (nT h26) (Ac (nT h26) (Ac (nT h26) (Ac (nT h26) (Ac (nT h26) (Ac (nT h26) (Ev (nT h26) (Aq rfl (Bf (cs := En) rfl (B9 (cs' := En) s25 zP7 (Ag rfl) rfl (B8 rfl) rfl fun H s33 => Ar s33 (.here) rfl (Aj (Cd s33 rfl (.agg ⟨_, rfl, rfl⟩ (D2 (.nl (D2 (.nl (Hv (.nl (.sc (.sc (.nl (.nl (.nl .nil))))))))))) (.sc (.sc .nil))) ⟨(Mu ⟨_, rfl, rfl⟩ (D3 ⟨Be, (D3 ⟨Be, (Hw ⟨Be, (Ft ⟨Be, ⟨Be, ⟨Be, trivial⟩⟩⟩)⟩)⟩)⟩)), (Ft trivial)⟩) ?_)))))))))))))
 have e : Fb Dq B = ((B6 0), 0, 2) := by
  unfold Fb E6 E5; simp only [h3, h6, h9, h10, h12, h26, q7, if_true, if_false, zaa, reduceIte, Dy]
 rw [e]
 rfl
 refine Id s8 fun i34 H s35 => ?_
 have hR : (B.extract yq7.toNat (yq7 + nq7).toNat).size ≤ 340 := by rw [zaw]; omega
 have hbd := Ak9 (A6 B 0) (B.extract yq7.toNat (yq7 + nq7).toNat) hR
 have hyp := hbd.hyp (by decide)
 refine Sa s35 rfl (.cons .sc (.cons .ro .nil)) (AkD (n + 1) (by omega) (A6 B 0) (B.extract yq7.toNat (yq7 + nq7).toNat) (by omega) (by omega)) ⟨_, rfl, rfl⟩ (Kg _) ?_
 rintro _ _ H ⟨x36, x37, x38, x39, x40, x41, lx36, lx37, lx38, lx39, lx40, lx41, rfl, rfl⟩ s42
 simp only [zag, zau] at s42
 refine B9 (cs' := [si ((Dq (A6 B 0) (B.extract yq7.toNat (yq7 + nq7).toNat)).fType), .sc (.bool (Dq (A6 B 0) (B.extract yq7.toNat (yq7 + nq7).toNat)).fDup), si ((Dq (A6 B 0) (B.extract yq7.toNat (yq7 + nq7).toNat)).fQos), .sc (.bool (Dq (A6 B 0) (B.extract yq7.toNat (yq7 + nq7).toNat)).fRetain), si ((Dq (A6 B 0) (B.extract yq7.toNat (yq7 + nq7).toNat)).fId), ss ((Dq (A6 B 0) (B.extract yq7.toNat (yq7 + nq7).toNat)).fTopic), x36, ss ((Dq (A6 B 0) (B.extract yq7.toNat (yq7 + nq7).toNat)).fClient), si ((Dq (A6 B 0) (B.extract yq7.toNat (yq7 + nq7).toNat)).fLevel), .sc (.bool (Dq (A6 B 0) (B.extract yq7.toNat (yq7 + nq7).toNat)).fClean), si ((Dq (A6 B 0) (B.extract yq7.toNat (yq7 + nq7).toNat)).fKeep), .sc (.bool (Dq (A6 B 0) (B.extract yq7.toNat (yq7 + nq7).toNat)).fHasWill), ss ((Dq (A6 B 0) (B.extract yq7.toNat (yq7 + nq7).toNat)).fWTopic), x37, si ((Dq (A6 B 0) (B.extract yq7.toNat (yq7 + nq7).toNat)).fWQos), .sc (.bool (Dq (A6 B 0) (B.extract yq7.toNat (yq7 + nq7).toNat)).fWRetain), .sc (.bool (Dq (A6 B 0) (B.extract yq7.toNat (yq7 + nq7).toNat)).fHasUser), ss ((Dq (A6 B 0) (B.extract yq7.toNat (yq7 + nq7).toNat)).fUser), .sc (.bool (Dq (A6 B 0) (B.extract yq7.toNat (yq7 + nq7).toNat)).fHasPass), x38, si ((Dq (A6 B 0) (B.extract yq7.toNat (yq7 + nq7).toNat)).fCode), .sc (.bool (Dq (A6 B 0) (B.extract yq7.toNat (yq7 + nq7).toNat)).fPresent), x39, x40, x41]) s42 Z7 (Ag (Ae rfl (Ae rfl (Ae rfl (Ae rfl (Ae rfl (Ae rfl (Ae lx36 (Ae rfl (Ae rfl (Ae rfl (Ae rfl (Ae rfl (Ae rfl (Ae lx37 (Ae rfl (Ae rfl (Ae rfl (Ae rfl (Ae rfl (Ae lx38 (Ae rfl (Ae rfl (Ae lx39 (Ae lx40 (Ae lx41 rfl)))))))))))))))))))))))))) rfl (B8 rfl) rfl fun H s43 => Ar s43 (.here) rfl ?_
 refine Ao (v := (.bool (Ah (Dq (A6 B 0) (B.extract yq7.toNat (yq7 + nq7).toNat))))) s43 rfl (.agg (Gs (.cons (.own (by decide) Z7) (Gs (.cons (.own (by decide) Xp) (Mv (.cons (.own (by decide) Nk) (Ir (.cons (.own (by decide) Nj) (.cons (.own (by decide) Df) (.cons (.own (by decide) Ct) .nil)))))))))) .nil) (Qj (n + 2) (by omega) (Dq (A6 B 0) (B.extract yq7.toNat (yq7 + nq7).toNat)) hyp) (B4 (Aa ((Ah (Dq (A6 B 0) (B.extract yq7.toNat (yq7 + nq7).toNat)))) (fun h44 => ?_) fun h44 => ?_))
 refine Ad (nF h44) (Ar s43 (.here) rfl (Ad (nF h44) (Ad (nF h44) (Ad (nF h44) (Ad (nF h44) (Bx (by omega) (by omega) (Ad (nF h44) (Gx 0 (yq7 + nq7) rfl rfl (by omega) (by omega) (by omega) ?_))))))))
 have z45 := zaw (a := B) (b := (0 : Int).toNat) (e := (yq7 + nq7).toNat)
 refine Ad (nF h44) (Ca s43 rfl (.agg (Gs (.cons (.own (by decide) Z7) (Gs (.cons (.own (by decide) Xp) (Mv (.cons (.own (by decide) Nk) (Ir (.cons (.own (by decide) Nj) (.cons (.own (by decide) Df) (.cons (.own (by decide) Ct) .nil)))))))))) .nil) (Aa7 (n + 1) (by omega) (Dq (A6 B 0) (B.extract yq7.toNat (yq7 + nq7).toNat)) hyp (za9 hbd.b1 (by decide)) (za9 hbd.b2 (by decide)) (za9 hbd.b3 (by decide))) (C2 (Gi (Dq (A6 B 0) (B.extract yq7.toNat (yq7 + nq7).toNat)))) fun x46 H lx46 s47 => Ad (nF h44) (Ao (v := (.bool ((Gi (Dq (A6 B 0) (B.extract yq7.toNat (yq7 + nq7).toNat))).toList == (B.extract (0 : Int).toNat (yq7 + nq7).toNat).toList))) s47 rfl (.cons (.own (by decide) (.here)) (.cons .ro .nil)) (Jf (n + 11) _ (Gi (Dq (A6 B 0) (B.extract yq7.toNat (yq7 + nq7).toNat))) (B.extract (0 : Int).toNat (yq7 + nq7).toNat)) (Ad (nF h44) (B4 (Es (nF h44) (Aa (((Gi (Dq (A6 B 0) (B.extract yq7.toNat (yq7 + nq7).toNat))).toList == (B.extract (0 : Int).toNat (yq7 + nq7).toNat).toList)) (fun h48 => ?_) fun h48 => ?_))))))
 refine Av (nF h48) (Ar s47 Ct rfl (Bx (by omega) (by omega) (B9 (cs' := [si ((Dq (A6 B 0) (B.extract yq7.toNat (yq7 + nq7).toNat)).fType), .sc (.bool (Dq (A6 B 0) (B.extract yq7.toNat (yq7 + nq7).toNat)).fDup), si ((Dq (A6 B 0) (B.extract yq7.toNat (yq7 + nq7).toNat)).fQos), .sc (.bool (Dq (A6 B 0) (B.extract yq7.toNat (yq7 + nq7).toNat)).fRetain), si ((Dq (A6 B 0) (B.extract yq7.toNat (yq7 + nq7).toNat)).fId), ss ((Dq (A6 B 0) (B.extract yq7.toNat (yq7 + nq7).toNat)).fTopic), x36, ss ((Dq (A6 B 0) (B.extract yq7.toNat (yq7 + nq7).toNat)).fClient), si ((Dq (A6 B 0) (B.extract yq7.toNat (yq7 + nq7).toNat)).fLevel), .sc (.bool (Dq (A6 B 0) (B.extract yq7.toNat (yq7 + nq7).toNat)).fClean), si ((Dq (A6 B 0) (B.extract yq7.toNat (yq7 + nq7).toNat)).fKeep), .sc (.bool (Dq (A6 B 0) (B.extract yq7.toNat (yq7 + nq7).toNat)).fHasWill), ss ((Dq (A6 B 0) (B.extract yq7.toNat (yq7 + nq7).toNat)).fWTopic), x37, si ((Dq (A6 B 0) (B.extract yq7.toNat (yq7 + nq7).toNat)).fWQos), .sc (.bool (Dq (A6 B 0) (B.extract yq7.toNat (yq7 + nq7).toNat)).fWRetain), .sc (.bool (Dq (A6 B 0) (B.extract yq7.toNat (yq7 + nq7).toNat)).fHasUser), ss ((Dq (A6 B 0) (B.extract yq7.toNat (yq7 + nq7).toNat)).fUser), .sc (.bool (Dq (A6 B 0) (B.extract yq7.toNat (yq7 + nq7).toNat)).fHasPass), x38, si ((Dq (A6 B 0) (B.extract yq7.toNat (yq7 + nq7).toNat)).fCode), .sc (.bool (Dq (A6 B 0) (B.extract yq7.toNat (yq7 + nq7).toNat)).fPresent), x39, x40, x41]) s47 zP8 (Ag (Ae rfl (Ae rfl (Ae rfl (Ae rfl (Ae rfl (Ae rfl (Ae lx36 (Ae rfl (Ae rfl (Ae rfl (Ae rfl (Ae rfl (Ae rfl (Ae lx37 (Ae rfl (Ae rfl (Ae rfl (Ae rfl (Ae rfl (Ae lx38 (Ae rfl (Ae rfl (Ae lx39 (Ae lx40 (Ae lx41 rfl)))))))))))))))))))))))))) rfl (B8 rfl) rfl fun H s49 => Ar s49 (.here) rfl ?_)))
 refine Aj (Cd s49 rfl (.agg ⟨_, rfl, rfl⟩ (D2 (.own zP8 (D2 (.own zP7 (Hv (.own Z7 (.sc (.sc (.own Xp (.own Nk (.own Nj .nil))))))))))) (.sc (.sc .nil))) ⟨(Mu ⟨_, rfl, rfl⟩ (D3 ⟨(B5 (C2 ((Dq (A6 B 0) (B.extract yq7.toNat (yq7 + nq7).toNat)).fBody)) (by decide)), (D3 ⟨(B5 (C2 ((Dq (A6 B 0) (B.extract yq7.toNat (yq7 + nq7).toNat)).fWBody)) (by decide)), (Hw ⟨(B5 (C2 ((Dq (A6 B 0) (B.extract yq7.toNat (yq7 + nq7).toNat)).fPass)) (by decide)), (Ft ⟨(B5 (Lo ((Dq (A6 B 0) (B.extract yq7.toNat (yq7 + nq7).toNat)).fWants)) (by decide)), ⟨(B5 (Wk ((Dq (A6 B 0) (B.extract yq7.toNat (yq7 + nq7).toNat)).fNames)) (by decide)), ⟨(B5 (Zp ((Dq (A6 B 0) (B.extract yq7.toNat (yq7 + nq7).toNat)).fCodes)) (by decide)), trivial⟩⟩⟩)⟩)⟩)⟩)), (Ft trivial)⟩) ?_
 have e : Fb Dq B = ((Dq (A6 B 0) (B.extract yq7.toNat (yq7 + nq7).toNat)), (yq7 + nq7), 0) := by
  unfold Fb E6 E5; simp only [h3, h6, h9, h10, h12, h44, h48, q7, if_true, if_false, zaa, reduceIte, Dy]
 rw [e]
 rfl
 refine Aq (nT h48) (Bf (cs := En) rfl (B9 (cs' := En) s47 zP8 (Ag rfl) rfl (B8 rfl) rfl fun H s50 => Ar s50 (.here) rfl (Aj (Cd s50 rfl (.agg ⟨_, rfl, rfl⟩ (D2 (.nl (D2 (.nl (Hv (.nl (.sc (.sc (.nl (.nl (.nl .nil))))))))))) (.sc (.sc .nil))) ⟨(Mu ⟨_, rfl, rfl⟩ (D3 ⟨Be, (D3 ⟨Be, (Hw ⟨Be, (Ft ⟨Be, ⟨Be, ⟨Be, trivial⟩⟩⟩)⟩)⟩)⟩)), (Ft trivial)⟩) ?_)))
 have e : Fb Dq B = ((B6 0), 0, 2) := by
  unfold Fb E6 E5; simp only [h3, h6, h9, h10, h12, h44, h48, q7, if_true, if_false, zaa, reduceIte, Dy]
 rw [e]
 rfl
 refine Ac (nT h44) (Ac (nT h44) (Ac (nT h44) (Ac (nT h44) (Ac (nT h44) (Ac (nT h44) (Ac (nT h44) (Ac (nT h44) (Ac (nT h44) (Ev (nT h44) (Aq rfl (Bf (cs := En) rfl (B9 (cs' := En) s43 zP7 (Ag rfl) rfl (B8 rfl) rfl fun H s51 => Ar s51 (.here) rfl (Aj (Cd s51 rfl (.agg ⟨_, rfl, rfl⟩ (D2 (.nl (D2 (.nl (Hv (.nl (.sc (.sc (.nl (.nl (.nl .nil))))))))))) (.sc (.sc .nil))) ⟨(Mu ⟨_, rfl, rfl⟩ (D3 ⟨Be, (D3 ⟨Be, (Hw ⟨Be, (Ft ⟨Be, ⟨Be, ⟨Be, trivial⟩⟩⟩)⟩)⟩)⟩)), (Ft trivial)⟩) ?_)))))))))))))
 have e : Fb Dq B = ((B6 0), 0, 2) := by
  unfold Fb E6 E5; simp only [h3, h6, h9, h10, h12, h44, q7, if_true, if_false, zaa, reduceIte, Dy]
 rw [e]
 rfl
 have dh9 := of_decide_eq_false h9
 refine Aq (nT h9) (Bf (cs := En) rfl (B9 (cs' := En) s8 (.here) (Ag rfl) rfl (B8 rfl) rfl fun H s52 => Ar s52 (.here) rfl (Aj (Cd s52 rfl (.agg ⟨_, rfl, rfl⟩ (D2 (.nl (D2 (.nl (Hv (.nl (.sc (.sc (.nl (.nl (.nl .nil))))))))))) (.sc (.sc .nil))) ⟨(Mu ⟨_, rfl, rfl⟩ (D3 ⟨Be, (D3 ⟨Be, (Hw ⟨Be, (Ft ⟨Be, ⟨Be, ⟨Be, trivial⟩⟩⟩)⟩)⟩)⟩)), (Ft trivial)⟩) ?_)))
 have e : Fb Dq B = ((B6 0), 0, cq7) := by
  unfold Fb E6 E5; simp only [h3, h6, h9, q7, if_true, if_false, zaa, reduceIte, Dy]
 rw [e]
 rfl
 refine Aq (nT h6) (Bf (cs := En) rfl (B9 (cs' := En) s2 (.here) (Ag rfl) rfl (B8 rfl) rfl fun H s53 => Ar s53 (.here) rfl (Aj (Cd s53 rfl (.agg ⟨_, rfl, rfl⟩ (D2 (.nl (D2 (.nl (Hv (.nl (.sc (.sc (.nl (.nl (.nl .nil))))))))))) (.sc (.sc .nil))) ⟨(Mu ⟨_, rfl, rfl⟩ (D3 ⟨Be, (D3 ⟨Be, (Hw ⟨Be, (Ft ⟨Be, ⟨Be, ⟨Be, trivial⟩⟩⟩)⟩)⟩)⟩)), (Ft trivial)⟩) ?_)))
 have e : Fb Dq B = ((B6 0), 0, 2) := by
  unfold Fb E6 E5; simp only [h3, h6, if_true, if_false, zaa, reduceIte, Dy]
 rw [e]
 rfl
theorem Ah0 (n : Nat) (hn : 1048576 < n) (B : ByteArray) (hB : B.size ≤ 1048576) : B3 E0 (n + 13) 60 31 [Af B] = some (.tup [.agg (Ap (Fb Dm B).1), .sc (.int .i64 (Fb Dm B).2.1), .sc (.int .i64 (Fb Dm B).2.2)]) := by
 rw [Au, Alj, f31]
 refine Ci (G := (· = some (.tup [.agg (Ap (Fb Dm B).1), .sc (.int .i64 (Fb Dm B).2.1), .sc (.int .i64 (Fb Dm B).2.2)]))) ?_
 try simp only [Fd, Fc]
 have s0 : Sep [] [] := Cb
 refine Id s0 fun i1 H s2 => Cn (A2 (Aa ((decide (((B.size : Nat) : Int) = 0))) (fun h3 => ?_) fun h3 => ?_))
 have dh3 := of_decide_eq_true h3
 refine Aq h3 (Bf (cs := En) rfl (B9 (cs' := En) s2 (.here) (Ag rfl) rfl (B8 rfl) rfl fun H s4 => Ar s4 (.here) rfl (Aj (Cd s4 rfl (.agg ⟨_, rfl, rfl⟩ (D2 (.nl (D2 (.nl (Hv (.nl (.sc (.sc (.nl (.nl (.nl .nil))))))))))) (.sc (.sc .nil))) ⟨(Mu ⟨_, rfl, rfl⟩ (D3 ⟨Be, (D3 ⟨Be, (Hw ⟨Be, (Ft ⟨Be, ⟨Be, ⟨Be, trivial⟩⟩⟩)⟩)⟩)⟩)), (Ft trivial)⟩) ?_)))
 have e : Fb Dm B = ((B6 0), 0, 1) := by
  unfold Fb E6 E5; simp only [h3, if_true, if_false, zaa, reduceIte, Dy]
 rw [e]
 rfl
 have dh3 := of_decide_eq_false h3
 refine Av h3 ?_
 have w5 := D4 B 0
 refine Gw (by omega) (by omega) fun _ => Fh (c := .sc (.int .u8 (A6 B 0))) rfl (Le (by omega) (by omega) (Ao (v := (.bool (Dz (A6 B 0)))) s2 rfl (.cons .sc .nil) (by rw [← AgJ (f := (A6 B 0)) (by omega) (by omega)]; exact Acf (n + 11) (by omega) (A6 B 0) (by omega)) (B4 (Aa ((Dz (A6 B 0))) (fun h6 => ?_) fun h6 => ?_))))
 refine Av (nF h6) ?_
 obtain ⟨nq7, yq7, cq7, q7⟩ : ∃ w y o, C1 B 1 = (w, y, o) := ⟨_, _, _, rfl⟩
 have bq7 := Rs (B := B) (a := 1)
 rw [q7] at bq7
 dsimp only at bq7
 refine Eg s2 rfl (.cons .ro (.cons .sc .nil)) (by have h := AjP (n + 10) (by omega) B 1 (by omega) (by omega); rw [q7] at h; exact h) rfl (Bg (Bg (Bg Ea))) ?_
 rintro _ _ H ⟨_, rfl, ⟨_, rfl, ⟨_, rfl, ⟨rfl, rfl⟩⟩⟩⟩ s8
 simp only [zag] at s8
 refine Bp (v := si nq7) rfl (Bp (v := si yq7) rfl (Bp (v := si cq7) rfl (M4 (Aa ((decide (cq7 = 0))) (fun h9 => ?_) fun h9 => ?_))))
 have dh9 := of_decide_eq_true h9
 replace bq7 := bq7 (of_decide_eq_true h9)
 refine Av (nF h9) (Ej (Aa ((decide (340 < nq7))) (fun h10 => ?_) fun h10 => ?_))
 have dh10 := of_decide_eq_true h10
 refine Aq h10 (Bf (cs := En) rfl (B9 (cs' := En) s8 (.here) (Ag rfl) rfl (B8 rfl) rfl fun H s11 => Ar s11 (.here) rfl (Aj (Cd s11 rfl (.agg ⟨_, rfl, rfl⟩ (D2 (.nl (D2 (.nl (Hv (.nl (.sc (.sc (.nl (.nl (.nl .nil))))))))))) (.sc (.sc .nil))) ⟨(Mu ⟨_, rfl, rfl⟩ (D3 ⟨Be, (D3 ⟨Be, (Hw ⟨Be, (Ft ⟨Be, ⟨Be, ⟨Be, trivial⟩⟩⟩)⟩)⟩)⟩)), (Ft trivial)⟩) ?_)))
 have e : Fb Dm B = ((B6 0), 0, 2) := by
  unfold Fb E6 E5; simp only [h3, h6, h9, h10, q7, if_true, if_false, zaa, reduceIte, Dy]
 rw [e]
 rfl
 have dh10 := of_decide_eq_false h10
 refine Av h10 (Cn (Pt (by omega) (by omega) (Ej (Aa ((decide ((((B.size : Nat) : Int) - yq7) < nq7))) (fun h12 => ?_) fun h12 => ?_))))
 have dh12 := of_decide_eq_true h12
 refine Aq h12 (Bf (cs := En) rfl (B9 (cs' := En) s8 (.here) (Ag rfl) rfl (B8 rfl) rfl fun H s13 => Ar s13 (.here) rfl (Aj (Cd s13 rfl (.agg ⟨_, rfl, rfl⟩ (D2 (.nl (D2 (.nl (Hv (.nl (.sc (.sc (.nl (.nl (.nl .nil))))))))))) (.sc (.sc .nil))) ⟨(Mu ⟨_, rfl, rfl⟩ (D3 ⟨Be, (D3 ⟨Be, (Hw ⟨Be, (Ft ⟨Be, ⟨Be, ⟨Be, trivial⟩⟩⟩)⟩)⟩)⟩)), (Ft trivial)⟩) ?_)))
 have e : Fb Dm B = ((B6 0), 0, 1) := by
  unfold Fb E6 E5; simp only [h3, h6, h9, h10, h12, q7, if_true, if_false, zaa, reduceIte, Dy]
 rw [e]
 rfl
 have dh12 := of_decide_eq_false h12
 refine Av h12 ?_
 have w14 := D4 B 0
 refine Gw (by omega) (by omega) fun _ => Fh (c := su (A6 B 0)) rfl (Le (by omega) (by omega) (Bx (by omega) (by omega) (Gx yq7 (yq7 + nq7) rfl rfl (by omega) (by omega) (by omega) ?_)))
 have z15 := zaw (a := B) (b := yq7.toNat) (e := (yq7 + nq7).toNat)
 refine De (Gd.bothE ?_ ?_)
 have hR : (B.extract yq7.toNat (yq7 + nq7).toNat).size ≤ 340 := by rw [zaw]; omega
 have hbd := AkC (A6 B 0) (B.extract yq7.toNat (yq7 + nq7).toNat) hR
 have hyp := hbd.hyp (by decide)
 refine Sa s8 rfl (.cons .sc (.cons .ro .nil)) (AjY (n + 5) (by omega) (A6 B 0) (B.extract yq7.toNat (yq7 + nq7).toNat) (by omega) (by omega)) ⟨_, rfl, rfl⟩ (Kg _) ?_
 rintro _ _ H ⟨x16, x17, x18, x19, x20, x21, lx16, lx17, lx18, lx19, lx20, lx21, rfl, rfl⟩ s22
 simp only [zag, zau] at s22
 refine Id s22 fun i23 H s24 => B9 (cs' := [si ((Dm (A6 B 0) (B.extract yq7.toNat (yq7 + nq7).toNat)).fType), .sc (.bool (Dm (A6 B 0) (B.extract yq7.toNat (yq7 + nq7).toNat)).fDup), si ((Dm (A6 B 0) (B.extract yq7.toNat (yq7 + nq7).toNat)).fQos), .sc (.bool (Dm (A6 B 0) (B.extract yq7.toNat (yq7 + nq7).toNat)).fRetain), si ((Dm (A6 B 0) (B.extract yq7.toNat (yq7 + nq7).toNat)).fId), ss ((Dm (A6 B 0) (B.extract yq7.toNat (yq7 + nq7).toNat)).fTopic), x16, ss ((Dm (A6 B 0) (B.extract yq7.toNat (yq7 + nq7).toNat)).fClient), si ((Dm (A6 B 0) (B.extract yq7.toNat (yq7 + nq7).toNat)).fLevel), .sc (.bool (Dm (A6 B 0) (B.extract yq7.toNat (yq7 + nq7).toNat)).fClean), si ((Dm (A6 B 0) (B.extract yq7.toNat (yq7 + nq7).toNat)).fKeep), .sc (.bool (Dm (A6 B 0) (B.extract yq7.toNat (yq7 + nq7).toNat)).fHasWill), ss ((Dm (A6 B 0) (B.extract yq7.toNat (yq7 + nq7).toNat)).fWTopic), x17, si ((Dm (A6 B 0) (B.extract yq7.toNat (yq7 + nq7).toNat)).fWQos), .sc (.bool (Dm (A6 B 0) (B.extract yq7.toNat (yq7 + nq7).toNat)).fWRetain), .sc (.bool (Dm (A6 B 0) (B.extract yq7.toNat (yq7 + nq7).toNat)).fHasUser), ss ((Dm (A6 B 0) (B.extract yq7.toNat (yq7 + nq7).toNat)).fUser), .sc (.bool (Dm (A6 B 0) (B.extract yq7.toNat (yq7 + nq7).toNat)).fHasPass), x18, si ((Dm (A6 B 0) (B.extract yq7.toNat (yq7 + nq7).toNat)).fCode), .sc (.bool (Dm (A6 B 0) (B.extract yq7.toNat (yq7 + nq7).toNat)).fPresent), x19, x20, x21]) s24 (.here) (Ag (Ae rfl (Ae rfl (Ae rfl (Ae rfl (Ae rfl (Ae rfl (Ae lx16 (Ae rfl (Ae rfl (Ae rfl (Ae rfl (Ae rfl (Ae rfl (Ae lx17 (Ae rfl (Ae rfl (Ae rfl (Ae rfl (Ae rfl (Ae lx18 (Ae rfl (Ae rfl (Ae lx19 (Ae lx20 (Ae lx21 rfl)))))))))))))))))))))))))) rfl (B8 rfl) rfl fun H s25 => Ar s25 (.here) rfl ?_
 refine Ao (v := (.bool (Ah (Dm (A6 B 0) (B.extract yq7.toNat (yq7 + nq7).toNat))))) s25 rfl (.agg (Gs (.cons (.own (by decide) Z7) (Gs (.cons (.own (by decide) Xp) (Mv (.cons (.own (by decide) Nk) (Ir (.cons (.own (by decide) Nj) (.cons (.own (by decide) Df) (.cons (.own (by decide) Ct) .nil)))))))))) .nil) (Qt (n + 2) (by omega) (Dm (A6 B 0) (B.extract yq7.toNat (yq7 + nq7).toNat)) hyp) (B4 (Aa ((Ah (Dm (A6 B 0) (B.extract yq7.toNat (yq7 + nq7).toNat)))) (fun h26 => ?_) fun h26 => ?_))
 refine Ad (nF h26) (Ar s25 (.here) rfl (Ad (nF h26) (Ad (nF h26) (Ad (nF h26) (Ad (nF h26) (Bx (by omega) (by omega) (Ad (nF h26) (Gx 0 (yq7 + nq7) rfl rfl (by omega) (by omega) (by omega) ?_))))))))
 have z27 := zaw (a := B) (b := (0 : Int).toNat) (e := (yq7 + nq7).toNat)
 refine Ad (nF h26) (Ca s25 rfl (.agg (Gs (.cons (.own (by decide) Z7) (Gs (.cons (.own (by decide) Xp) (Mv (.cons (.own (by decide) Nk) (Ir (.cons (.own (by decide) Nj) (.cons (.own (by decide) Df) (.cons (.own (by decide) Ct) .nil)))))))))) .nil) (AaT (n + 1) (by omega) (Dm (A6 B 0) (B.extract yq7.toNat (yq7 + nq7).toNat)) hyp (za9 hbd.b1 (by decide)) (za9 hbd.b2 (by decide)) (za9 hbd.b3 (by decide))) (C2 (Gi (Dm (A6 B 0) (B.extract yq7.toNat (yq7 + nq7).toNat)))) fun x28 H lx28 s29 => Ad (nF h26) (Ao (v := (.bool ((Gi (Dm (A6 B 0) (B.extract yq7.toNat (yq7 + nq7).toNat))).toList == (B.extract (0 : Int).toNat (yq7 + nq7).toNat).toList))) s29 rfl (.cons (.own (by decide) (.here)) (.cons .ro .nil)) (Sj (n + 11) _ (Gi (Dm (A6 B 0) (B.extract yq7.toNat (yq7 + nq7).toNat))) (B.extract (0 : Int).toNat (yq7 + nq7).toNat)) (Ad (nF h26) (B4 (Es (nF h26) (Aa (((Gi (Dm (A6 B 0) (B.extract yq7.toNat (yq7 + nq7).toNat))).toList == (B.extract (0 : Int).toNat (yq7 + nq7).toNat).toList)) (fun h30 => ?_) fun h30 => ?_))))))
 refine Av (nF h30) (Ar s29 Ct rfl (Bx (by omega) (by omega) (B9 (cs' := [si ((Dm (A6 B 0) (B.extract yq7.toNat (yq7 + nq7).toNat)).fType), .sc (.bool (Dm (A6 B 0) (B.extract yq7.toNat (yq7 + nq7).toNat)).fDup), si ((Dm (A6 B 0) (B.extract yq7.toNat (yq7 + nq7).toNat)).fQos), .sc (.bool (Dm (A6 B 0) (B.extract yq7.toNat (yq7 + nq7).toNat)).fRetain), si ((Dm (A6 B 0) (B.extract yq7.toNat (yq7 + nq7).toNat)).fId), ss ((Dm (A6 B 0) (B.extract yq7.toNat (yq7 + nq7).toNat)).fTopic), x16, ss ((Dm (A6 B 0) (B.extract yq7.toNat (yq7 + nq7).toNat)).fClient), si ((Dm (A6 B 0) (B.extract yq7.toNat (yq7 + nq7).toNat)).fLevel), .sc (.bool (Dm (A6 B 0) (B.extract yq7.toNat (yq7 + nq7).toNat)).fClean), si ((Dm (A6 B 0) (B.extract yq7.toNat (yq7 + nq7).toNat)).fKeep), .sc (.bool (Dm (A6 B 0) (B.extract yq7.toNat (yq7 + nq7).toNat)).fHasWill), ss ((Dm (A6 B 0) (B.extract yq7.toNat (yq7 + nq7).toNat)).fWTopic), x17, si ((Dm (A6 B 0) (B.extract yq7.toNat (yq7 + nq7).toNat)).fWQos), .sc (.bool (Dm (A6 B 0) (B.extract yq7.toNat (yq7 + nq7).toNat)).fWRetain), .sc (.bool (Dm (A6 B 0) (B.extract yq7.toNat (yq7 + nq7).toNat)).fHasUser), ss ((Dm (A6 B 0) (B.extract yq7.toNat (yq7 + nq7).toNat)).fUser), .sc (.bool (Dm (A6 B 0) (B.extract yq7.toNat (yq7 + nq7).toNat)).fHasPass), x18, si ((Dm (A6 B 0) (B.extract yq7.toNat (yq7 + nq7).toNat)).fCode), .sc (.bool (Dm (A6 B 0) (B.extract yq7.toNat (yq7 + nq7).toNat)).fPresent), x19, x20, x21]) s29 zP8 (Ag (Ae rfl (Ae rfl (Ae rfl (Ae rfl (Ae rfl (Ae rfl (Ae lx16 (Ae rfl (Ae rfl (Ae rfl (Ae rfl (Ae rfl (Ae rfl (Ae lx17 (Ae rfl (Ae rfl (Ae rfl (Ae rfl (Ae rfl (Ae lx18 (Ae rfl (Ae rfl (Ae lx19 (Ae lx20 (Ae lx21 rfl)))))))))))))))))))))))))) rfl (B8 rfl) rfl fun H s31 => Ar s31 (.here) rfl ?_)))
 refine Aj (Cd s31 rfl (.agg ⟨_, rfl, rfl⟩ (D2 (.own zP8 (D2 (.own zP7 (Hv (.own Z7 (.sc (.sc (.own Xp (.own Nk (.own Nj .nil))))))))))) (.sc (.sc .nil))) ⟨(Mu ⟨_, rfl, rfl⟩ (D3 ⟨(B5 (C2 ((Dm (A6 B 0) (B.extract yq7.toNat (yq7 + nq7).toNat)).fBody)) (by decide)), (D3 ⟨(B5 (C2 ((Dm (A6 B 0) (B.extract yq7.toNat (yq7 + nq7).toNat)).fWBody)) (by decide)), (Hw ⟨(B5 (C2 ((Dm (A6 B 0) (B.extract yq7.toNat (yq7 + nq7).toNat)).fPass)) (by decide)), (Ft ⟨(B5 (Lo ((Dm (A6 B 0) (B.extract yq7.toNat (yq7 + nq7).toNat)).fWants)) (by decide)), ⟨(B5 (Wk ((Dm (A6 B 0) (B.extract yq7.toNat (yq7 + nq7).toNat)).fNames)) (by decide)), ⟨(B5 (Zp ((Dm (A6 B 0) (B.extract yq7.toNat (yq7 + nq7).toNat)).fCodes)) (by decide)), trivial⟩⟩⟩)⟩)⟩)⟩)), (Ft trivial)⟩) ?_
 have e : Fb Dm B = ((Dm (A6 B 0) (B.extract yq7.toNat (yq7 + nq7).toNat)), (yq7 + nq7), 0) := by
  unfold Fb E6 E5; simp only [h3, h6, h9, h10, h12, h26, h30, q7, if_true, if_false, zaa, reduceIte, Dy]
 rw [e]
 rfl
 refine Aq (nT h30) (Bf (cs := En) rfl (B9 (cs' := En) s29 zP8 (Ag rfl) rfl (B8 rfl) rfl fun H s32 => Ar s32 (.here) rfl (Aj (Cd s32 rfl (.agg ⟨_, rfl, rfl⟩ (D2 (.nl (D2 (.nl (Hv (.nl (.sc (.sc (.nl (.nl (.nl .nil))))))))))) (.sc (.sc .nil))) ⟨(Mu ⟨_, rfl, rfl⟩ (D3 ⟨Be, (D3 ⟨Be, (Hw ⟨Be, (Ft ⟨Be, ⟨Be, ⟨Be, trivial⟩⟩⟩)⟩)⟩)⟩)), (Ft trivial)⟩) ?_)))
 have e : Fb Dm B = ((B6 0), 0, 2) := by
  unfold Fb E6 E5; simp only [h3, h6, h9, h10, h12, h26, h30, q7, if_true, if_false, zaa, reduceIte, Dy]
 rw [e]
 rfl
 refine Ac (nT h26) (Ac (nT h26) (Ac (nT h26) (Ac (nT h26) (Ac (nT h26) (Ac (nT h26) (Ac (nT h26) (Ac (nT h26) (Ac (nT h26) (Ev (nT h26) (Aq rfl (Bf (cs := En) rfl (B9 (cs' := En) s25 zP7 (Ag rfl) rfl (B8 rfl) rfl fun H s33 => Ar s33 (.here) rfl (Aj (Cd s33 rfl (.agg ⟨_, rfl, rfl⟩ (D2 (.nl (D2 (.nl (Hv (.nl (.sc (.sc (.nl (.nl (.nl .nil))))))))))) (.sc (.sc .nil))) ⟨(Mu ⟨_, rfl, rfl⟩ (D3 ⟨Be, (D3 ⟨Be, (Hw ⟨Be, (Ft ⟨Be, ⟨Be, ⟨Be, trivial⟩⟩⟩)⟩)⟩)⟩)), (Ft trivial)⟩) ?_)))))))))))))
 have e : Fb Dm B = ((B6 0), 0, 2) := by
  unfold Fb E6 E5; simp only [h3, h6, h9, h10, h12, h26, q7, if_true, if_false, zaa, reduceIte, Dy]
 rw [e]
 rfl
 refine Id s8 fun i34 H s35 => ?_
 have hR : (B.extract yq7.toNat (yq7 + nq7).toNat).size ≤ 340 := by rw [zaw]; omega
 have hbd := AkC (A6 B 0) (B.extract yq7.toNat (yq7 + nq7).toNat) hR
 have hyp := hbd.hyp (by decide)
 refine Sa s35 rfl (.cons .sc (.cons .ro .nil)) (AjY (n + 5) (by omega) (A6 B 0) (B.extract yq7.toNat (yq7 + nq7).toNat) (by omega) (by omega)) ⟨_, rfl, rfl⟩ (Kg _) ?_
 rintro _ _ H ⟨x36, x37, x38, x39, x40, x41, lx36, lx37, lx38, lx39, lx40, lx41, rfl, rfl⟩ s42
 simp only [zag, zau] at s42
 refine B9 (cs' := [si ((Dm (A6 B 0) (B.extract yq7.toNat (yq7 + nq7).toNat)).fType), .sc (.bool (Dm (A6 B 0) (B.extract yq7.toNat (yq7 + nq7).toNat)).fDup), si ((Dm (A6 B 0) (B.extract yq7.toNat (yq7 + nq7).toNat)).fQos), .sc (.bool (Dm (A6 B 0) (B.extract yq7.toNat (yq7 + nq7).toNat)).fRetain), si ((Dm (A6 B 0) (B.extract yq7.toNat (yq7 + nq7).toNat)).fId), ss ((Dm (A6 B 0) (B.extract yq7.toNat (yq7 + nq7).toNat)).fTopic), x36, ss ((Dm (A6 B 0) (B.extract yq7.toNat (yq7 + nq7).toNat)).fClient), si ((Dm (A6 B 0) (B.extract yq7.toNat (yq7 + nq7).toNat)).fLevel), .sc (.bool (Dm (A6 B 0) (B.extract yq7.toNat (yq7 + nq7).toNat)).fClean), si ((Dm (A6 B 0) (B.extract yq7.toNat (yq7 + nq7).toNat)).fKeep), .sc (.bool (Dm (A6 B 0) (B.extract yq7.toNat (yq7 + nq7).toNat)).fHasWill), ss ((Dm (A6 B 0) (B.extract yq7.toNat (yq7 + nq7).toNat)).fWTopic), x37, si ((Dm (A6 B 0) (B.extract yq7.toNat (yq7 + nq7).toNat)).fWQos), .sc (.bool (Dm (A6 B 0) (B.extract yq7.toNat (yq7 + nq7).toNat)).fWRetain), .sc (.bool (Dm (A6 B 0) (B.extract yq7.toNat (yq7 + nq7).toNat)).fHasUser), ss ((Dm (A6 B 0) (B.extract yq7.toNat (yq7 + nq7).toNat)).fUser), .sc (.bool (Dm (A6 B 0) (B.extract yq7.toNat (yq7 + nq7).toNat)).fHasPass), x38, si ((Dm (A6 B 0) (B.extract yq7.toNat (yq7 + nq7).toNat)).fCode), .sc (.bool (Dm (A6 B 0) (B.extract yq7.toNat (yq7 + nq7).toNat)).fPresent), x39, x40, x41]) s42 Z7 (Ag (Ae rfl (Ae rfl (Ae rfl (Ae rfl (Ae rfl (Ae rfl (Ae lx36 (Ae rfl (Ae rfl (Ae rfl (Ae rfl (Ae rfl (Ae rfl (Ae lx37 (Ae rfl (Ae rfl (Ae rfl (Ae rfl (Ae rfl (Ae lx38 (Ae rfl (Ae rfl (Ae lx39 (Ae lx40 (Ae lx41 rfl)))))))))))))))))))))))))) rfl (B8 rfl) rfl fun H s43 => Ar s43 (.here) rfl ?_
 refine Ao (v := (.bool (Ah (Dm (A6 B 0) (B.extract yq7.toNat (yq7 + nq7).toNat))))) s43 rfl (.agg (Gs (.cons (.own (by decide) Z7) (Gs (.cons (.own (by decide) Xp) (Mv (.cons (.own (by decide) Nk) (Ir (.cons (.own (by decide) Nj) (.cons (.own (by decide) Df) (.cons (.own (by decide) Ct) .nil)))))))))) .nil) (Qt (n + 2) (by omega) (Dm (A6 B 0) (B.extract yq7.toNat (yq7 + nq7).toNat)) hyp) (B4 (Aa ((Ah (Dm (A6 B 0) (B.extract yq7.toNat (yq7 + nq7).toNat)))) (fun h44 => ?_) fun h44 => ?_))
 refine Ad (nF h44) (Ar s43 (.here) rfl (Ad (nF h44) (Ad (nF h44) (Ad (nF h44) (Ad (nF h44) (Bx (by omega) (by omega) (Ad (nF h44) (Gx 0 (yq7 + nq7) rfl rfl (by omega) (by omega) (by omega) ?_))))))))
 have z45 := zaw (a := B) (b := (0 : Int).toNat) (e := (yq7 + nq7).toNat)
 refine Ad (nF h44) (Ca s43 rfl (.agg (Gs (.cons (.own (by decide) Z7) (Gs (.cons (.own (by decide) Xp) (Mv (.cons (.own (by decide) Nk) (Ir (.cons (.own (by decide) Nj) (.cons (.own (by decide) Df) (.cons (.own (by decide) Ct) .nil)))))))))) .nil) (AaT (n + 1) (by omega) (Dm (A6 B 0) (B.extract yq7.toNat (yq7 + nq7).toNat)) hyp (za9 hbd.b1 (by decide)) (za9 hbd.b2 (by decide)) (za9 hbd.b3 (by decide))) (C2 (Gi (Dm (A6 B 0) (B.extract yq7.toNat (yq7 + nq7).toNat)))) fun x46 H lx46 s47 => Ad (nF h44) (Ao (v := (.bool ((Gi (Dm (A6 B 0) (B.extract yq7.toNat (yq7 + nq7).toNat))).toList == (B.extract (0 : Int).toNat (yq7 + nq7).toNat).toList))) s47 rfl (.cons (.own (by decide) (.here)) (.cons .ro .nil)) (Sj (n + 11) _ (Gi (Dm (A6 B 0) (B.extract yq7.toNat (yq7 + nq7).toNat))) (B.extract (0 : Int).toNat (yq7 + nq7).toNat)) (Ad (nF h44) (B4 (Es (nF h44) (Aa (((Gi (Dm (A6 B 0) (B.extract yq7.toNat (yq7 + nq7).toNat))).toList == (B.extract (0 : Int).toNat (yq7 + nq7).toNat).toList)) (fun h48 => ?_) fun h48 => ?_))))))
 refine Av (nF h48) (Ar s47 Ct rfl (Bx (by omega) (by omega) (B9 (cs' := [si ((Dm (A6 B 0) (B.extract yq7.toNat (yq7 + nq7).toNat)).fType), .sc (.bool (Dm (A6 B 0) (B.extract yq7.toNat (yq7 + nq7).toNat)).fDup), si ((Dm (A6 B 0) (B.extract yq7.toNat (yq7 + nq7).toNat)).fQos), .sc (.bool (Dm (A6 B 0) (B.extract yq7.toNat (yq7 + nq7).toNat)).fRetain), si ((Dm (A6 B 0) (B.extract yq7.toNat (yq7 + nq7).toNat)).fId), ss ((Dm (A6 B 0) (B.extract yq7.toNat (yq7 + nq7).toNat)).fTopic), x36, ss ((Dm (A6 B 0) (B.extract yq7.toNat (yq7 + nq7).toNat)).fClient), si ((Dm (A6 B 0) (B.extract yq7.toNat (yq7 + nq7).toNat)).fLevel), .sc (.bool (Dm (A6 B 0) (B.extract yq7.toNat (yq7 + nq7).toNat)).fClean), si ((Dm (A6 B 0) (B.extract yq7.toNat (yq7 + nq7).toNat)).fKeep), .sc (.bool (Dm (A6 B 0) (B.extract yq7.toNat (yq7 + nq7).toNat)).fHasWill), ss ((Dm (A6 B 0) (B.extract yq7.toNat (yq7 + nq7).toNat)).fWTopic), x37, si ((Dm (A6 B 0) (B.extract yq7.toNat (yq7 + nq7).toNat)).fWQos), .sc (.bool (Dm (A6 B 0) (B.extract yq7.toNat (yq7 + nq7).toNat)).fWRetain), .sc (.bool (Dm (A6 B 0) (B.extract yq7.toNat (yq7 + nq7).toNat)).fHasUser), ss ((Dm (A6 B 0) (B.extract yq7.toNat (yq7 + nq7).toNat)).fUser), .sc (.bool (Dm (A6 B 0) (B.extract yq7.toNat (yq7 + nq7).toNat)).fHasPass), x38, si ((Dm (A6 B 0) (B.extract yq7.toNat (yq7 + nq7).toNat)).fCode), .sc (.bool (Dm (A6 B 0) (B.extract yq7.toNat (yq7 + nq7).toNat)).fPresent), x39, x40, x41]) s47 zP8 (Ag (Ae rfl (Ae rfl (Ae rfl (Ae rfl (Ae rfl (Ae rfl (Ae lx36 (Ae rfl (Ae rfl (Ae rfl (Ae rfl (Ae rfl (Ae rfl (Ae lx37 (Ae rfl (Ae rfl (Ae rfl (Ae rfl (Ae rfl (Ae lx38 (Ae rfl (Ae rfl (Ae lx39 (Ae lx40 (Ae lx41 rfl)))))))))))))))))))))))))) rfl (B8 rfl) rfl fun H s49 => Ar s49 (.here) rfl ?_)))
 refine Aj (Cd s49 rfl (.agg ⟨_, rfl, rfl⟩ (D2 (.own zP8 (D2 (.own zP7 (Hv (.own Z7 (.sc (.sc (.own Xp (.own Nk (.own Nj .nil))))))))))) (.sc (.sc .nil))) ⟨(Mu ⟨_, rfl, rfl⟩ (D3 ⟨(B5 (C2 ((Dm (A6 B 0) (B.extract yq7.toNat (yq7 + nq7).toNat)).fBody)) (by decide)), (D3 ⟨(B5 (C2 ((Dm (A6 B 0) (B.extract yq7.toNat (yq7 + nq7).toNat)).fWBody)) (by decide)), (Hw ⟨(B5 (C2 ((Dm (A6 B 0) (B.extract yq7.toNat (yq7 + nq7).toNat)).fPass)) (by decide)), (Ft ⟨(B5 (Lo ((Dm (A6 B 0) (B.extract yq7.toNat (yq7 + nq7).toNat)).fWants)) (by decide)), ⟨(B5 (Wk ((Dm (A6 B 0) (B.extract yq7.toNat (yq7 + nq7).toNat)).fNames)) (by decide)), ⟨(B5 (Zp ((Dm (A6 B 0) (B.extract yq7.toNat (yq7 + nq7).toNat)).fCodes)) (by decide)), trivial⟩⟩⟩)⟩)⟩)⟩)), (Ft trivial)⟩) ?_
 have e : Fb Dm B = ((Dm (A6 B 0) (B.extract yq7.toNat (yq7 + nq7).toNat)), (yq7 + nq7), 0) := by
  unfold Fb E6 E5; simp only [h3, h6, h9, h10, h12, h44, h48, q7, if_true, if_false, zaa, reduceIte, Dy]
 rw [e]
 rfl
 refine Aq (nT h48) (Bf (cs := En) rfl (B9 (cs' := En) s47 zP8 (Ag rfl) rfl (B8 rfl) rfl fun H s50 => Ar s50 (.here) rfl (Aj (Cd s50 rfl (.agg ⟨_, rfl, rfl⟩ (D2 (.nl (D2 (.nl (Hv (.nl (.sc (.sc (.nl (.nl (.nl .nil))))))))))) (.sc (.sc .nil))) ⟨(Mu ⟨_, rfl, rfl⟩ (D3 ⟨Be, (D3 ⟨Be, (Hw ⟨Be, (Ft ⟨Be, ⟨Be, ⟨Be, trivial⟩⟩⟩)⟩)⟩)⟩)), (Ft trivial)⟩) ?_)))
 have e : Fb Dm B = ((B6 0), 0, 2) := by
  unfold Fb E6 E5; simp only [h3, h6, h9, h10, h12, h44, h48, q7, if_true, if_false, zaa, reduceIte, Dy]
 rw [e]
 rfl
 refine Ac (nT h44) (Ac (nT h44) (Ac (nT h44) (Ac (nT h44) (Ac (nT h44) (Ac (nT h44) (Ac (nT h44) (Ac (nT h44) (Ac (nT h44) (Ev (nT h44) (Aq rfl (Bf (cs := En) rfl (B9 (cs' := En) s43 zP7 (Ag rfl) rfl (B8 rfl) rfl fun H s51 => Ar s51 (.here) rfl (Aj (Cd s51 rfl (.agg ⟨_, rfl, rfl⟩ (D2 (.nl (D2 (.nl (Hv (.nl (.sc (.sc (.nl (.nl (.nl .nil))))))))))) (.sc (.sc .nil))) ⟨(Mu ⟨_, rfl, rfl⟩ (D3 ⟨Be, (D3 ⟨Be, (Hw ⟨Be, (Ft ⟨Be, ⟨Be, ⟨Be, trivial⟩⟩⟩)⟩)⟩)⟩)), (Ft trivial)⟩) ?_)))))))))))))
 have e : Fb Dm B = ((B6 0), 0, 2) := by
  unfold Fb E6 E5; simp only [h3, h6, h9, h10, h12, h44, q7, if_true, if_false, zaa, reduceIte, Dy]
 rw [e]
 rfl
 have dh9 := of_decide_eq_false h9
 refine Aq (nT h9) (Bf (cs := En) rfl (B9 (cs' := En) s8 (.here) (Ag rfl) rfl (B8 rfl) rfl fun H s52 => Ar s52 (.here) rfl (Aj (Cd s52 rfl (.agg ⟨_, rfl, rfl⟩ (D2 (.nl (D2 (.nl (Hv (.nl (.sc (.sc (.nl (.nl (.nl .nil))))))))))) (.sc (.sc .nil))) ⟨(Mu ⟨_, rfl, rfl⟩ (D3 ⟨Be, (D3 ⟨Be, (Hw ⟨Be, (Ft ⟨Be, ⟨Be, ⟨Be, trivial⟩⟩⟩)⟩)⟩)⟩)), (Ft trivial)⟩) ?_)))
 have e : Fb Dm B = ((B6 0), 0, cq7) := by
  unfold Fb E6 E5; simp only [h3, h6, h9, q7, if_true, if_false, zaa, reduceIte, Dy]
 rw [e]
 rfl
 refine Aq (nT h6) (Bf (cs := En) rfl (B9 (cs' := En) s2 (.here) (Ag rfl) rfl (B8 rfl) rfl fun H s53 => Ar s53 (.here) rfl (Aj (Cd s53 rfl (.agg ⟨_, rfl, rfl⟩ (D2 (.nl (D2 (.nl (Hv (.nl (.sc (.sc (.nl (.nl (.nl .nil))))))))))) (.sc (.sc .nil))) ⟨(Mu ⟨_, rfl, rfl⟩ (D3 ⟨Be, (D3 ⟨Be, (Hw ⟨Be, (Ft ⟨Be, ⟨Be, ⟨Be, trivial⟩⟩⟩)⟩)⟩)⟩)), (Ft trivial)⟩) ?_)))
 have e : Fb Dm B = ((B6 0), 0, 2) := by
  unfold Fb E6 E5; simp only [h3, h6, if_true, if_false, zaa, reduceIte, Dy]
 rw [e]
 rfl
end
section
open Go
theorem Ajz {p : PacketV} (h : Ah p = true) (h1 : 4 ≤ p.fType) (h2 : p.fType ≤ 11) : 1 ≤ p.fId ∧ p.fId ≤ 65535 := by
 obtain ⟨_, _, hk⟩ := Hi h
 unfold Cs at hk
 rw [if_neg (by omega), if_neg (by omega), if_neg (by omega)] at hk
 by_cases h4 : p.fType = 4 ∨ p.fType = 5 ∨ p.fType = 6 ∨ p.fType = 7 ∨ p.fType = 11
 rwa [if_pos h4, G9] at hk
 rw [if_neg h4, if_pos (by omega)] at hk
 simp only [zae, G9] at hk
 exact hk.1
theorem Wb {p : PacketV} (h : Ah p = true) (h1 : p.fType = 8 ∨ p.fType = 9 ∨ p.fType = 10) : (∀ w ∈ p.fWants, Bd w.fFilter = true ∧ 0 ≤ w.fQos ∧ w.fQos < 256) ∧ (∀ w ∈ p.fNames, Bd w = true) ∧ (∀ c ∈ p.fCodes, 0 ≤ c ∧ c < 256) ∧ p.fWants.length + p.fNames.length + p.fCodes.length ≤ 4 := by
 obtain ⟨_, _, hk⟩ := Hi h
 unfold Cs at hk
 rw [if_neg (by omega), if_neg (by omega), if_neg (by omega), if_neg (by omega), if_pos h1] at hk
 unfold E4 I6 Jw Gp at hk
 simp only [zae, G9, za6] at hk
 obtain ⟨_, k1, k2, k3, k4⟩ := hk
 refine ⟨fun w hw => ?_, fun w hw => T4 (k2 w hw), fun c hc => ?_, by omega⟩
 have := k1 w hw
 unfold Cm at this
 rw [zae, G9] at this
 exact ⟨T4 this.1, by omega, by omega⟩
 have := k3 c hc
 unfold Cg at this
 rw [zaO, G9, decide_eq_true_eq] at this
 omega
theorem Aj0 {p : PacketV} (h : Ah p = true) (h1 : 4 ≤ p.fType) (h2 : p.fType ≤ 11) : p = { B6 p.fType with fId := p.fId, fWants := p.fWants, fCodes := p.fCodes, fNames := p.fNames } := by
 obtain ⟨_, hn, _⟩ := Hi h
 obtain ⟨_, _, _, _, _, k6, k7, k8⟩ := Mn h
 unfold A0 at hn
 rw [if_neg (by omega), if_neg (by omega), if_neg (by omega)] at hn
 split at hn
 rw [k6 (by omega), k7 (by omega), k8 (by omega)]
 exact hn
 split at hn
 rw [k7 (by omega), k8 (by omega)]
 exact hn
 split at hn
 rw [k6 (by omega), k8 (by omega)]
 exact hn
 split at hn
 rw [k6 (by omega), k7 (by omega)]
 exact hn
 omega
theorem Acd {p : PacketV} (h : Ah p = true) (h1 : 4 ≤ p.fType) (h2 : p.fType ≤ 11) : Dq (Cv p) (C3 p) = p ∧ Dm (Cv p) (C3 p) = p := by
 have hid := Ajz h h1 h2
 have ht := (R8 h).2
 have hz := Aj0 h h1 h2
 obtain ⟨_, _, _, _, _, k6, k7, k8⟩ := Mn h
 have er : C3 p = Ii p (An bs0 p.fId) := by
  unfold C3
  rw [if_neg (by omega), if_neg (by omega), if_neg (by omega), if_neg (by omega)]
 have hbl : bl (C3 p) = Qd p.fId ++ ((p.fWants.map N2).flatten ++ ((p.fCodes.map fun c => u8 (c % 256)) ++ (p.fNames.map Is).flatten)) ∧ ∀ f a, f = p.fWants.length + p.fNames.length + p.fCodes.length + 1 → Sf (C3 p) a ((p.fWants.map N2).flatten ++ ((p.fCodes.map fun c => u8 (c % 256)) ++ (p.fNames.map Is).flatten)) → (∀ g, f ≤ g → Cc p.fType (C3 p) g (a, false) [] [] [] = (p.fWants, p.fCodes, p.fNames)) ∧ (∀ g, f ≤ g → C0 p.fType (C3 p) g a [] [] = some (p.fWants, p.fNames)) ∧ ∀ g, f ≤ g → (if p.fType = 9 then Gn (C3 p) g a [] else []) = p.fCodes := by
  have hb0 : bl (An bs0 p.fId) = Qd p.fId := by
   rw [Ru]
   rfl
  by_cases h8 : p.fType = 8 ∨ p.fType = 9 ∨ p.fType = 10
  obtain ⟨l1, l2, l3, l4⟩ := Wb h h8
  refine ⟨?_, fun f a hf s => ?_⟩
  rw [er]
  unfold Ii
  rw [Aaj _ _ l2, Aai, Aak _ _ fun w hw => (l1 w hw).1, hb0]
  simp only [zai]
  rcases h8 with h8 | h8 | h8
  rw [k7 (by omega), k8 (by omega)] at s ⊢
  simp only [zaB, zbw, zan] at s
  rw [h8]
  refine ⟨fun g hg => ?_, fun g hg => ?_, fun g hg => by rw [if_neg (by decide)]⟩
  exact AnB p.fWants [] g a s l1 (by simp only [zao]; omega) (by omega)
  exact AnD p.fWants [] g a s l1 (by omega)
  rw [k6 (by omega), k8 (by omega)] at s ⊢
  simp only [zaB, zbw, zan, zag] at s
  rw [h8]
  refine ⟨fun g hg => ?_, fun g hg => ?_, fun g hg => ?_⟩
  exact AnC p.fCodes [] g a s l3 (by simp only [zao]; omega) (by omega)
  obtain ⟨g, rfl⟩ : ∃ k, g = k + 1 := ⟨g - 1, by omega⟩
  exact Sz (.inr (by decide))
  rw [if_pos rfl]
  exact rdC p.fCodes [] g a s l3 (by omega)
  rw [k6 (by omega), k7 (by omega)] at s ⊢
  simp only [zaB, zbw, zan, zag] at s
  rw [h8]
  refine ⟨fun g hg => ?_, fun g hg => ?_, fun g hg => by rw [if_neg (by decide)]⟩
  exact AkA p.fNames [] g a s l2 (by simp only [zao]; omega) (by omega)
  exact AkB p.fNames [] g a s l2 (by omega)
  have e6 := k6 (by omega)
  have e7 := k7 (by omega)
  have e8 := k8 (by omega)
  refine ⟨?_, fun f a hf s => ?_⟩
  rw [er, AaZ e6 e7 e8, hb0, e6, e7, e8]
  simp
  rw [e6, e7, e8] at s ⊢
  simp only [zaB, zbw, zan] at s
  refine ⟨fun g hg => ?_, fun g hg => ?_, fun g hg => by rw [if_neg (by omega)]⟩
  obtain ⟨g, rfl⟩ : ∃ k, g = k + 1 := ⟨g - 1, by omega⟩
  exact Uz s
  obtain ⟨g, rfl⟩ : ∃ k, g = k + 1 := ⟨g - 1, by omega⟩
  exact Sz (.inr (by omega))
 obtain ⟨hb, hl⟩ := hbl
 have s0 := W1 _ hb
 have e0 := W2 s0 (by omega) (by omega)
 obtain ⟨k0, s1⟩ := Qq s0 (by omega) (by omega)
 obtain ⟨q1, q2, q3⟩ := hl _ _ rfl s1
 have hsz : p.fWants.length + p.fNames.length + p.fCodes.length + 1 ≤ (C3 p).size + 1 ∧ p.fWants.length + p.fNames.length + p.fCodes.length + 1 ≤ 8 := by
  by_cases h8 : p.fType = 8 ∨ p.fType = 9 ∨ p.fType = 10
  obtain ⟨l1, l2, l3, l4⟩ := Wb h h8
  have hl := s1.len
  have f1 : ∀ l : List WantV, l.length ≤ ((l.map N2).flatten).length := fun l => by
   induction l with
   | nil => simp
   | cons w l ih =>
    rw [zat, za3, zaf]
    have : 1 ≤ (N2 w).length := by simp [N2]
    simp only [zal]
    omega
  have f2 : ∀ l : List ByteArray, l.length ≤ ((l.map Is).flatten).length := fun l => by
   induction l with
   | nil => simp
   | cons w l ih =>
    rw [zat, za3, zaf]
    have : 1 ≤ (Is w).length := by simp [Is, Qd]
    simp only [zal]
    omega
  have g1 := f1 p.fWants
  have g2 := f2 p.fNames
  simp only [zaf, List.length_map] at hl
  omega
  rw [k6 (by omega), k7 (by omega), k8 (by omega)]
  simp
 constructor
 unfold Dq
 dsimp only
 rw [ht, if_neg (by omega), if_neg (by omega), if_neg (by omega), if_neg (by omega), e0]
 dsimp only
 rw [q1 8 hsz.2]
 exact hz.symm
 unfold Dm
 rw [ht, if_neg (by omega), if_neg (by omega), if_neg (by omega), if_pos (by omega), k0]
 unfold F2
 dsimp only
 rw [if_neg (by simp), q3 _ hsz.1, q2 _ hsz.1]
 exact hz.symm
theorem Amz {p : PacketV} (h : Ah p = true) : Dq (Cv p) (C3 p) = p ∧ Dm (Cv p) (C3 p) = p := by
 have ht := (Jj h).ty
 have hf := (R8 h).2
 by_cases h1 : p.fType = 1
 have e : C3 p = Fa p := by unfold C3; rw [if_pos h1]
 rw [e]
 unfold Dq Dm
 dsimp only
 rw [hf, h1, if_pos rfl, if_pos rfl]
 exact AjJ h h1
 by_cases h2 : p.fType = 2
 have e : C3 p = A8 (A8 bs0 (Ba p.fPresent 1 % 256)) (p.fCode % 256) := by unfold C3; rw [if_neg h1, if_pos h2]
 obtain ⟨a, b, c⟩ := Amx h h2 e
 unfold Dq Dm
 dsimp only
 rw [hf, h2, if_neg (by decide), if_pos rfl, if_neg (by decide), if_pos ⟨rfl, b⟩]
 exact ⟨a, c⟩
 by_cases h3 : p.fType = 3
 have e : C3 p = G5 p := by unfold C3; rw [if_neg h1, if_neg h2, if_pos h3]
 rw [e]
 exact Amy h h3
 by_cases h4 : p.fType ≤ 11
 exact Acd h (by omega) h4
 have e : C3 p = bs0 := by unfold C3; rw [if_neg h1, if_neg h2, if_neg h3, if_pos (by omega)]
 have hz : p = B6 p.fType := by
  obtain ⟨_, hn, _⟩ := Hi h
  unfold A0 at hn
  rw [if_neg h1, if_neg h2, if_neg h3, if_neg (by omega), if_neg (by omega), if_neg (by omega), if_neg (by omega)] at hn
  exact hn
 unfold Dq Dm
 dsimp only
 rw [hf, e, if_neg h1, if_neg h2, if_neg h3, if_pos (by omega), if_neg h1, if_neg (by omega), if_neg h3, if_neg (by omega)]
 unfold F2
 dsimp only
 rw [if_neg (by simp), if_neg (by omega), Sz (.inr (by omega))]
 exact ⟨hz.symm, hz.symm⟩
theorem Aj4 {B : ByteArray} {a m : Int} (ha : 0 ≤ a) (hm : 0 ≤ m ∧ m < 128) (hb : A6 B a = m) (hs : a < ((B.size : Nat) : Int)) : C1 B a = (m, a + 1, 0) := by
 unfold C1
 rw [if_neg (by omega), D5, Int.add_zero, if_neg (by omega), hb, if_pos hm.2, if_neg (by omega), Pf hm.1 (by omega)]
 have e : bits .or .i64 0 (m % 128 * 2 ^ (7 * (0 : Int)).toNat) = m := by
  rw [show m % 128 * 2 ^ (7 * (0 : Int)).toNat = m by simp; omega, Uy 7 0 m (by decide) (by decide) (by decide) (by omega) (by omega) (by omega)]
  omega
 rw [e]
theorem Aj5 {B : ByteArray} {a m : Int} (ha : 0 ≤ a) (hm : 128 ≤ m ∧ m < 16384) (hb : A6 B a = m % 128 + 128) (hb2 : A6 B (a + 1) = m / 128) (hs : a + 1 < ((B.size : Nat) : Int)) : C1 B a = (m, a + 2, 0) := by
 unfold C1
 rw [if_neg (by omega), D5, Int.add_zero, if_neg (by omega), hb, if_neg (by omega), Pf (by omega) (by omega)]
 have e : bits .or .i64 0 ((m % 128 + 128) % 128 * 2 ^ (7 * (0 : Int)).toNat) = m % 128 := by
  rw [show (m % 128 + 128) % 128 * 2 ^ (7 * (0 : Int)).toNat = m % 128 by simp, Uy 7 0 (m % 128) (by decide) (by decide) (by decide) (by omega) (by omega) (by omega)]
  omega
 rw [e, Int.zero_add, D5, if_neg (by omega), hb2, if_pos (by omega), if_neg (by omega), Pf (by omega) (by omega)]
 have e2 : bits .or .i64 (m % 128) (m / 128 % 128 * 2 ^ (7 * (1 : Int)).toNat) = m := by
  rw [show m / 128 % 128 * 2 ^ (7 * (1 : Int)).toNat = m / 128 * 128 by
   have : m / 128 % 128 = m / 128 := by omega
   rw [this]
   rfl, Amr 7 (m / 128 * 128) (m % 128) (by omega) (by omega) (by omega) (by omega) (by omega) (by omega)]
  omega
 rw [e2, Int.add_assoc]
 rfl
theorem AaC (B : ByteArray) (a : Int) : ∀ (f : Nat) (i z : Int), (D5 B a f i z).2.2 = 0 → (D5 B a f i z).2.1 ≤ a + i + f
 | 0, i, z, h => by simp [D5] at h
 | f + 1, i, z, h => by
  rw [D5] at h ⊢
  split at h
  simp at h
  rename_i h2
  rw [if_neg h2]
  split at h
  rename_i h3
  rw [if_pos h3]
  split at h
  simp at h
  rename_i h4
  rw [if_neg h4]
  show a + i + 1 ≤ _
  omega
  rename_i h3
  rw [if_neg h3]
  have := AaC B a f (i + 1) _ h
  omega
theorem Acm {B : ByteArray} {a n x : Int} (h : C1 B a = (n, x, 0)) : x ≤ a + 4 := by
 unfold C1 at h
 split at h
 cases h
 have := AaC B a 4 0 0 (by rw [h])
 rw [h] at this
 simpa using this
theorem Adm {b : ByteArray} {m : Int} (h0 : 0 ≤ m) (h1 : m < 16384) : bl (Dc b m) = bl b ++ (if m < 128 then [u8 m] else [u8 (m % 128 + 128), u8 (m / 128)]) := by
 unfold Dc
 rw [if_pos (by rw [G9]; omega)]
 unfold Lf
 split
 unfold Lf
 rw [if_neg (by omega), if_neg (by omega), I5, I5, zai, show (m % 128 + 128) % 256 = m % 128 + 128 by omega, show m / 128 % 256 = m / 128 by omega]
 rfl
 rw [if_pos (by omega), I5, show m % 256 = m by omega]
theorem Ahp (p : PacketV) : (C3 p).size ≤ (Jz p).size := by
 unfold Jz
 rw [zaj]
 omega
theorem frame {p : PacketV} (h : Ah p = true) {B : ByteArray} {m : Int} (hm : m = (((C3 p).size : Nat) : Int)) (hm2 : m < 16384) {r : List UInt8} (hB : bl B = bl (Jz p) ++ r) : A6 B 0 = Cv p ∧ ∃ k, C1 B 1 = (m, k, 0) ∧ k + m = (((Jz p).size : Nat) : Int) ∧ (1 ≤ k ∧ k + m ≤ ((B.size : Nat) : Int)) ∧ B.extract k.toNat (k + m).toNat = C3 p := by
 obtain ⟨hf, _⟩ := R8 h
 have hsz : (Jz p).size + r.length = B.size := by
  rw [← Jn B, hB, zaf, Jn]
 have e : bl (Jz p) = u8 (Cv p) :: ((if m < 128 then [u8 m] else [u8 (m % 128 + 128), u8 (m / 128)]) ++ bl (C3 p)) := by
  unfold Jz
  rw [Y2, ← hm, Adm (by omega) hm2, I5, show Cv p % 256 = Cv p by omega]
  simp only [zai]
  rfl
 have s0 := W1 B hB
 rw [e] at s0
 obtain ⟨b0, _, s1⟩ := Sf.head s0
 rw [Lr hf.1 hf.2] at b0
 have el := congrArg List.length e
 rw [Jn] at el
 refine ⟨b0, ?_⟩
 have cut : ∀ (k : Int) , Sf B k (bl (C3 p) ++ r) → B.extract k.toNat (k + m).toNat = C3 p := fun k s => by
  apply Y4
  rw [Y3, s.2.2]
  have := s.1
  rw [show (k + m).toNat - k.toNat = (bl (C3 p)).length by rw [Jn]; omega, List.take_left]
 by_cases h1 : m < 128
 rw [if_pos h1] at s1 el
 obtain ⟨b1, l1, s2⟩ := Sf.head s1
 rw [Lr (by omega) (by omega)] at b1
 simp only [zal, zaf, zao, Jn] at el
 exact ⟨2, Aj4 (by omega) (by omega) b1 l1, by omega, by omega, cut 2 s2⟩
 rw [if_neg h1] at s1 el
 obtain ⟨b1, l1, s2⟩ := Sf.head s1
 obtain ⟨b2, l2, s3⟩ := Sf.head s2
 rw [Lr (by omega) (by omega)] at b1 b2
 simp only [zal, zaf, zao, Jn] at el
 exact ⟨3, Aj5 (by omega) (by omega) b1 b2 l2, by omega, by omega, cut 3 s3⟩
theorem Amw {p : PacketV} (h : Ah p = true) : Gi p = Jz p := by
 unfold Gi
 rw [if_pos h]
theorem Ajr {B : ByteArray} {n a : Int} (hg : C1 B 1 = (n, a, 0)) (hn : 0 ≤ n ∧ n ≤ 340) (ha : 1 ≤ a) (hs : a + n ≤ ((B.size : Nat) : Int)) {p : PacketV} (h : Ah p = true) (hp : ((Gi p).toList == (B.extract (0 : Int).toNat (a + n).toNat).toList) = true) : Dq (A6 B 0) (B.extract a.toNat (a + n).toNat) = p ∧ Dm (A6 B 0) (B.extract a.toNat (a + n).toNat) = p := by
 have e := Qy hp
 rw [Amw h] at e
 have hat := Acm hg
 have e2 : bl (Jz p) = (bl B).take (a + n).toNat := by
  rw [e, Y3]
  simp
 have hsz : (Jz p).size = (a + n).toNat := by
  rw [← Jn, e2, List.length_take, Jn]
  omega
 have hle := Ahp p
 have hB : bl B = bl (Jz p) ++ (bl B).drop (a + n).toNat := by
  rw [e2, List.take_append_drop]
 obtain ⟨b0, k, g, g2, g3, g4⟩ := frame h rfl (by omega) hB
 rw [hg] at g
 cases g
 rw [b0, g4]
 exact Amz h
theorem Ame (B : ByteArray) : Fb Dm B = Fb Dq B := by
 unfold Fb
 split
 rfl
 split
 rfl
 obtain ⟨n, a, c, e⟩ : ∃ n a c, C1 B 1 = (n, a, c) := ⟨_, _, _, rfl⟩
 have hb := Rs (B := B) (a := 1)
 rw [e] at hb ⊢
 dsimp only at hb
 unfold E6
 dsimp only
 split
 rfl
 rename_i hc
 have hc : c = 0 := by simpa using hc
 subst hc
 split
 rfl
 rename_i hn
 simp only [decide_eq_true_eq, Int.not_lt] at hn
 split
 rfl
 rename_i hs
 simp only [decide_eq_true_eq, Int.not_lt] at hs
 have hb := hb rfl
 have key : ∀ p, Ah p = true → ((Gi p).toList == (B.extract (0 : Int).toNat (a + n).toNat).toList) = true → _ := fun p h hp => Ajr e (by omega) (by omega) (by omega) h hp
 unfold E5
 generalize hI : Dq (A6 B 0) (B.extract a.toNat (a + n).toNat) = x at key ⊢
 generalize hS : Dm (A6 B 0) (B.extract a.toNat (a + n).toNat) = y at key ⊢
 by_cases g1 : Ah x = true ∧ ((Gi x).toList == (B.extract (0 : Int).toNat (a + n).toNat).toList) = true
 have := (key x g1.1 g1.2).2
 rw [this]
 by_cases g2 : Ah y = true ∧ ((Gi y).toList == (B.extract (0 : Int).toNat (a + n).toNat).toList) = true
 have := (key y g2.1 g2.2).1
 rw [this]
 rw [if_pos, if_pos]
 simp only [zaO, Bool.not_eq_true', ← Bool.not_eq_true]
 by_cases k : Ah x = true
 exact .inr fun hq => g1 ⟨k, hq⟩
 exact .inl k
 simp only [zaO, Bool.not_eq_true', ← Bool.not_eq_true]
 by_cases k : Ah y = true
 exact .inr fun hq => g2 ⟨k, hq⟩
 exact .inl k
abbrev AhI (B : ByteArray) : PacketV × Int × Int := Fb Dq B
def Bv (B : ByteArray) : PacketV := (AhI B).1
def Adg (B : ByteArray) : Int := (AhI B).2.1
def Xg (B : ByteArray) : Int := (AhI B).2.2
theorem Ah1 (n : Nat) (hn : 1048576 < n) (x0 : ByteArray) (b0 : x0.size ≤ 1048576) : B3 E0 (n + 13) 60 31 [Af x0] = some (.tup [.agg (Ap (Bv x0)), .sc (.int .i64 (Adg x0)), .sc (.int .i64 (Xg x0))]) := by
 have h := Ah0 n hn x0 b0
 rw [Ame] at h
 exact h
theorem AgR (n : Nat) (hn : 1048576 < n) (x0 : ByteArray) (b0 : x0.size ≤ 1048576) : B3 E0 (n + 13) 60 33 [Af x0] = some (.tup [.agg (Ap (Bv x0)), .sc (.int .i64 (Adg x0)), .sc (.int .i64 (Xg x0))]) := AgQ n hn x0 b0
end
section
open Go
def F4 (x : S8) : Bool := decide (((x.fHeld.size : Nat) : Int) = 0) || (!x.fBad && decide (Xg x.fHeld = 1))
theorem AgP (n : Nat) (hn : 1048576 < n) (x : S8) (b0 : x.fHeld.size ≤ 1048576) : B3 E0 (n + 14) 4 30 [.agg (Ic x)] = some (.sc (.bool (F4 x))) := by
 rw [Au, Ali, f30]
 refine Ci (G := (· = some (sb (F4 x)))) ?_
 try simp only [Fd, Fc]
 have s0 : Sep [] [] := Cb
 refine Iy s0 (Eh (O1 _)) fun i1 H s2 => Bb (o' := 0) rfl (Al (c := Af x.fHeld) s2 (.here) rfl (Eg s2 rfl (.cons .ro .nil) (AgR n (by omega) x.fHeld b0) rfl (AcR ⟨_, rfl, rfl⟩ (Kg _) (Bg (Bg Ea))) ?_))
 rintro _ _ H ⟨_, _, _, _, rfl, rfl, ⟨x3, x4, x5, x6, x7, x8, lx3, lx4, lx5, lx6, lx7, lx8, rfl, rfl⟩, ⟨_, rfl, ⟨_, rfl, ⟨rfl, rfl⟩⟩⟩⟩ s9
 simp only [zag, zau] at s9
 refine Bp (v := .agg [si ((Bv x.fHeld).fType), .sc (.bool (Bv x.fHeld).fDup), si ((Bv x.fHeld).fQos), .sc (.bool (Bv x.fHeld).fRetain), si ((Bv x.fHeld).fId), ss ((Bv x.fHeld).fTopic), x3, ss ((Bv x.fHeld).fClient), si ((Bv x.fHeld).fLevel), .sc (.bool (Bv x.fHeld).fClean), si ((Bv x.fHeld).fKeep), .sc (.bool (Bv x.fHeld).fHasWill), ss ((Bv x.fHeld).fWTopic), x4, si ((Bv x.fHeld).fWQos), .sc (.bool (Bv x.fHeld).fWRetain), .sc (.bool (Bv x.fHeld).fHasUser), ss ((Bv x.fHeld).fUser), .sc (.bool (Bv x.fHeld).fHasPass), x5, si ((Bv x.fHeld).fCode), .sc (.bool (Bv x.fHeld).fPresent), x6, x7, x8]) rfl (Bp (v := si (Adg x.fHeld)) rfl (Bp (v := si (Xg x.fHeld)) rfl (Id s9 fun i10 H s11 => B9 (cs' := [si ((Bv x.fHeld).fType), .sc (.bool (Bv x.fHeld).fDup), si ((Bv x.fHeld).fQos), .sc (.bool (Bv x.fHeld).fRetain), si ((Bv x.fHeld).fId), ss ((Bv x.fHeld).fTopic), x3, ss ((Bv x.fHeld).fClient), si ((Bv x.fHeld).fLevel), .sc (.bool (Bv x.fHeld).fClean), si ((Bv x.fHeld).fKeep), .sc (.bool (Bv x.fHeld).fHasWill), ss ((Bv x.fHeld).fWTopic), x4, si ((Bv x.fHeld).fWQos), .sc (.bool (Bv x.fHeld).fWRetain), .sc (.bool (Bv x.fHeld).fHasUser), ss ((Bv x.fHeld).fUser), .sc (.bool (Bv x.fHeld).fHasPass), x5, si ((Bv x.fHeld).fCode), .sc (.bool (Bv x.fHeld).fPresent), x6, x7, x8]) s11 (.here) (Ag (Ae rfl (Ae rfl (Ae rfl (Ae rfl (Ae rfl (Ae rfl (Ae lx3 (Ae rfl (Ae rfl (Ae rfl (Ae rfl (Ae rfl (Ae rfl (Ae lx4 (Ae rfl (Ae rfl (Ae rfl (Ae rfl (Ae rfl (Ae lx5 (Ae rfl (Ae rfl (Ae lx6 (Ae lx7 (Ae lx8 rfl)))))))))))))))))))))))))) rfl (B8 rfl) rfl fun H s12 => Bb (o' := 0) rfl (Al (c := Af x.fHeld) s12 zP7 rfl (Cn (A2 (Aa ((decide (((x.fHeld.size : Nat) : Int) = 0))) (fun h13 => ?_) fun h13 => ?_)))))))
 have dh13 := of_decide_eq_true h13
 refine Ac h13 (Ac h13 (Ac h13 (Ac h13 (Dj (Dj (Ac h13 (Ev h13 (Aj rfl ?_))))))))
 have e : F4 x = true := by
  unfold F4; simp only [h13, zbf, zaC, zax, za0, za5, zaG, zaR, zbn]; first | done | rfl | (simp [zbG]; done)
 ·rw [e]
  first | done | rfl
 have dh13 := of_decide_eq_false h13
 refine Ad h13 (Bb (o' := 1) rfl (Ad h13 (Al (c := sb x.fBad) s12 zP7 rfl (Ad h13 (B4 (Ad h13 (Aa (x.fBad) (fun h14 => ?_) fun h14 => ?_)))))))
 refine Ac (nF h14) (Ac (nF h14) (Ad h13 (Es (nF h14) (Es h13 (Aj rfl ?_)))))
 have e : F4 x = false := by
  unfold F4; simp only [h13, h14, zbf, zaC, zax, za0, za5, zaG, zaR, zbn]; first | done | rfl | (simp [zbG]; done)
 ·rw [e]
  first | done | rfl
 refine Ad (nT h14) (Ad (nT h14) (A2 (Ad h13 (Ev (nT h14) (Es h13 (Aj rfl ?_))))))
 have e : F4 x = (decide ((Xg x.fHeld) = 1)) := by
  unfold F4; simp only [h13, h14, zbf, zaC, zax, za0, za5, zaG, zaR, zbn]; first | done | rfl | (simp [zbG]; done)
 ·rw [e]
  first | done | rfl
theorem Ahz (n : Nat) (hn : 1048576 < n) (x : S8) (b0 : x.fHeld.size ≤ 1048576) : B3 E0 (n + 14) 4 29 [.agg (Ic x)] = some (.sc (.bool (F4 x))) := by
 rw [Au, Alh, f29]
 refine Ci (G := (· = some (sb (F4 x)))) ?_
 try simp only [Fd, Fc]
 have s0 : Sep [] [] := Cb
 refine Iy s0 (Eh (O1 _)) fun i1 H s2 => Bb (o' := 0) rfl (Al (c := Af x.fHeld) s2 (.here) rfl (Cn (A2 (Aa ((decide (((x.fHeld.size : Nat) : Int) = 0))) (fun h3 => ?_) fun h3 => ?_))))
 have dh3 := of_decide_eq_true h3
 refine Aq h3 (Aj rfl ?_)
 have e : F4 x = true := by
  unfold F4; simp only [h3, zbf, zaC, zax, za0, za5, zaG, zaR, zbn]; first | done | rfl | (simp [zbG]; done)
 ·rw [e]
  first | done | rfl
 have dh3 := of_decide_eq_false h3
 refine Av h3 (Bb (o' := 0) rfl (Al (c := Af x.fHeld) s2 (.here) rfl (Eg s2 rfl (.cons .ro .nil) (Ah1 n (by omega) x.fHeld b0) rfl (AcR ⟨_, rfl, rfl⟩ (Kg _) (Bg (Bg Ea))) ?_)))
 rintro _ _ H ⟨_, _, _, _, rfl, rfl, ⟨x4, x5, x6, x7, x8, x9, lx4, lx5, lx6, lx7, lx8, lx9, rfl, rfl⟩, ⟨_, rfl, ⟨_, rfl, ⟨rfl, rfl⟩⟩⟩⟩ s10
 simp only [zag, zau] at s10
 refine Bp (v := .agg [si ((Bv x.fHeld).fType), .sc (.bool (Bv x.fHeld).fDup), si ((Bv x.fHeld).fQos), .sc (.bool (Bv x.fHeld).fRetain), si ((Bv x.fHeld).fId), ss ((Bv x.fHeld).fTopic), x4, ss ((Bv x.fHeld).fClient), si ((Bv x.fHeld).fLevel), .sc (.bool (Bv x.fHeld).fClean), si ((Bv x.fHeld).fKeep), .sc (.bool (Bv x.fHeld).fHasWill), ss ((Bv x.fHeld).fWTopic), x5, si ((Bv x.fHeld).fWQos), .sc (.bool (Bv x.fHeld).fWRetain), .sc (.bool (Bv x.fHeld).fHasUser), ss ((Bv x.fHeld).fUser), .sc (.bool (Bv x.fHeld).fHasPass), x6, si ((Bv x.fHeld).fCode), .sc (.bool (Bv x.fHeld).fPresent), x7, x8, x9]) rfl (Bp (v := si (Adg x.fHeld)) rfl (Bp (v := si (Xg x.fHeld)) rfl (Id s10 fun i11 H s12 => B9 (cs' := [si ((Bv x.fHeld).fType), .sc (.bool (Bv x.fHeld).fDup), si ((Bv x.fHeld).fQos), .sc (.bool (Bv x.fHeld).fRetain), si ((Bv x.fHeld).fId), ss ((Bv x.fHeld).fTopic), x4, ss ((Bv x.fHeld).fClient), si ((Bv x.fHeld).fLevel), .sc (.bool (Bv x.fHeld).fClean), si ((Bv x.fHeld).fKeep), .sc (.bool (Bv x.fHeld).fHasWill), ss ((Bv x.fHeld).fWTopic), x5, si ((Bv x.fHeld).fWQos), .sc (.bool (Bv x.fHeld).fWRetain), .sc (.bool (Bv x.fHeld).fHasUser), ss ((Bv x.fHeld).fUser), .sc (.bool (Bv x.fHeld).fHasPass), x6, si ((Bv x.fHeld).fCode), .sc (.bool (Bv x.fHeld).fPresent), x7, x8, x9]) s12 (.here) (Ag (Ae rfl (Ae rfl (Ae rfl (Ae rfl (Ae rfl (Ae rfl (Ae lx4 (Ae rfl (Ae rfl (Ae rfl (Ae rfl (Ae rfl (Ae rfl (Ae lx5 (Ae rfl (Ae rfl (Ae rfl (Ae rfl (Ae rfl (Ae lx6 (Ae rfl (Ae rfl (Ae lx7 (Ae lx8 (Ae lx9 rfl)))))))))))))))))))))))))) rfl (B8 rfl) rfl fun H s13 => A2 (Aa ((decide ((Xg x.fHeld) = 1))) (fun h14 => ?_) fun h14 => ?_))))
 have dh14 := of_decide_eq_true h14
 refine Ad h14 (Bb (o' := 1) rfl (Ad h14 (Al (c := sb x.fBad) s13 zP7 rfl (Ad h14 (B4 (Ev h14 (Aj rfl ?_)))))))
 have e : F4 x = (!x.fBad) := by
  unfold F4; simp only [h3, h14, zbf, zaC, zax, za0, za5, zaG, zaR, zbn]; first | done | rfl | (simp [zbG]; done)
 ·rw [e]
  first | done | rfl
 have dh14 := of_decide_eq_false h14
 refine Ac h14 (Ac h14 (Ac h14 (Es h14 (Aj rfl ?_))))
 have e : F4 x = false := by
  unfold F4; simp only [h3, h14, zbf, zaC, zax, za0, za5, zaG, zaR, zbn]; first | done | rfl | (simp [zbG]; done)
 ·rw [e]
  first | done | rfl
end
section
open Go
def vE (s : ByteArray) : Bool := s.toList == (⟨#[]⟩ : ByteArray).toList
def Fz (m : Nl) : Bool := vE m.fTopic && (decide (((m.fBody.size : Nat) : Int) = 0) && (decide (m.fQos = 0) && !m.fRetain))
def Kt (c : Hk) : Bool := (c.fHasWill && H4 c.fW) || (!c.fHasWill && Fz c.fW)
def Ge (c : Hk) : Bool := if c.fUp then ((Bd c.fClient && !vE c.fClient) && (Bw c.fKeep 0 65535 && Kt c)) else (vE c.fClient && (decide (c.fKeep = 0) && (!c.fHasWill && Fz c.fW)))
def Ls (c : Hk) : Bool := decide (((c.fB.fHeld.size : Nat) : Int) = 0) && (!c.fB.fBad && (decide (((c.fPend.length : Nat) : Int) = 0) && (decide (((c.fOut.size : Nat) : Int) = 0) && (decide (c.fGen = 0) && (!c.fUp && (decide (c.fLast = 0) && (!c.fGone && Ge c)))))))
def Gk (c : Hk) : Bool := decide (1 ≤ c.fGen) && (F4 c.fB && (decide (((c.fPend.length : Nat) : Int) ≤ 6) && (decide (0 ≤ c.fLast) && Ge c)))
def H8 (c : Hk) : Bool := if c.fOpen then (c.fPend.all Ah && Gk c) else Ls c
structure U2 (c : Hk) : Prop where
 b : c.fB.fHeld.size ≤ 1048576
 l : c.fPend.length ≤ 1048576
 p : ∀ y ∈ c.fPend, G3 y
 t : c.fW.fTopic.size ≤ 1048576
 c : c.fClient.size ≤ 1048576
theorem Afa (c : Hk) (h : Ix c ≤ 1048576) : U2 c := by
 unfold Ix Ul Um at h
 have e1 := J3 Db c.fPend
 refine ⟨by omega, by omega, fun y hy => Amt y ?_, by omega, by omega⟩
 have := M7 (wt := Db) hy
 omega
theorem ltD (a b : Int) : decide (a < b) = !decide (b ≤ a) := by by_cases h : b ≤ a <;> simp [h] <;> omega
theorem Hq {s : ByteArray} : (s.toList == (⟨#[]⟩ : ByteArray).toList) = decide (((s.size : Nat) : Int) = 0) := by
 rw [zbq, decide_eq_true_eq, eqB]
 constructor
 rintro rfl
 rfl
 intro h
 apply Y4
 have : (bl s).length = 0 := by rw [Jn]; omega
 rw [zar this]
def AeP (a b : Nl) : Bool := a.fTopic.toList == b.fTopic.toList && (a.fBody.toList == b.fBody.toList && (decide (a.fQos = b.fQos) && (a.fRetain == b.fRetain)))
theorem Am0 (n : Nat) (hn : 1048576 < n) (a : Nl) (b : Nl) : B3 E0 (n + 2) 4 116 [.agg (Fn a), .agg (Fn b)] = some (.sc (.bool (AeP a b))) := by
 rw [Au, Aix, f116]
 refine Ci (G := (· = some (sb (AeP a b)))) ?_
 try simp only [Fd, Fc]
 have s0 : Sep [] [] := Cb
 refine Iy s0 (Eh (Jg _)) fun i1 H s2 => Iy s2 (Eh (Jg _)) fun i3 H s4 => Bb (o' := 0) rfl (Al (c := ss a.fTopic) s4 Ct rfl (Bb (o' := 0) rfl (Al (c := ss b.fTopic) s4 (.here) rfl (Rk ?_))))
 apply Aw ((a.fTopic.toList == b.fTopic.toList) && (a.fBody.toList == b.fBody.toList))
 intro b5 q5
 refine Aa ((a.fTopic.toList == b.fTopic.toList)) (fun h5 => ?_) fun h5 => ?_
 exact Ad h5 (Bb (o' := 1) rfl (Ad h5 (Al (c := Af a.fBody) s4 Ct rfl (Ad h5 (Bb (o' := 1) rfl (Ad h5 (Al (c := Af b.fBody) s4 (.here) rfl (Ad h5 (Ao (v := (.bool (a.fBody.toList == b.fBody.toList))) s4 rfl (.cons .ro (.cons .ro .nil)) (Jf n _ a.fBody b.fBody) (Bs h5 (D8 q5 h5) Ai))))))))))
 exact Ac h5 (Ac h5 (Ac h5 (Ac h5 (Ac h5 (Br h5 (D7 q5 h5) Ai)))))
 intro b5 q5
 apply Aw (b5 && (decide (a.fQos = b.fQos)))
 intro b6 q6
 refine Aa (b5) (fun h6 => ?_) fun h6 => ?_
 exact Ad h6 (Bb (o' := 2) rfl (Ad h6 (Al (c := si a.fQos) s4 Ct rfl (Ad h6 (Bb (o' := 2) rfl (Ad h6 (Al (c := si b.fQos) s4 (.here) rfl (Ad h6 (A2 (Bs h6 (D8 q6 h6) Ai))))))))))
 exact Ac h6 (Ac h6 (Ac h6 (Ac h6 (Ac h6 (Br h6 (D7 q6 h6) Ai)))))
 intro b6 q6
 apply Aw (b6 && (a.fRetain == b.fRetain))
 intro b7 q7
 refine Aa (b6) (fun h7 => ?_) fun h7 => ?_
 exact Ad h7 (Bb (o' := 3) rfl (Ad h7 (Al (c := sb a.fRetain) s4 Ct rfl (Ad h7 (Bb (o' := 3) rfl (Ad h7 (Al (c := sb b.fRetain) s4 (.here) rfl (Ad h7 (Ama (v := sb (a.fRetain == b.fRetain)) (fun k => rfl) (Bs h7 (D8 q7 h7) Ai))))))))))
 exact Ac h7 (Ac h7 (Ac h7 (Ac h7 (Ac h7 (Br h7 (D7 q7 h7) Ai)))))
 intro b7 q7
 refine Aj rfl ?_
 have e : AeP a b = b7 := by
  (simp only [AeP, vE, Hq, q5, q6, q7, if_true, if_false, zaa, zbg, Dy]; ac_rfl)
 rw [e]
theorem AnE (m : Nl) : AeP m ⟨⟨#[]⟩, ⟨#[]⟩, 0, false⟩ = Fz m := by
 unfold AeP Fz
 simp only [vE, Hq]
 cases m.fRetain <;> rfl
theorem Ahw (n : Nat) (hn : 1048576 < n) (m : Nl) : B3 E0 (n + 2) 4 116 [.agg (Fn m), .agg (Fn ⟨⟨#[]⟩, ⟨#[]⟩, 0, false⟩)] = some (.sc (.bool (Fz m))) := by
 rw [← AnE]
 exact Am0 n hn m _
theorem AbY (n : Nat) (hn : 1048576 < n) (m : Nl) : B3 E0 (n + 1) 4 78 [.agg (Fn m)] = some (.sc (.bool (Fz m))) := by
 rw [Au, AlB, f78]
 refine Ci (G := (· = some (sb (Fz m)))) ?_
 try simp only [Fd, Fc]
 have s0 : Sep [] [] := Cb
 refine Iy s0 (Eh (Jg _)) fun i1 H s2 => Bb (o' := 0) rfl (Al (c := ss m.fTopic) s2 (.here) rfl (Rk ?_))
 apply Aw ((m.fTopic.toList == (⟨#[]⟩ : ByteArray).toList) && (decide (((m.fBody.size : Nat) : Int) = 0)))
 intro b3 q3
 refine Aa ((m.fTopic.toList == (⟨#[]⟩ : ByteArray).toList)) (fun h3 => ?_) fun h3 => ?_
 exact Ad h3 (Bb (o' := 1) rfl (Ad h3 (Al (c := Af m.fBody) s2 (.here) rfl (Ad h3 (Cn (Ad h3 (A2 (Bs h3 (D8 q3 h3) Ai))))))))
 exact Ac h3 (Ac h3 (Ac h3 (Ac h3 (Br h3 (D7 q3 h3) Ai))))
 intro b3 q3
 apply Aw (b3 && (decide (m.fQos = 0)))
 intro b4 q4
 refine Aa (b3) (fun h4 => ?_) fun h4 => ?_
 exact Ad h4 (Bb (o' := 2) rfl (Ad h4 (Al (c := si m.fQos) s2 (.here) rfl (Ad h4 (A2 (Bs h4 (D8 q4 h4) Ai))))))
 exact Ac h4 (Ac h4 (Ac h4 (Br h4 (D7 q4 h4) Ai)))
 intro b4 q4
 apply Aw (b4 && (!m.fRetain))
 intro b5 q5
 refine Aa (b4) (fun h5 => ?_) fun h5 => ?_
 exact Ad h5 (Bb (o' := 3) rfl (Ad h5 (Al (c := sb m.fRetain) s2 (.here) rfl (Ad h5 (B4 (Bs h5 (D8 q5 h5) Ai))))))
 exact Ac h5 (Ac h5 (Ac h5 (Br h5 (D7 q5 h5) Ai)))
 intro b5 q5
 refine Aj rfl ?_
 have e : Fz m = b5 := by
  (simp only [Fz, vE, Hq, q3, q4, q5, if_true, if_false, zaa, zbg, Dy]; ac_rfl)
 rw [e]
theorem An6 (n : Nat) (hn : 1048576 < n) (s : ByteArray) (hs : s.size ≤ 1048576) : B3 E0 (n + 4) 4 117 [.sc (.string s)] = some (.sc (.bool (Bd s && !vE s))) := by
 rw [Au, Aiy, f117]
 refine Ci (G := (· = some (sb (Bd s && !vE s)))) ?_
 try simp only [Fd, Fc]
 have s0 : Sep [] [] := Cb
 refine Tf rfl rfl (L4 _ s (Ot hs)) (Aa ((Bd s)) (fun h1 => ?_) fun h1 => ?_)
 refine Ad h1 (Ad h1 (Pq (Ev h1 (Aj rfl ?_))))
 have e : (Bd s && !vE s) = (!(s.toList == (⟨#[]⟩ : ByteArray).toList)) := by
  simp only [vE, h1, if_true, if_false, zaa, zbg, Dy]
 rw [e]
 refine Ac h1 (Ac h1 (Es h1 (Aj rfl ?_)))
 have e : (Bd s && !vE s) = false := by
  simp only [vE, h1, if_true, if_false, zaa, zbg, Dy]
 rw [e]
theorem AcY (n : Nat) (hn : 1048576 < n) (c : Hk) (hc : U2 c) : B3 E0 (n + 8) 4 83 [.agg (Ga c)] = some (.sc (.bool (Ge c))) := by
 rw [Au, AlG, f83]
 refine Ci (G := (· = some (sb (Ge c)))) ?_
 try simp only [Fd, Fc]
 have s0 : Sep [] [] := Cb
 refine Iy s0 (Eh (He _)) fun i1 H s2 => Bb (o' := 5) rfl (Al (c := sb c.fUp) s2 (.here) rfl (B4 (Aa (c.fUp) (fun h3 => ?_) fun h3 => ?_)))
 refine Av (nF h3) (Bb (o' := 6) rfl (Al (c := ss c.fClient) s2 (.here) rfl (Ao (v := (.bool (Bd c.fClient && !vE c.fClient))) s2 rfl (.cons .sc .nil) (An6 (n + 3) (by omega) c.fClient hc.c) ?_)))
 apply Aw ((Bd c.fClient && !vE c.fClient) && (Bw c.fKeep 0 65535))
 intro b4 q4
 refine Aa ((Bd c.fClient && !vE c.fClient)) (fun h4 => ?_) fun h4 => ?_
 exact Ad h4 (Bb (o' := 7) rfl (Ad h4 (Al (c := si c.fKeep) s2 (.here) rfl (Ad h4 (Ao (v := (.bool (Bw c.fKeep 0 65535))) s2 rfl (.cons .sc .nil) (Aa9 (n + 5) c.fKeep) (Bs h4 (D8 q4 h4) Ai))))))
 exact Ac h4 (Ac h4 (Ac h4 (Br h4 (D7 q4 h4) Ai)))
 intro b4 q4
 apply Aw (b4 && ((c.fHasWill && (H4 c.fW)) || ((!c.fHasWill) && (Fz c.fW))))
 intro b5 q5
 refine Aa (b4) (fun h5 => ?_) fun h5 => ?_
 refine Ad h5 (Bb (o' := 9) rfl (Ad h5 (Al (c := sb c.fHasWill) s2 (.here) rfl (Ad h5 ?_))))
 apply Aw (c.fHasWill && (H4 c.fW))
 intro b6 q6
 refine Aa (c.fHasWill) (fun h6 => ?_) fun h6 => ?_
 exact Ad h6 (Bb (o' := 10) rfl (Ad h6 (Q1 (ds := Fn c.fW) s2 (.here) (B8 rfl) rfl (Ad h6 (Ao (v := (.bool (H4 c.fW))) s2 rfl (.aggF (Jg _) .nil) (AgS (n + 1) (by omega) _ c.fW hc.t) (Ad h5 (Bs h6 (D8 q6 h6) Ai)))))))
 exact Ac h6 (Ac h6 (Ac h6 (Ad h5 (Br h6 (D7 q6 h6) Ai))))
 intro b6 q6
 refine Ad h5 ?_
 apply Aw (b6 || ((!c.fHasWill) && (Fz c.fW)))
 intro b7 q7
 refine Aa (b6) (fun h7 => ?_) fun h7 => ?_
 exact Ac h7 (Ac h7 (Ac h7 (Ac h7 (Dj (Dj (Dj (Dj (Ac h7 (Ad h5 (Bs h7 (Yh q7 h7) Ai))))))))))
 refine Ad h7 (Bb (o' := 9) rfl (Ad h7 (Al (c := sb c.fHasWill) s2 (.here) rfl (Ad h7 (B4 (Ad h7 ?_))))))
 apply Aw ((!c.fHasWill) && (Fz c.fW))
 intro b8 q8
 refine Aa (c.fHasWill) (fun h8 => ?_) fun h8 => ?_
 exact Ac (nF h8) (Ac (nF h8) (Ac (nF h8) (Ac (nF h8) (Ad h7 (Br (nF h8) (D7 q8 (nF h8)) Ai)))))
 exact Ad (nT h8) (Bb (o' := 10) rfl (Ad (nT h8) (Q1 (ds := Fn c.fW) s2 (.here) (B8 rfl) rfl (Ad (nT h8) (Bf (cs := [sE, .nl, i0, bF]) rfl (Ad (nT h8) (Ao (v := (.bool (Fz c.fW))) s2 rfl (.aggF (Jg _) (.agg (.cons .sc (.cons .nl (Ir .nil))) .nil)) (Ahw (n + 5) (by omega) c.fW) (Ad h7 (Bs (nT h8) (D8 q8 (nT h8)) Ai)))))))))
 intro b8 q8
 exact Ad h5 (Br h7 (by subst q8; exact Yg q7 h7) Ai)
 intro b7 q7
 exact Bs h5 (by subst q7 q6; exact D8 q5 h5) Ai
 exact Ac h5 (Ac h5 (Ac h5 (Dj (Dj (Dj (Ac h5 (Ac h5 (Dj (Dj (Dj (Dj (Dj (Dj (Dj (Dj (Dj (Ac h5 (Br h5 (D7 q5 h5) Ai))))))))))))))))))
 intro b5 q5
 refine Aj rfl ?_
 have e : Ge c = b5 := by
  (simp only [Ge, Kt, vE, Hq, q4, q5, h3, if_true, if_false, zaa, zbg, Dy]; ac_rfl)
 rw [e]
 refine Aq (nT h3) (Bb (o' := 6) rfl (Al (c := ss c.fClient) s2 (.here) rfl (Rk ?_)))
 apply Aw ((c.fClient.toList == (⟨#[]⟩ : ByteArray).toList) && (decide (c.fKeep = 0)))
 intro b9 q9
 refine Aa ((c.fClient.toList == (⟨#[]⟩ : ByteArray).toList)) (fun h9 => ?_) fun h9 => ?_
 exact Ad h9 (Bb (o' := 7) rfl (Ad h9 (Al (c := si c.fKeep) s2 (.here) rfl (Ad h9 (A2 (Bs h9 (D8 q9 h9) Ai))))))
 exact Ac h9 (Ac h9 (Ac h9 (Br h9 (D7 q9 h9) Ai)))
 intro b9 q9
 apply Aw (b9 && (!c.fHasWill))
 intro b10 q10
 refine Aa (b9) (fun h10 => ?_) fun h10 => ?_
 exact Ad h10 (Bb (o' := 9) rfl (Ad h10 (Al (c := sb c.fHasWill) s2 (.here) rfl (Ad h10 (B4 (Bs h10 (D8 q10 h10) Ai))))))
 exact Ac h10 (Ac h10 (Ac h10 (Br h10 (D7 q10 h10) Ai)))
 intro b10 q10
 apply Aw (b10 && (Fz c.fW))
 intro b11 q11
 refine Aa (b10) (fun h11 => ?_) fun h11 => ?_
 exact Ad h11 (Bb (o' := 10) rfl (Ad h11 (Q1 (ds := Fn c.fW) s2 (.here) (B8 rfl) rfl (Ad h11 (Bf (cs := [sE, .nl, i0, bF]) rfl (Ad h11 (Ao (v := (.bool (Fz c.fW))) s2 rfl (.aggF (Jg _) (.agg (.cons .sc (.cons .nl (Ir .nil))) .nil)) (Ahw (n + 5) (by omega) c.fW) (Bs h11 (D8 q11 h11) Ai))))))))
 exact Ac h11 (Ac h11 (Ac h11 (Ac h11 (Br h11 (D7 q11 h11) Ai))))
 intro b11 q11
 refine Aj rfl ?_
 have e : Ge c = b11 := by
  (simp only [Ge, Kt, vE, Hq, q9, q10, q11, h3, if_true, if_false, zaa, zbg, Dy]; ac_rfl)
 rw [e]
theorem Aic (n : Nat) (hn : 1048576 < n) (c : Hk) (hc : U2 c) : B3 E0 (n + 9) 4 82 [.agg (Ga c)] = some (.sc (.bool (Ls c))) := by
 rw [Au, AlF, f82]
 refine Ci (G := (· = some (sb (Ls c)))) ?_
 try simp only [Fd, Fc]
 have s0 : Sep [] [] := Cb
 refine Iy s0 (Eh (He _)) fun i1 H s2 => Bb (o' := 2) rfl (Bb (o' := 2) rfl (Al (c := Af c.fB.fHeld) s2 (.here) rfl (Cn (A2 ?_))))
 apply Aw ((decide (((c.fB.fHeld.size : Nat) : Int) = 0)) && (!c.fB.fBad))
 intro b3 q3
 refine Aa ((decide (((c.fB.fHeld.size : Nat) : Int) = 0))) (fun h3 => ?_) fun h3 => ?_
 exact Ad h3 (Bb (o' := 2) rfl (Ad h3 (Bb (o' := 3) rfl (Ad h3 (Al (c := sb c.fB.fBad) s2 (.here) rfl (Ad h3 (B4 (Bs h3 (D8 q3 h3) Ai))))))))
 exact Ac h3 (Ac h3 (Ac h3 (Ac h3 (Br h3 (D7 q3 h3) Ai))))
 intro b3 q3
 apply Aw (b3 && (decide (((c.fPend.length : Nat) : Int) = 0)))
 intro b4 q4
 refine Aa (b3) (fun h4 => ?_) fun h4 => ?_
 exact Ad h4 (Bb (o' := 4) rfl (Ad h4 (Al (c := Ch Ap c.fPend) s2 (.here) rfl (Ad h4 (Cn (Ad h4 (A2 (Bs h4 (D8 q4 h4) Ai))))))))
 exact Ac h4 (Ac h4 (Ac h4 (Ac h4 (Br h4 (D7 q4 h4) Ai))))
 intro b4 q4
 apply Aw (b4 && (decide (((c.fOut.size : Nat) : Int) = 0)))
 intro b5 q5
 refine Aa (b4) (fun h5 => ?_) fun h5 => ?_
 exact Ad h5 (Bb (o' := 15) rfl (Ad h5 (Al (c := Af c.fOut) s2 (.here) rfl (Ad h5 (Cn (Ad h5 (A2 (Bs h5 (D8 q5 h5) Ai))))))))
 exact Ac h5 (Ac h5 (Ac h5 (Ac h5 (Br h5 (D7 q5 h5) Ai))))
 intro b5 q5
 apply Aw (b5 && (decide (c.fGen = 0)))
 intro b6 q6
 refine Aa (b5) (fun h6 => ?_) fun h6 => ?_
 exact Ad h6 (Bb (o' := 1) rfl (Ad h6 (Al (c := si c.fGen) s2 (.here) rfl (Ad h6 (A2 (Bs h6 (D8 q6 h6) Ai))))))
 exact Ac h6 (Ac h6 (Ac h6 (Br h6 (D7 q6 h6) Ai)))
 intro b6 q6
 apply Aw (b6 && (!c.fUp))
 intro b7 q7
 refine Aa (b6) (fun h7 => ?_) fun h7 => ?_
 exact Ad h7 (Bb (o' := 5) rfl (Ad h7 (Al (c := sb c.fUp) s2 (.here) rfl (Ad h7 (B4 (Bs h7 (D8 q7 h7) Ai))))))
 exact Ac h7 (Ac h7 (Ac h7 (Br h7 (D7 q7 h7) Ai)))
 intro b7 q7
 apply Aw (b7 && (decide (c.fLast = 0)))
 intro b8 q8
 refine Aa (b7) (fun h8 => ?_) fun h8 => ?_
 exact Ad h8 (Bb (o' := 8) rfl (Ad h8 (Al (c := si c.fLast) s2 (.here) rfl (Ad h8 (A2 (Bs h8 (D8 q8 h8) Ai))))))
 exact Ac h8 (Ac h8 (Ac h8 (Br h8 (D7 q8 h8) Ai)))
 intro b8 q8
 apply Aw (b8 && (!c.fGone))
 intro b9 q9
 refine Aa (b8) (fun h9 => ?_) fun h9 => ?_
 exact Ad h9 (Bb (o' := 14) rfl (Ad h9 (Al (c := sb c.fGone) s2 (.here) rfl (Ad h9 (B4 (Bs h9 (D8 q9 h9) Ai))))))
 exact Ac h9 (Ac h9 (Ac h9 (Br h9 (D7 q9 h9) Ai)))
 intro b9 q9
 apply Aw (b9 && (Ge c))
 intro b10 q10
 refine Aa (b9) (fun h10 => ?_) fun h10 => ?_
 exact Ad h10 (Ar s2 (.here) rfl (Ad h10 (Ao (v := (.bool (Ge c))) s2 rfl (.aggF (He _) .nil) (AcY n (by omega) c hc) (Bs h10 (D8 q10 h10) Ai))))
 exact Ac h10 (Ac h10 (Br h10 (D7 q10 h10) Ai))
 intro b10 q10
 refine Aj rfl ?_
 have e : Ls c = b10 := by
  (simp only [Ls, vE, Hq, q3, q4, q5, q6, q7, q8, q9, q10, if_true, if_false, zaa, zbg, Dy]; ac_rfl)
 rw [e]
theorem Sd (n : Nat) (hn : 1048576 < n) (c : Hk) (hc : U2 c) (h3 : c.fOpen = true)  : ∀ (t pre : List PacketV) (m : Nat) (i : Int) (i1 : Nat) (H : Ab), c.fPend = pre ++ t → i = ((pre.length : Nat) : Int) → t.length < m → Sep H [.blk i1 (Ga c) true] → Gd (· = some (.sc (.bool (t.all Ah && Gk c)))) (Rd (PR (n + 15) AV) (n + 15) (fun x H => Bc As E0.tp 4 H x) m (.ptr i1 0) (Ch Ap c.fPend) (.sc (.int .i64 ((c.fPend.length : Nat) : Int))) (.sc (.int .i64 i)) H)
 | [], pre, m + 1, i, i1, H, he, hi, hm, s0 => by
  obtain rfl : pre = c.fPend := by simpa using he.symm
  have hl := hc.l
  have hl := hc.l
  rw [Rd]
  try simp only [Fd, Fc]
  refine Dd (Av (by simp [hi]) (Bb (o' := 1) rfl (Al (c := .sc (.int .i64 c.fGen)) s0 (.here) rfl (AcN ?_))))
  apply Aw ((decide (1 ≤ c.fGen)) && (F4 c.fB))
  intro b201 q201
  refine Aa ((decide (1 ≤ c.fGen))) (fun h201 => ?_) fun h201 => ?_
  exact Ad h201 (Bb (o' := 2) rfl (Ad h201 (Q1 (ds := Ic c.fB) s0 (.here) (B8 rfl) rfl (Ad h201 (Ao (v := (.bool (F4 c.fB))) s0 rfl (.aggF (O1 _) .nil) (AgP (n + 1) (by omega) c.fB hc.b) (Bs h201 (D8 q201 h201) Ai))))))
  exact Ac h201 (Ac h201 (Ac h201 (Br h201 (D7 q201 h201) Ai)))
  intro b201 q201
  apply Aw (b201 && (decide (((c.fPend.length : Nat) : Int) ≤ 6)))
  intro b202 q202
  refine Aa (b201) (fun h202 => ?_) fun h202 => ?_
  exact Ad h202 (Bb (o' := 4) rfl (Ad h202 (Al (c := Ch Ap c.fPend) s0 (.here) rfl (Ad h202 (Cn (Ad h202 (O2 (Bs h202 (D8 q202 h202) Ai))))))))
  exact Ac h202 (Ac h202 (Ac h202 (Ac h202 (Br h202 (D7 q202 h202) Ai))))
  intro b202 q202
  apply Aw (b202 && (decide (0 ≤ c.fLast)))
  intro b203 q203
  refine Aa (b202) (fun h203 => ?_) fun h203 => ?_
  exact Ad h203 (Bb (o' := 8) rfl (Ad h203 (Al (c := si c.fLast) s0 (.here) rfl (Ad h203 (AcN (Bs h203 (D8 q203 h203) Ai))))))
  exact Ac h203 (Ac h203 (Ac h203 (Br h203 (D7 q203 h203) Ai)))
  intro b203 q203
  apply Aw (b203 && (Ge c))
  intro b204 q204
  refine Aa (b203) (fun h204 => ?_) fun h204 => ?_
  exact Ad h204 (Ar s0 (.here) rfl (Ad h204 (Ao (v := (.bool (Ge c))) s0 rfl (.aggF (He _) .nil) (AcY (n + 7) (by omega) c hc) (Bs h204 (D8 q204 h204) Ai))))
  exact Ac h204 (Ac h204 (Br h204 (D7 q204 h204) Ai))
  intro b204 q204
  refine Aj rfl ?_
  have e : ([].all Ah && Gk c) = b204 := by
   (simp only [Gk, Ge, Kt, vE, Hq, q201, q202, q203, q204, zas, za7, h3, if_true, if_false, zaa, zbg, Dy]; ac_rfl)
  rw [e]
 | y :: t, pre, m + 1, i, i1, H, he, hi, hm, s0 => by
  have hlt : pre.length < c.fPend.length := by rw [he]; simp
  have hl := hc.l
  have hl := hc.l
  rw [Rd]
  try simp only [Fd, Fc]
  refine Dd (Aq (by simp [hi]; omega) (K6 hi Ji (by decide) he (AcO (Ji _) (Id s0 fun i201 H s202 => B9 (cs' := Ap y) s202 (.here) (Eh (Ce _)) rfl (B8 rfl) rfl fun H s203 => Ar s203 (.here) rfl (Ao (v := (.bool (Ah y))) s203 rfl (.aggF (Ce _) .nil) (Qj (n + 5) (by omega) y (hc.p y (by rw [he]; simp))) (B4 (Aa ((Ah y)) (fun h204 => ?_) fun h204 => ?_)))))))
  refine Av (nF h204) (Bx (by omega) (by omega) ?_)
  have e205 : ((y :: t).all Ah && Gk c) = (t.all Ah && Gk c) := by
   try simp only [bne_iff_ne, beq_iff_eq, beq_eq_false_iff_ne, Cw] at h3 h204
   simp only [zas, h3, h204, za5]
  rw [e205]
  exact Sd n hn c hc h3  t (pre ++ [y]) m _ i1 _ (by rw [he]; simp) (by rw [hi]; simp) (by simpa using hm) (by simpa only [za2, zat, zaB] using (s203.sel (.cons Ct .nil)))
  refine Aq (nT h204) (Aj rfl ?_)
  have e : ((y :: t).all Ah && Gk c) = false := by
   simp only [Gk, vE, Hq, zas, za7, h3, h204, if_true, if_false, zaa, zbg, Dy]
  rw [e]
theorem Ae7 (n : Nat) (hn : 1048576 < n) (c : Hk) (hc : U2 c) : B3 E0 (n + 16) 4 44 [.agg (Ga c)] = some (.sc (.bool (H8 c))) := by
 rw [Au, Alp, f44]
 refine Ci (G := (· = some (sb (H8 c)))) ?_
 have hl := hc.l
 try simp only [Fd, Fc]
 have s0 : Sep [] [] := Cb
 refine Iy s0 (Eh (He _)) fun i1 H s2 => Bb (o' := 0) rfl (Al (c := sb c.fOpen) s2 (.here) rfl (B4 (Aa (c.fOpen) (fun h3 => ?_) fun h3 => ?_)))
 refine Av (nF h3) (Bb (o' := 4) rfl (Al (c := Ch Ap c.fPend) s2 (.here) rfl (Cn ?_)))
 have hv : H8 c = (c.fPend.all Ah && Gk c) := by unfold H8; simp only [h3, if_true]
 rw [hv]
 exact Sd n hn c hc h3  c.fPend [] _ 0 i1 _ rfl rfl (by omega) s2
 refine Aq (nT h3) (Ar s2 (.here) rfl (Ao (v := (.bool (Ls c))) s2 rfl (.aggF (He _) .nil) (Aic (n + 6) (by omega) c hc) (Aj rfl ?_)))
 have e : H8 c = (Ls c) := by
  simp only [H8, Ls, Ge, Kt, vE, Hq, h3, if_true, if_false, zaa, zbg, Dy]
 rw [e]
theorem S1 (n : Nat) (hn : 1048576 < n) (c : Hk) (hc : U2 c) (h3 : c.fOpen = true)  : ∀ (t pre : List PacketV) (m : Nat) (i : Int) (i1 : Nat) (H : Ab), c.fPend = pre ++ t → i = ((pre.length : Nat) : Int) → t.length < m → Sep H [.blk i1 (Ga c) true] → Gd (· = some (.sc (.bool (t.all Ah && Gk c)))) (Rc (PR (n + 15) AV) (n + 15) (fun x H => Bc As E0.tp 4 H x) m (.ptr i1 0) (.sc (.int .i64 i)) H)
 | [], pre, m + 1, i, i1, H, he, hi, hm, s0 => by
  obtain rfl : pre = c.fPend := by simpa using he.symm
  have hl := hc.l
  have hl := hc.l
  rw [Rc]
  try simp only [Fd, Fc]
  refine Bb (o' := 4) rfl (Al (c := Ch Ap c.fPend) s0 (.here) rfl (Cn (Dd (Av (by simp [hi]) (Bb (o' := 1) rfl (Al (c := .sc (.int .i64 c.fGen)) s0 (.here) rfl (Dd ?_)))))))
  apply Aw ((decide (c.fGen < 1)) || (!(F4 c.fB)))
  intro b201 q201
  refine Aa ((decide (c.fGen < 1))) (fun h201 => ?_) fun h201 => ?_
  exact Ac h201 (Ac h201 (Ac h201 (Ac h201 (Bs h201 (Yh q201 h201) Ai))))
  exact Ad h201 (Bb (o' := 2) rfl (Ad h201 (Q1 (ds := Ic c.fB) s0 (.here) (B8 rfl) rfl (Ad h201 (Ao (v := (.bool (F4 c.fB))) s0 rfl (.aggF (O1 _) .nil) (Ahz (n + 1) (by omega) c.fB hc.b) (Ad h201 (B4 (Br h201 (Yg q201 h201) Ai))))))))
  intro b201 q201
  apply Aw (b201 || (decide (6 < ((c.fPend.length : Nat) : Int))))
  intro b202 q202
  refine Aa (b201) (fun h202 => ?_) fun h202 => ?_
  exact Ac h202 (Ac h202 (Ac h202 (Ac h202 (Bs h202 (Yh q202 h202) Ai))))
  exact Ad h202 (Bb (o' := 4) rfl (Ad h202 (Al (c := Ch Ap c.fPend) s0 (.here) rfl (Ad h202 (Cn (Ad h202 (Ej (Br h202 (Yg q202 h202) Ai))))))))
  intro b202 q202
  apply Aw (b202 || (decide (c.fLast < 0)))
  intro b203 q203
  refine Aa (b202) (fun h203 => ?_) fun h203 => ?_
  exact Ac h203 (Ac h203 (Ac h203 (Bs h203 (Yh q203 h203) Ai)))
  exact Ad h203 (Bb (o' := 8) rfl (Ad h203 (Al (c := si c.fLast) s0 (.here) rfl (Ad h203 (Dd (Br h203 (Yg q203 h203) Ai))))))
  intro b203 q203
  refine Aa (b203) (fun h204 => ?_) fun h204 => ?_
  refine Aq h204 (Aj rfl ?_)
  have e : ([].all Ah && Gk c) = false := by
   clear s0
   (subst q203; subst q202; subst q201; simp only [Gk, Ge, Kt, vE, Hq, ltD, zas, za7] at h3 h204 ⊢; revert h3 h204; generalize decide (1 ≤ c.fGen) = z0; generalize F4 c.fB = z1; generalize decide (((c.fPend.length : Nat) : Int) ≤ 6) = z2; generalize decide (0 ≤ c.fLast) = z3; generalize c.fUp = z4; generalize c.fHasWill = z5; generalize Fz c.fW = z6; generalize H4 c.fW = z7; generalize Bd c.fClient = z8; generalize decide (((c.fClient.size : Nat) : Int) = 0) = z9; generalize Bw c.fKeep 0 65535 = z10; generalize decide (c.fKeep = 0) = z11; generalize c.fOpen = z12; revert z0 z1 z2 z3 z4 z5 z6 z7 z8 z9 z10 z11 z12; decide)
  rw [e]
  refine Av h204 (Bb (o' := 5) rfl (Al (c := sb c.fUp) s0 (.here) rfl (B4 (Aa (c.fUp) (fun h205 => ?_) fun h205 => ?_))))
  refine Av (nF h205) (Bb (o' := 9) rfl (Al (c := sb c.fHasWill) s0 (.here) rfl ?_))
  apply Aw (c.fHasWill && (!(H4 c.fW)))
  intro b206 q206
  refine Aa (c.fHasWill) (fun h206 => ?_) fun h206 => ?_
  exact Ad h206 (Bb (o' := 10) rfl (Ad h206 (Q1 (ds := Fn c.fW) s0 (.here) (B8 rfl) rfl (Ad h206 (Ao (v := (.bool (H4 c.fW))) s0 rfl (.aggF (Jg _) .nil) (Ah2 (n + 9) (by omega) _ c.fW hc.t) (Ad h206 (B4 (Bs h206 (D8 q206 h206) Ai))))))))
  exact Ac h206 (Ac h206 (Ac h206 (Ac h206 (Br h206 (D7 q206 h206) Ai))))
  intro b206 q206
  apply Aw (b206 || ((!c.fHasWill) && (!(Fz c.fW))))
  intro b207 q207
  refine Aa (b206) (fun h207 => ?_) fun h207 => ?_
  exact Ac h207 (Ac h207 (Ac h207 (Ac h207 (Dj (Dj (Dj (Dj (Ac h207 (Bs h207 (Yh q207 h207) Ai)))))))))
  refine Ad h207 (Bb (o' := 9) rfl (Ad h207 (Al (c := sb c.fHasWill) s0 (.here) rfl (Ad h207 (B4 (Ad h207 ?_))))))
  apply Aw ((!c.fHasWill) && (!(Fz c.fW)))
  intro b208 q208
  refine Aa (c.fHasWill) (fun h208 => ?_) fun h208 => ?_
  exact Ac (nF h208) (Ac (nF h208) (Ac (nF h208) (Ac (nF h208) (Ad h207 (Br (nF h208) (D7 q208 (nF h208)) Ai)))))
  exact Ad (nT h208) (Bb (o' := 10) rfl (Ad (nT h208) (Q1 (ds := Fn c.fW) s0 (.here) (B8 rfl) rfl (Ad (nT h208) (Ao (v := (.bool (Fz c.fW))) s0 rfl (.aggF (Jg _) .nil) (AbY (n + 14) (by omega) c.fW) (Ad (nT h208) (B4 (Ad h207 (Bs (nT h208) (D8 q208 (nT h208)) Ai)))))))))
  intro b208 q208
  exact Br h207 (by subst q208; exact Yg q207 h207) Ai
  intro b207 q207
  refine Aa (b207) (fun h209 => ?_) fun h209 => ?_
  refine Aq h209 (Aj rfl ?_)
  have e : ([].all Ah && Gk c) = false := by
   clear s0
   (subst q207; subst q206; subst q203; subst q202; subst q201; simp only [Gk, Ge, Kt, vE, Hq, ltD, zas, za7] at h3 h204 h205 h209 ⊢; revert h3 h204 h205 h209; generalize decide (1 ≤ c.fGen) = z0; generalize F4 c.fB = z1; generalize decide (((c.fPend.length : Nat) : Int) ≤ 6) = z2; generalize decide (0 ≤ c.fLast) = z3; generalize c.fUp = z4; generalize c.fHasWill = z5; generalize Fz c.fW = z6; generalize H4 c.fW = z7; generalize Bd c.fClient = z8; generalize decide (((c.fClient.size : Nat) : Int) = 0) = z9; generalize Bw c.fKeep 0 65535 = z10; generalize decide (c.fKeep = 0) = z11; generalize c.fOpen = z12; revert z0 z1 z2 z3 z4 z5 z6 z7 z8 z9 z10 z11 z12; decide)
  rw [e]
  refine Av h209 (Bb (o' := 6) rfl (Al (c := ss c.fClient) s0 (.here) rfl (Ao (v := (.bool (Bd c.fClient))) s0 rfl (.cons .sc .nil) (Io (n + 11) (by omega) _ c.fClient) ?_)))
  apply Aw ((Bd c.fClient) && (!(c.fClient.toList == (⟨#[]⟩ : ByteArray).toList)))
  intro b210 q210
  refine Aa ((Bd c.fClient)) (fun h210 => ?_) fun h210 => ?_
  exact Ad h210 (Bb (o' := 6) rfl (Ad h210 (Al (c := ss c.fClient) s0 (.here) rfl (Ad h210 (Pq (Bs h210 (D8 q210 h210) Ai))))))
  exact Ac h210 (Ac h210 (Ac h210 (Br h210 (D7 q210 h210) Ai)))
  intro b210 q210
  apply Aw (b210 && (Bw c.fKeep 0 65535))
  intro b211 q211
  refine Aa (b210) (fun h211 => ?_) fun h211 => ?_
  exact Ad h211 (Bb (o' := 7) rfl (Ad h211 (Al (c := si c.fKeep) s0 (.here) rfl (Ad h211 (Ao (v := (.bool (Bw c.fKeep 0 65535))) s0 rfl (Pd .nil) (Hf (n + 14) _ c.fKeep 0 65535) (Bs h211 (D8 q211 h211) Ai))))))
  exact Ac h211 (Ac h211 (Ac h211 (Br h211 (D7 q211 h211) Ai)))
  intro b211 q211
  refine Aj rfl ?_
  have e : ([].all Ah && Gk c) = b211 := by
   clear s0
   (subst q211; subst q210; subst q207; subst q206; subst q203; subst q202; subst q201; simp only [Gk, Ge, Kt, vE, Hq, ltD, zas, za7] at h3 h204 h205 h209 ⊢; revert h3 h204 h205 h209; generalize decide (1 ≤ c.fGen) = z0; generalize F4 c.fB = z1; generalize decide (((c.fPend.length : Nat) : Int) ≤ 6) = z2; generalize decide (0 ≤ c.fLast) = z3; generalize c.fUp = z4; generalize c.fHasWill = z5; generalize Fz c.fW = z6; generalize H4 c.fW = z7; generalize Bd c.fClient = z8; generalize decide (((c.fClient.size : Nat) : Int) = 0) = z9; generalize Bw c.fKeep 0 65535 = z10; generalize decide (c.fKeep = 0) = z11; generalize c.fOpen = z12; revert z0 z1 z2 z3 z4 z5 z6 z7 z8 z9 z10 z11 z12; decide)
  rw [e]
  refine Aq (nT h205) (Bb (o' := 6) rfl (Al (c := ss c.fClient) s0 (.here) rfl (Rk ?_)))
  apply Aw ((c.fClient.toList == (⟨#[]⟩ : ByteArray).toList) && (decide (c.fKeep = 0)))
  intro b212 q212
  refine Aa ((c.fClient.toList == (⟨#[]⟩ : ByteArray).toList)) (fun h212 => ?_) fun h212 => ?_
  exact Ad h212 (Bb (o' := 7) rfl (Ad h212 (Al (c := si c.fKeep) s0 (.here) rfl (Ad h212 (A2 (Bs h212 (D8 q212 h212) Ai))))))
  exact Ac h212 (Ac h212 (Ac h212 (Br h212 (D7 q212 h212) Ai)))
  intro b212 q212
  apply Aw (b212 && (!c.fHasWill))
  intro b213 q213
  refine Aa (b212) (fun h213 => ?_) fun h213 => ?_
  exact Ad h213 (Bb (o' := 9) rfl (Ad h213 (Al (c := sb c.fHasWill) s0 (.here) rfl (Ad h213 (B4 (Bs h213 (D8 q213 h213) Ai))))))
  exact Ac h213 (Ac h213 (Ac h213 (Br h213 (D7 q213 h213) Ai)))
  intro b213 q213
  apply Aw (b213 && (Fz c.fW))
  intro b214 q214
  refine Aa (b213) (fun h214 => ?_) fun h214 => ?_
  exact Ad h214 (Bb (o' := 10) rfl (Ad h214 (Q1 (ds := Fn c.fW) s0 (.here) (B8 rfl) rfl (Ad h214 (Ao (v := (.bool (Fz c.fW))) s0 rfl (.aggF (Jg _) .nil) (AbY (n + 14) (by omega) c.fW) (Bs h214 (D8 q214 h214) Ai))))))
  exact Ac h214 (Ac h214 (Ac h214 (Br h214 (D7 q214 h214) Ai)))
  intro b214 q214
  refine Aj rfl ?_
  have e : ([].all Ah && Gk c) = b214 := by
   clear s0
   (subst q214; subst q213; subst q212; subst q203; subst q202; subst q201; simp only [Gk, Ge, Kt, vE, Hq, ltD, zas, za7] at h3 h204 h205 ⊢; revert h3 h204 h205; generalize decide (1 ≤ c.fGen) = z0; generalize F4 c.fB = z1; generalize decide (((c.fPend.length : Nat) : Int) ≤ 6) = z2; generalize decide (0 ≤ c.fLast) = z3; generalize c.fUp = z4; generalize c.fHasWill = z5; generalize Fz c.fW = z6; generalize H4 c.fW = z7; generalize Bd c.fClient = z8; generalize decide (((c.fClient.size : Nat) : Int) = 0) = z9; generalize Bw c.fKeep 0 65535 = z10; generalize decide (c.fKeep = 0) = z11; generalize c.fOpen = z12; revert z0 z1 z2 z3 z4 z5 z6 z7 z8 z9 z10 z11 z12; decide)
  rw [e]
 | y :: t, pre, m + 1, i, i1, H, he, hi, hm, s0 => by
  have hlt : pre.length < c.fPend.length := by rw [he]; simp
  have hl := hc.l
  have hl := hc.l
  rw [Rc]
  try simp only [Fd, Fc]
  refine Bb (o' := 4) rfl (Al (c := Ch Ap c.fPend) s0 (.here) rfl (Cn (Dd (Aq (by simp [hi]; omega) (Bb (o' := 4) rfl (Al (c := Ch Ap c.fPend) s0 (.here) rfl (K6 hi Ji (by decide) he (AcO (Ji _) (Ao (v := (.bool (Ah y))) s0 rfl (.aggF (Ce _) .nil) (Qt (n + 5) (by omega) y (hc.p y (by rw [he]; simp))) (B4 (Aa ((Ah y)) (fun h201 => ?_) fun h201 => ?_)))))))))))
  refine Av (nF h201) (Bx (by omega) (by omega) ?_)
  have e202 : ((y :: t).all Ah && Gk c) = (t.all Ah && Gk c) := by
   try simp only [bne_iff_ne, beq_iff_eq, beq_eq_false_iff_ne, Cw] at h3 h201
   simp only [zas, h3, h201, za5]
  rw [e202]
  exact S1 n hn c hc h3  t (pre ++ [y]) m _ i1 _ (by rw [he]; simp) (by rw [hi]; simp) (by simpa using hm) (by simpa only [za2, zat, zaB] using (s0.sel (.cons (.here) .nil)))
  refine Aq (nT h201) (Aj rfl ?_)
  have e : ((y :: t).all Ah && Gk c) = false := by
   simp only [Gk, vE, Hq, zas, za7, h3, h201, if_true, if_false, zaa, zbg, Dy]
  rw [e]
theorem AeI (n : Nat) (hn : 1048576 < n) (c : Hk) (hc : U2 c) : B3 E0 (n + 16) 4 43 [.agg (Ga c)] = some (.sc (.bool (H8 c))) := by
 rw [Au, Alo, f43]
 refine Ci (G := (· = some (sb (H8 c)))) ?_
 have hl := hc.l
 try simp only [Fd, Fc]
 have s0 : Sep [] [] := Cb
 refine Iy s0 (Eh (He _)) fun i1 H s2 => Bb (o' := 0) rfl (Al (c := sb c.fOpen) s2 (.here) rfl (B4 (Aa (c.fOpen) (fun h3 => ?_) fun h3 => ?_)))
 refine Av (nF h3) ?_
 have hv : H8 c = (c.fPend.all Ah && Gk c) := by unfold H8; simp only [h3, if_true]
 rw [hv]
 exact S1 n hn c hc h3  c.fPend [] _ 0 i1 _ rfl rfl (by omega) s2
 refine Aq (nT h3) (Bb (o' := 1) rfl (Al (c := si c.fGen) s2 (.here) rfl (A2 ?_)))
 apply Aw ((decide (c.fGen = 0)) && (decide (((c.fB.fHeld.size : Nat) : Int) = 0)))
 intro b4 q4
 refine Aa ((decide (c.fGen = 0))) (fun h4 => ?_) fun h4 => ?_
 exact Ad h4 (Bb (o' := 2) rfl (Ad h4 (Bb (o' := 2) rfl (Ad h4 (Al (c := Af c.fB.fHeld) s2 (.here) rfl (Ad h4 (Cn (Ad h4 (A2 (Bs h4 (D8 q4 h4) Ai))))))))))
 exact Ac h4 (Ac h4 (Ac h4 (Ac h4 (Ac h4 (Br h4 (D7 q4 h4) Ai)))))
 intro b4 q4
 apply Aw (b4 && (!c.fB.fBad))
 intro b5 q5
 refine Aa (b4) (fun h5 => ?_) fun h5 => ?_
 exact Ad h5 (Bb (o' := 2) rfl (Ad h5 (Bb (o' := 3) rfl (Ad h5 (Al (c := sb c.fB.fBad) s2 (.here) rfl (Ad h5 (B4 (Bs h5 (D8 q5 h5) Ai))))))))
 exact Ac h5 (Ac h5 (Ac h5 (Ac h5 (Br h5 (D7 q5 h5) Ai))))
 intro b5 q5
 apply Aw (b5 && (decide (((c.fPend.length : Nat) : Int) = 0)))
 intro b6 q6
 refine Aa (b5) (fun h6 => ?_) fun h6 => ?_
 exact Ad h6 (Bb (o' := 4) rfl (Ad h6 (Al (c := Ch Ap c.fPend) s2 (.here) rfl (Ad h6 (Cn (Ad h6 (A2 (Bs h6 (D8 q6 h6) Ai))))))))
 exact Ac h6 (Ac h6 (Ac h6 (Ac h6 (Br h6 (D7 q6 h6) Ai))))
 intro b6 q6
 apply Aw (b6 && (!c.fUp))
 intro b7 q7
 refine Aa (b6) (fun h7 => ?_) fun h7 => ?_
 exact Ad h7 (Bb (o' := 5) rfl (Ad h7 (Al (c := sb c.fUp) s2 (.here) rfl (Ad h7 (B4 (Bs h7 (D8 q7 h7) Ai))))))
 exact Ac h7 (Ac h7 (Ac h7 (Br h7 (D7 q7 h7) Ai)))
 intro b7 q7
 apply Aw (b7 && (c.fClient.toList == (⟨#[]⟩ : ByteArray).toList))
 intro b8 q8
 refine Aa (b7) (fun h8 => ?_) fun h8 => ?_
 exact Ad h8 (Bb (o' := 6) rfl (Ad h8 (Al (c := ss c.fClient) s2 (.here) rfl (Ad h8 (Rk (Bs h8 (D8 q8 h8) Ai))))))
 exact Ac h8 (Ac h8 (Ac h8 (Br h8 (D7 q8 h8) Ai)))
 intro b8 q8
 apply Aw (b8 && (decide (c.fKeep = 0)))
 intro b9 q9
 refine Aa (b8) (fun h9 => ?_) fun h9 => ?_
 exact Ad h9 (Bb (o' := 7) rfl (Ad h9 (Al (c := si c.fKeep) s2 (.here) rfl (Ad h9 (A2 (Bs h9 (D8 q9 h9) Ai))))))
 exact Ac h9 (Ac h9 (Ac h9 (Br h9 (D7 q9 h9) Ai)))
 intro b9 q9
 apply Aw (b9 && (decide (c.fLast = 0)))
 intro b10 q10
 refine Aa (b9) (fun h10 => ?_) fun h10 => ?_
 exact Ad h10 (Bb (o' := 8) rfl (Ad h10 (Al (c := si c.fLast) s2 (.here) rfl (Ad h10 (A2 (Bs h10 (D8 q10 h10) Ai))))))
 exact Ac h10 (Ac h10 (Ac h10 (Br h10 (D7 q10 h10) Ai)))
 intro b10 q10
 apply Aw (b10 && (!c.fHasWill))
 intro b11 q11
 refine Aa (b10) (fun h11 => ?_) fun h11 => ?_
 exact Ad h11 (Bb (o' := 9) rfl (Ad h11 (Al (c := sb c.fHasWill) s2 (.here) rfl (Ad h11 (B4 (Bs h11 (D8 q11 h11) Ai))))))
 exact Ac h11 (Ac h11 (Ac h11 (Br h11 (D7 q11 h11) Ai)))
 intro b11 q11
 apply Aw (b11 && (Fz c.fW))
 intro b12 q12
 refine Aa (b11) (fun h12 => ?_) fun h12 => ?_
 exact Ad h12 (Bb (o' := 10) rfl (Ad h12 (Q1 (ds := Fn c.fW) s2 (.here) (B8 rfl) rfl (Ad h12 (Ao (v := (.bool (Fz c.fW))) s2 rfl (.aggF (Jg _) .nil) (AbY (n + 14) (by omega) c.fW) (Bs h12 (D8 q12 h12) Ai))))))
 exact Ac h12 (Ac h12 (Ac h12 (Br h12 (D7 q12 h12) Ai)))
 intro b12 q12
 apply Aw (b12 && (!c.fGone))
 intro b13 q13
 refine Aa (b12) (fun h13 => ?_) fun h13 => ?_
 exact Ad h13 (Bb (o' := 14) rfl (Ad h13 (Al (c := sb c.fGone) s2 (.here) rfl (Ad h13 (B4 (Bs h13 (D8 q13 h13) Ai))))))
 exact Ac h13 (Ac h13 (Ac h13 (Br h13 (D7 q13 h13) Ai)))
 intro b13 q13
 apply Aw (b13 && (decide (((c.fOut.size : Nat) : Int) = 0)))
 intro b14 q14
 refine Aa (b13) (fun h14 => ?_) fun h14 => ?_
 exact Ad h14 (Bb (o' := 15) rfl (Ad h14 (Al (c := Af c.fOut) s2 (.here) rfl (Ad h14 (Cn (Ad h14 (A2 (Bs h14 (D8 q14 h14) Ai))))))))
 exact Ac h14 (Ac h14 (Ac h14 (Ac h14 (Br h14 (D7 q14 h14) Ai))))
 intro b14 q14
 refine Aj rfl ?_
 have e : H8 c = b14 := by
  (simp only [H8, Ls, Ge, Kt, vE, Hq, q4, q5, q6, q7, q8, q9, q10, q11, q12, q13, q14, h3, if_true, if_false, zaa, zbg, Dy]; cases c.fUp <;> simp only [if_true, if_false, zaa, zbg, if_true, if_false, zaa, Dy] <;> ac_rfl)
 rw [e]
theorem Z1 (n : Nat) (hn : 1048576 < n) (x0 : Hk) (k0 : Wj x0) (b0 : Ix x0 ≤ 1048576) : B3 E0 (n + 18) 4 43 [.agg (Ga x0)] = some (.sc (.bool (H8 x0))) := AeI (n + 2) (by omega) x0 (Afa x0 b0)
theorem Zl (n : Nat) (hn : 1048576 < n) (x0 : Hk) (k0 : Wj x0) (b0 : Ix x0 ≤ 1048576) : B3 E0 (n + 18) 4 44 [.agg (Ga x0)] = some (.sc (.bool (H8 x0))) := Ae7 (n + 2) (by omega) x0 (Afa x0 b0)
end
end Go.Proofs.YtlcpigdmekgajaaGreatDoor.Abs
namespace Go.Proofs.YtlcpigdmekgajaaGreatDoor.Abs
open _root_.Bool renaming false_eq_true → zaa, and_eq_true → zae, not_true → zax, not_false → za0, true_and → za5, false_or → zaC, false_and → zaG, or_eq_true → zaO, and_true → zaR, true_or → zbf, not_not → zbg, and_false → zbn, eq_iff_iff → zbq, and_comm → zbG
open _root_.Option renaming map_eq_some_iff → zaJ
open _root_.List renaming length_append → zaf, nil_append → zag, append_assoc → zai, length_cons → zal, append_nil → zan, length_nil → zao, length_singleton → zaq, eq_nil_of_length_eq_zero → zar, all_cons → zas, map_cons → zat, cons_append → zau, map_append → za2, flatten_cons → za3, all_eq_true → za6, all_nil → za7, map_nil → zaB, flatten_nil → zbw
open _root_.ByteArray renaming size_append → zaj, size_extract → zaw
open _root_.Nat renaming le_trans → za9
open Go
set_option linter.unusedVariables false
set_option linter.unusedSimpArgs false
theorem AbS (n : Nat) (hn : 1048576 < n) (x0 : Hk) (k0 : Wj x0) : B3 E0 (n + 30) 4 9 [.agg (Ga x0)] = some (.sc (.bool true)) := by
 rw [Au, AmD, f9]
 simp only [Fl, H9, Dp, Fv, Dl, Gl, Lb, Cx, Fj]
 refine Ami (He x0) fun it1 ht1 => Yf ht1 (Oq x0) (An4 rfl (Du (M8 _ (He x0)) (Du (Hd _ _) I2)) (Ah5 (n + 24) (by omega) _ x0 k0 _ (by omega) (by omega)) (by omega) rfl fun b0 => Yf ht1 (Oq x0) (AbW rfl (Du (M8 _ (He x0)) I2) (Xb (n + 24) (by omega) x0 (by omega)) (He x0) (Zq Z6 (Uw 4 x0)) fun Xt13 yt13 lt13 et13 wt13 => ?_))
 replace ht1 := Md ht1 Xt13
 refine Iz rfl (Du wt13 I2) (Z1 (n + 11) (by omega) x0 k0 (by omega)) (Yf ht1 (Oq x0) (AbW rfl (Du (M8 _ (He x0)) I2) (Xb (n + 24) (by omega) x0 (by omega)) (He x0) (Zq Z6 (Uw 4 x0)) fun Xt16 yt16 lt16 et16 wt16 => ?_))
 replace ht1 := Md ht1 Xt16
 replace wt13 := wt13.grow Xt16
 refine Amk rfl (lt16.trans (Oq x0)) et16 fun it5 ht5 => ?_
 replace ht1 := Md ht1 [⟨yt16, true, true⟩]
 replace wt13 := wt13.grow [⟨yt16, true, true⟩]
 replace wt16 := wt16.grow [⟨yt16, true, true⟩]
 refine Yf ht5 (lt16.trans (Oq x0)) (Iz rfl (Du wt16 I2) (Zl (n + 11) (by omega) x0 k0 (by omega)) (Amj (Yf ht5 (lt16.trans (Oq x0)) (Yf ht1 (Oq x0) (AbW rfl (Du (M8 _ (He x0)) I2) (Xb (n + 24) (by omega) x0 (by omega)) (He x0) (Zq Z6 (Uw 4 x0)) fun Xt24 yt24 lt24 et24 wt24 => ?_)))))
 replace ht1 := Md ht1 Xt24
 replace wt13 := wt13.grow Xt24
 replace wt16 := wt16.grow Xt24
 replace ht5 := Md ht5 Xt24
 refine An3 rfl (Du wt16 (Du wt24 I2)) (Afc (n + 24) (by omega) _ x0 (by omega)) ?_
 rfl
end Go.Proofs.YtlcpigdmekgajaaGreatDoor.Abs
namespace Go.Proofs.YtlcpigdmekgajaaGreatDoor.fnExactConnOk
open _root_.Option renaming map_eq_some_iff → zaJ
open Go Go.Shelf Go.Lib Go.ChangeShapes Go.WideShapes Go.ChangeAt Go.RowKit
open Go.Proofs.YtlcpigdmekgajaaGreatDoor.Abs
set_option linter.unusedVariables false
theorem own : ownKnob Tryz.prog.godebug = none := by kernel_rfl
theorem Aj1 : laidOutB Tryz.prog = true := by kernel_rfl
theorem types : ([29].all (tyB As 14)) = true := by kernel_rfl
theorem Aht : ([29].all fun t => Tryz.prog.readableRec t && decide (t < Tryz.prog.types.size)) = true := by kernel_rfl
theorem AnA {xs : List AV} (h : Amp As 14 [29] xs) : ∃ n, B3 E0 n 4 9 xs = some (.sc (.bool true)) := by
 obtain ⟨y0, ys0, rfl, ⟨cs0, h0, rfl⟩, h⟩ := h
 obtain rfl := h
 obtain ⟨x0, rfl, k0⟩ := Ahg h0
 exact ⟨_, AbS 1048577 (by omega) x0 k0⟩
def wArgs : Array Value := #[.agg #[.bool false, .int .i64 0, .slice none 0 0, .bool false, .slice none 0 0, .bool false, .string ⟨#[]⟩, .int .i64 0, .int .i64 0, .bool false, .string ⟨#[]⟩, .slice none 0 0, .int .i64 0, .bool false, .bool false, .slice none 0 0]]
noncomputable def Qk (os : Os) : World :=
 let w0 := World.holding Tryz.prog os ⟨#[], #[], []⟩
 let put (h : Array Obj) (g : Nat) (cs : Array Value) : Array Obj := h.modify g fun
  | .cells _ t frozen => .cells cs t frozen
  | o => o
 let h1 := put w0.heap 0 (Lib.firstTab.map fun z => Value.int .u8 z).toArray
 let h2 := put h1 1 ((List.range 16).flatMap fun i => [Value.int .u8 (Lib.accLo i), Value.int .u8 (Lib.accHi i)]).toArray
 { w0 with heap := h2 }
theorem AgY (os : Os) (args : Array Value) : laidMet Tryz.prog Rows.fnExactConnOkRow.laid ((Qk os).forCall (fun _ _ => 0) ⟨#[], args, []⟩).memory :=
 (LaidIn.of_run (l := Rows.fnExactConnOkRow.laid) [0, 1] 8 (by kernel_rfl) (by kernel_rfl) (by kernel_rfl) (by kernel_rfl)).met
set_option maxRecDepth 100000 in
theorem Abh (os : Os) {H : Type} (enc : TypeId × Value → H) :
  (OpenSpec.ofChange Rows.fnExactConnOkSpec).preRow enc Tryz.prog Tryz.f9 Rows.fnExactConnOkRow.domain false Rows.fnExactConnOkRow.laid ((Qk os).forCall (fun _ _ => 0) ⟨#[], wArgs, []⟩).memory wArgs := by
 have hw : ((DataW.whole enc Tryz.prog ((Qk os).forCall (fun _ _ => 0) ⟨#[], wArgs, []⟩).memory Tryz.f9.params.toList (OpenSpec.ofChange Rows.fnExactConnOkSpec).vars false wArgs.toList 8).map (fun x => x.2.1)) = some [] := by kernel_rfl
 obtain ⟨⟨x1, x2, x3⟩, hx, hx1⟩ := zaJ.1 hw
 simp only at hx1
 subst hx1
 exact OpenSpec.preRow_of_cond 8 hx rfl (fun k hk => by cases hk) rfl (AgY os _)
set_option maxRecDepth 100000 in
set_option maxHeartbeats 2000000 in
theorem lifted (os : Os) (started : os.Started) (H : Type) (enc : TypeId × Value → H) (F : Stop.Interp) :
  ReturnsInHanded {} Tryz.checked os 9 .any ((OpenSpec.ofChange Rows.fnExactConnOkSpec).preRow enc Tryz.prog Tryz.f9 Rows.fnExactConnOkRow.domain false Rows.fnExactConnOkRow.laid) (((OpenSpec.ofChange Rows.fnExactConnOkSpec).at F).post enc Tryz.prog Tryz.f9 false true false false) := by
 refine returnsInHanded_of_row (C := Tryz.checked) (s := OpenSpec.ofChange Rows.fnExactConnOkSpec) own started (by kernel_rfl) Tryz.func9
  (witness_row_atRef (enc := enc) (C := Tryz.checked) false (Qk os) wArgs rfl (by kernel_rfl) (by kernel_rfl) (by kernel_rfl) (Abh os enc)) ?_
 intro W base args ds gs before hval0 hW _ _ _ hL hS _
 have hval : ∀ (j : Nat) t v, Tryz.f9.params[j]? = some t → args[j]? = some v → Value.okWide Tryz.prog W .any base t v := hval0
 have hW' := hW
 obtain ⟨p, q, hA0, hV, rfl, hfz, hnd⟩ := hW
 have hA : DataW.TrodAll enc Tryz.prog W 0 (fun _ => true) true Tryz.f9.params.toList args.toList ds p := hA0
 rw [Tryz.params9] at hA hval
 obtain ⟨xs, hok, hl, hx⟩ := U5 AhB (n := 14) [29] args.toList ds p hA (fun j t v ht hv => hval j t v (by simpa using ht) (by simpa using hv)) types
 obtain ⟨m, hm⟩ := AnA hok
 have htab0 := utf8Tabs_of_readsT (U8Types.of196 Tryz.laysValid) ⟨by kernel_rfl, by kernel_rfl, by kernel_rfl, by kernel_rfl, by kernel_rfl, by kernel_rfl, by kernel_rfl⟩ (Pinned.utf8First_eq ▸ Lib.laidMet.reads hL (.tail _ (.head _))) (Lib.laidMet.reads hL (.head _))
 have htab : J0 W := ⟨htab0, cell_of_shapedOpen_int (zero := #[.int .i64 0]) hS (of_decide_eq_true (by kernel_rfl)) (by kernel_rfl) rfl (by kernel_rfl) (by kernel_rfl) Tryz.underlying3⟩
 have hc := AeO Aou hm (w := W) htab hl hx
 have hA1 := hA
 obtain ⟨v0, vs0, d0, ds0, p0, q0, hargs, rfl, rfl, g0, r0⟩ := trodAll_cons hA
 obtain ⟨rfl, rfl, rfl⟩ := trodAll_nil r0
 obtain ⟨rfl, rfl⟩ := trodVars_none hV
 have hc2 : Calls Tryz.prog 9 args W fun e W' => e = .returned (.bool true) ∧ Below W.heap.size W W' := by simpa using hc
 refine hc2.mono fun e W' ⟨he, bel⟩ => ?_
 subst he
 exact ⟨_, rfl, _, _, _, [], _, [], hW', trodAll_mk1 (shut_bool Tryz.underlying4 _), Ra Aj1 bel Aht hA1, rfl, bel.frame _, fun h => by cases h⟩
end Go.Proofs.YtlcpigdmekgajaaGreatDoor.fnExactConnOk
