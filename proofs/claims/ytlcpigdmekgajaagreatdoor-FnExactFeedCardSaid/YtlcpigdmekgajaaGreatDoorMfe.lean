/- What the proof needs, part 5: a sound evaluator over trees, the program's functions on it, and what they come to. -/
import Derived.Test.YtlcpigdmekgajaaGreatDoorMfd
set_option linter.unusedVariables false
set_option linter.unusedSimpArgs false
set_option maxRecDepth 100000
set_option maxHeartbeats 32000000
namespace Go.Proofs.YtlcpigdmekgajaaGreatDoor.Abs
open _root_.Bool renaming false_eq_true → zaa, and_eq_true → zag, not_true → zau, not_false → zaw, true_and → za2, false_and → za4, and_true → za6, false_or → za7, or_eq_true → zaK, and_false → zaL, true_or → zaU, and_comm → zbR
open _root_.Option renaming bind_some → zad, getD_some → zaG
open _root_.List renaming getElem?_eq_some_iff → zac, length_append → zae, append_assoc → zaf, nil_append → zai, getElem?_append_right → zaj, replicate → zak, getElem?_append_left → zal, append_nil → zam, length_cons → zan, cons_append → zaq, eq_nil_of_length_eq_zero → zar, length_singleton → zas, map_cons → zat, mem_cons_of_mem → zav, length_nil → zax, all_cons → zaz, mem_cons_self → za1, flatten_cons → za3, drop_append_of_le_length → za5, all_eq_true → za9, map_nil → zaO, take_append_drop → zaV, drop_length → zaW, length_take → zbc, flatten_append → zbd, replicate_succ → zbn, replicate_append_replicate → zbo, drop_drop → zbq, mem_cons → zb9, flatten_nil → zbA, length_drop → zbB, take_left' → zbG, length_map → zbQ
open _root_.ByteArray renaming size_append → zah, size_extract → zap, size → zbx
open _root_.Nat renaming le_refl → zao, zero_le → zay, zero_add → za0, le_trans → zaA, add_assoc → zaH, add_zero → zaR, sub_self → zbe, mul_one → zby, succ_mul → zb3, add_comm → zbM
open _root_.Int renaming tmod_eq_emod_of_nonneg → zaC, toNat_natCast → zbg
section
open Go
theorem Af9 (n : Nat) (hn : 1048576 < n) (c : Nat) (B : ByteArray) (a : Int) (b : Bool) (hB : B.size ≤ 1099511627776) (h0 : 0 ≤ a) (h1 : a ≤ ((B.size : Nat) : Int)) {β : Type} {G : Option β → Prop} {KH : KO β} {H : Ab} {L : List Ck} (s0 : Sep H (.blk c [Ae B, .sc (.int .i64 a), .sc (.bool b)] true :: L)) (hk : ∀ (v : Int) (a' : Int) (b' : Bool) (H' : Ab), Lo B (a, b) = (v, a', b') → Sep H' (.blk c [Ae B, .sc (.int .i64 a'), .sc (.bool b')] true :: L) → Gd G (KH (.sc (.int .i64 v)) H')) : Gd G (Dy E0 (n + 1) β 100 [.ptr c 0] H fun x H => KH x H) := by
 rw [Ajt, f100]
 try simp only [Fa, E9]
 refine Cy (Wy (Bd (c := sb b) s0 (.here) rfl (Ac (b) (fun h1 => ?_) fun h1 => ?_)))
 refine Am h1 (Am h1 (Am h1 (Am h1 (Am h1 (Am h1 (Am h1 (Am h1 (Am h1 (Am h1 (D7 h1 (Au rfl (Cy (Wy (Cg s0 (.here) rfl rfl fun H s2 => ?_))))))))))))))
 have e : Lo B (a, b) = (0, a, true) := by
  unfold Lo; simp [h1]
 exact hk _ _ _ _ e s2
 refine Ao h1 (Ao h1 (Cy (Ao h1 (gf1 (Ao h1 (Bd (c := si a) s0 (.here) rfl (Ao h1 (Ao h1 (Cy (Ao h1 (Q9 (Ao h1 (Bd (c := Ae B) s0 (.here) rfl (Ao h1 (Dd (Ao h1 (AlV (D3 h1 (Ac ((decide (((B.size : Nat) : Int) ≤ a))) (fun h3 => ?_) fun h3 => ?_)))))))))))))))))))
 have dh3 := of_decide_eq_true h3
 refine Au h3 (Cy (Wy (Cg s0 (.here) rfl rfl fun H s4 => ?_)))
 have e : Lo B (a, b) = (0, a, true) := by
  simp only [Ea] at h3
  unfold Lo; simp [h1, h3]
 exact hk _ _ _ _ e s4
 have dh3 := of_decide_eq_false h3
 refine A6 h3 (Cy (gf1 (Bd (c := si a) s0 (.here) rfl (Bq (by omega) (by omega) (Cy (gf1 (Cg s0 (.here) rfl rfl fun H s5 => Cy (Q9 (Bd (c := Ae B) s5 (.here) rfl (Cy (gf1 (Bd (c := si (a + 1)) s5 (.here) rfl (Px (by omega) (by omega) ?_)))))))))))))
 have w6 := Dw B ((a + 1) - 1)
 refine Gp (by omega) (by omega) fun _ => Fq (c := su (Ax B ((a + 1) - 1))) rfl (K4 (by omega) (by omega) ?_)
 have e : Lo B (a, b) = ((Ax B ((a + 1) - 1)), (a + 1), b) := by
  clear hk s0 s5
  simp only [Ea] at h3
  unfold Lo; simp [h1, h3]; try omega
 exact hk _ _ _ _ e s5
theorem Aje (n : Nat) (hn : 1048576 < n) (c : Nat) (B : ByteArray) (a : Int) (b : Bool) (hB : B.size ≤ 1099511627776) (h0 : 0 ≤ a) (h1 : a ≤ ((B.size : Nat) : Int)) {β : Type} {G : Option β → Prop} {KH : KO β} {H : Ab} {L : List Ck} (s0 : Sep H (.blk c [Ae B, .sc (.int .i64 a), .sc (.bool b)] true :: L)) (hk : ∀ (v : Int) (a' : Int) (b' : Bool) (H' : Ab), Hl B (a, b) = (v, a', b') → Sep H' (.blk c [Ae B, .sc (.int .i64 a'), .sc (.bool b')] true :: L) → Gd G (KH (.sc (.int .i64 v)) H')) : Gd G (Dy E0 (n + 2) β 102 [.ptr c 0] H fun x H => KH x H) := by
 rw [Aju, f102]
 try simp only [Fa, E9]
 refine Cy (Q9 (Bd (c := Ae B) s0 (.here) rfl (Cy (gf1 (Bd (c := si a) s0 (.here) rfl ?_)))))
 obtain ⟨wq1, yq1, oq1, q1⟩ : ∃ w y o, Bg B a = (w, y, o) := ⟨_, _, _, rfl⟩
 have bq1 := F2 q1
 refine Do s0 rfl (.cons .ro (.cons .sc .nil)) (by have h := AdE n (by omega) B a (by omega) (by omega); rw [q1] at h; exact h) rfl (A1 (A1 (A1 C2))) ?_
 rintro _ _ H ⟨_, rfl, ⟨_, rfl, ⟨_, rfl, ⟨rfl, rfl⟩⟩⟩⟩ s2
 simp only [zai] at s2
 refine A9 (v := si wq1) rfl (A9 (v := si yq1) rfl (A9 (v := sb oq1) rfl (Cy (Wy (Bd (c := sb b) s2 (.here) rfl (Ac (b) (fun h3 => ?_) fun h3 => ?_))))))
 refine Am h3 (Am h3 (D7 h3 (Au rfl (Cy (Wy (Cg s2 (.here) rfl rfl fun H s4 => ?_))))))
 have e : Hl B (a, b) = (0, a, true) := by
  unfold Hl; simp [q1, h3]
 exact hk _ _ _ _ e s4
 refine Ao h3 (Ao h3 (Cv (D3 h3 (Ac (oq1) (fun h5 => ?_) fun h5 => ?_))))
 refine A6 (nF h5) (Cy (gf1 (Cg s2 (.here) rfl rfl fun H s6 => ?_)))
 have e : Hl B (a, b) = (wq1, yq1, b) := by
  unfold Hl; simp [q1, h3, h5]
 exact hk _ _ _ _ e s6
 refine Au (nT h5) (Cy (Wy (Cg s2 (.here) rfl rfl fun H s7 => ?_)))
 have e : Hl B (a, b) = (0, a, true) := by
  unfold Hl; simp [q1, h3, h5]
 exact hk _ _ _ _ e s7
theorem Kb (n : Nat) (hn : 1048576 < n) (c : Nat) (B : ByteArray) (a : Int) (b : Bool) (hB : B.size ≤ 1099511627776) (h0 : 0 ≤ a) (h1 : a ≤ ((B.size : Nat) : Int)) {β : Type} {G : Option β → Prop} {KH : KO β} {H : Ab} {L : List Ck} (s0 : Sep H (.blk c [Ae B, .sc (.int .i64 a), .sc (.bool b)] true :: L)) (hk : ∀ (x : AV) (v : ByteArray) (a' : Int) (b' : Bool) (H' : Ab), A2 x = true → Ef B (a, b) = (v, a', b') → Sep H' (.own x 22 (Ae v) :: .blk c [Ae B, .sc (.int .i64 a'), .sc (.bool b')] true :: L) → Gd G (KH x H')) : Gd G (Dy E0 (n + 6) β 129 [.ptr c 0] H fun x H => KH x H) := by
 rw [AjC, f129]
 try simp only [Fa, E9]
 refine Cy (Q9 (Bd (c := Ae B) s0 (.here) rfl (Cy (gf1 (Bd (c := si a) s0 (.here) rfl ?_)))))
 obtain ⟨vq1, yq1, oq1, q1⟩ : ∃ w y o, A8 B a = (w, y, o) := ⟨_, _, _, rfl⟩
 have bq1 := Fe q1
 refine Do s0 rfl (.cons .ro (.cons .sc .nil)) (by have h := AkC n (by omega) B a (by omega) (by omega); rw [q1] at h; exact h) rfl (Hx (ty := 22) rfl (Ca vq1) (A1 (A1 C2))) ?_
 rintro _ _ H ⟨x2, _, _, lx2, rfl, rfl, ⟨_, rfl, ⟨_, rfl, ⟨rfl, rfl⟩⟩⟩⟩ s3
 simp only [zai, zaq] at s3
 refine A9 (v := x2) rfl (A9 (v := si yq1) rfl (A9 (v := sb oq1) rfl (Cy (Wy (Bd (c := sb b) s3 Cl rfl (Ac (b) (fun h4 => ?_) fun h4 => ?_))))))
 refine Am h4 (Am h4 (D7 h4 (Au rfl (Cy (Wy (Cg s3 Cl rfl rfl fun H s5 => ?_))))))
 have e : Ef B (a, b) = (bs0, a, true) := by
  unfold Ef; simp [q1, h4]
 have s6 := s5.nl (ty := 22) ⟨_, _, rfl, rfl⟩
 exact hk .nl _ _ _ _ rfl e (s6.sel (.cons (.here) (.cons (.here) (.skip .rest))))
 refine Ao h4 (Ao h4 (Cv (D3 h4 (Ac (oq1) (fun h7 => ?_) fun h7 => ?_))))
 refine A6 (nF h7) (Cy (gf1 (Cg s3 Cl rfl rfl fun H s8 => ?_)))
 have e : Ef B (a, b) = (vq1, yq1, b) := by
  unfold Ef; simp [q1, h4, h7]
 exact hk x2 _ _ _ _ lx2 e (s8.pick Cl)
 refine Au (nT h7) (Cy (Wy (Cg s3 Cl rfl rfl fun H s9 => ?_)))
 have e : Ef B (a, b) = (bs0, a, true) := by
  unfold Ef; simp [q1, h4, h7]
 have s10 := s9.nl (ty := 22) ⟨_, _, rfl, rfl⟩
 exact hk .nl _ _ _ _ rfl e (s10.sel (.cons (.here) (.cons (.here) (.skip .rest))))
theorem W7 (n : Nat) (hn : 1048576 < n) (t : Int) (B : ByteArray) (c d : Nat) (id : Int) (hB : B.size ≤ 1099511627776) {β : Type} {G : Option β → Prop} {L : List Ck} (k : KO β) : ∀ (f m : Nat) (a : Int) (b : Bool) (ws : List WantV) (cs : List Int) (ns : List ByteArray) (xw xc xn : AV) (H : Ab), f ≤ m → ((b = true ∧ 1 ≤ f) ∨ 6 ≤ f + (ws.length + cs.length + ns.length)) → ws.length + cs.length + ns.length ≤ 5 → 0 ≤ a → a ≤ ((B.size : Nat) : Int) → A2 xw = true → A2 xc = true → A2 xn = true → Sep H (.own xw 55 (Bl Bu ws) :: .own xc 57 (Ey cs) :: .own xn 56 (Et ns) :: .blk c [Ae B, .sc (.int .i64 a), .sc (.bool b)] true :: .blk d [.sc (.int .i64 t), .sc (.bool false), .sc (.int .i64 0), .sc (.bool false), .sc (.int .i64 id), .sc (.string (⟨#[]⟩)), .nl, .sc (.string (⟨#[]⟩)), .sc (.int .i64 0), .sc (.bool false), .sc (.int .i64 0), .sc (.bool false), .sc (.string (⟨#[]⟩)), .nl, .sc (.int .i64 0), .sc (.bool false), .sc (.bool false), .sc (.string (⟨#[]⟩)), .sc (.bool false), .nl, .sc (.int .i64 0), .sc (.bool false), xw, xn, xc] true :: L) → (∀ (yw yc yn : AV) (a' : Int) (b' : Bool) (H' : Ab), A2 yw = true → A2 yc = true → A2 yn = true → Sep H' (.own yw 55 (Bl Bu ((B3 t B f (a, b) ws cs ns).1)) :: .own yc 57 (Ey ((B3 t B f (a, b) ws cs ns).2.1)) :: .own yn 56 (Et ((B3 t B f (a, b) ws cs ns).2.2)) :: .blk c [Ae B, .sc (.int .i64 (a')), .sc (.bool b')] true :: .blk d [.sc (.int .i64 t), .sc (.bool false), .sc (.int .i64 0), .sc (.bool false), .sc (.int .i64 id), .sc (.string (⟨#[]⟩)), .nl, .sc (.string (⟨#[]⟩)), .sc (.int .i64 0), .sc (.bool false), .sc (.int .i64 0), .sc (.bool false), .sc (.string (⟨#[]⟩)), .nl, .sc (.int .i64 0), .sc (.bool false), .sc (.bool false), .sc (.string (⟨#[]⟩)), .sc (.bool false), .nl, .sc (.int .i64 0), .sc (.bool false), yw, yn, yc] true :: L) → Gd G (k (Cj []) H')) → Gd G (K9 (PR (n + 8) β) (n + 8) k m (.ptr c 0) (.ptr d 0) H)
 | 0, m, a, b, ws, cs, ns, xw, xc, xn, H, hm, hM, ht, h0, h1, lxw, lxc, lxn, s0, hk => by
  exfalso
  omega
 | f + 1, m + 1, a, b, ws, cs, ns, xw, xc, xn, H, hm, hM, ht, h0, h1, lxw, lxc, lxn, s0, hk => by
  rw [K9]
  try simp only [Fa, E9]
  refine Pu rfl rfl ?_
  rw [AjE, f131]
  try simp only [Fa, E9]
  refine Cy (Wy (Bd (c := sb b) s0 Ls rfl (Cv (Ac (b) (fun h1 => ?_) fun h1 => ?_))))
  refine Am (nF h1) (Am (nF h1) (Am (nF h1) (Am (nF h1) (Am (nF h1) (Am (nF h1) (Am (nF h1) (Am (nF h1) (Am (nF h1) (Am (nF h1) (D3 (nF h1) (Am rfl (Am rfl (Am rfl (Am rfl (Am rfl (Am rfl (Am rfl (Am rfl (Am rfl (Am rfl (Am rfl (Am rfl (Am rfl (Am rfl (Am rfl (Am rfl (Am rfl (Am rfl (D3 rfl (A6 rfl ?_))))))))))))))))))))))))))))))
  have e : B3 t B (f + 1) (a, b) ws cs ns = (ws, cs, ns) := by
   rw [B3]; simp [h1]
  rw [e] at hk
  exact hk xw xc xn a b _ lxw lxc lxn (s0.sel (.cons (.here) (.cons (.here) (.cons (.here) (.cons (.here) (.cons (.here) .rest))))))
  refine Ao (nT h1) (Ao (nT h1) (Cy (Ao (nT h1) (gf1 (Ao (nT h1) (Bd (c := si a) s0 Ls rfl (Ao (nT h1) (Ao (nT h1) (Cy (Ao (nT h1) (Q9 (Ao (nT h1) (Bd (c := Ae B) s0 Ls rfl (Ao (nT h1) (Dd (Ao (nT h1) (Dq (D7 (nT h1) (Ac ((decide (a < ((B.size : Nat) : Int)))) (fun h2 => ?_) fun h2 => ?_)))))))))))))))))))
  have dh2 := of_decide_eq_true h2
  refine Ao h2 (Ao h2 (Cy (Ao h2 (Py (Ao h2 (Bd (c := xw) s0 Mm rfl (Ao h2 (Jt s0 (.here) (Ao h2 (Ao h2 (Cy (Ao h2 (Q6 (Ao h2 (Bd (c := xc) s0 Mm rfl (Ao h2 (Jt s0 Cl (Ao h2 (Bq (by omega) (by omega) (Ao h2 (Ao h2 (Cy (Ao h2 (Pz (Ao h2 (Bd (c := xn) s0 Mm rfl (Ao h2 (Jt s0 Fy (Ao h2 (Bq (by omega) (by omega) (Ao h2 (AdC (D7 h2 (Ac ((decide (((((ws.length : Nat) : Int) + ((cs.length : Nat) : Int)) + ((ns.length : Nat) : Int)) ≤ 4))) (fun h3 => ?_) fun h3 => ?_))))))))))))))))))))))))))))))))))
  have dh3 := of_decide_eq_true h3
  refine Au h3 (Cy (Q9 (Bd (c := si t) s0 Mm rfl (Ce (Ac ((decide (t = 8))) (fun h4 => ?_) fun h4 => ?_)))))
  have dh4 := of_decide_eq_true h4
  refine Au h4 (Aw (cs := [sE, i0]) rfl (Gv s0 fun i5 H s6 => Cd (cs' := [sE, i0]) s6 (.here) (Aj rfl) rfl (Cr rfl) rfl fun H s7 => Pu rfl rfl ?_))
  rw [Mw, f101]
  try simp only [Fa, E9]
  have s9 := s7.pick Mm
  refine Kz rfl rfl (Kb (n + 1) (by omega) c B a (b) hB (by omega) (by omega) s9 fun xq8 vq8 aq8 bq8 H lxq8 q8 s10 => ?_)
  have b_q8 := Fb q8 (by omega) (by omega)
  refine M8 s10 ⟨_, _, rfl, rfl, rfl, rfl⟩ (.here) (Q9 (Cg s10 Fy rfl rfl fun H s11 => ?_))
  have s13 := s11.pick Fy
  refine Kz rfl rfl (Af9 (n + 7) (by omega) c B aq8 (bq8) hB (by omega) (by omega) s13 fun vq12 aq12 bq12 H q12 s14 => ?_)
  have b_q12 := Q5 q12 (by omega) (by omega)
  refine gf1 (Cg s14 Cl rfl rfl fun H s15 => Cy (Py (Bd (c := xw) s15 Yw rfl (Av s15 (.here) rfl (Aw (cs := [ss vq8, si vq12]) (Gh (z' := [ss vq8, si vq12]) (Aj rfl) rfl (Cr rfl) rfl (rfl)) (Bt s15 fun i16 H s17 => Aam (cty := [9, 3]) (e := (⟨vq8, vq12⟩ : WantV)) s17 ⟨_, _, rfl, rfl, rfl, rfl⟩ Mm (.here) rfl rfl (.sc (.sc .nil)) (E8 trivial) rfl (by omega) fun x18 H lx18 s19 => Cy (Py (Cd (cs' := [si t, bF, i0, bF, si id, sE, .nl, sE, i0, bF, i0, bF, sE, .nl, i0, bF, bF, sE, bF, .nl, i0, bF, x18, xn, xc]) s19 Yw (Ch lx18) rfl (Cr rfl) rfl fun H s20 => ?_))))))))
  have e : B3 t B (f + 1) (a, b) ws cs ns = B3 t B f (aq12, bq12) (ws ++ [⟨vq8, vq12⟩]) cs ns := by
   simp only [Ea] at h2 h3 h4
   rw [B3]; simp only [q8, q12]; simp [h1, h2, h3, h4]
  rw [e] at hk
  have hM2 : 6 ≤ f + 1 + (ws.length + cs.length + ns.length) := hM.resolve_left (by simp [h1])
  exact W7 n hn t B c d id hB k f m aq12 bq12 (ws ++ [⟨vq8, vq12⟩]) cs ns x18 xc xn _ (by omega) (by (simp only [zae, zas]; omega)) (by (simp only [zae, zas]; omega)) (by omega) (by omega) lx18 lxc lxn (s20.sel (.cons Cl (.cons Mm (.cons Mm (.cons Fy (.cons (.here) zS2)))))) hk
  have dh4 := of_decide_eq_false h4
  refine A6 h4 (Ce (Ac ((decide (t = 9))) (fun h21 => ?_) fun h21 => ?_))
  have dh21 := of_decide_eq_true h21
  refine Au h21 ?_
  have s23 := s0.pick Ls
  refine Kz rfl rfl (Af9 (n + 7) (by omega) c B a (b) hB (by omega) (by omega) s23 fun vq22 aq22 bq22 H q22 s24 => ?_)
  have b_q22 := Q5 q22 (by omega) (by omega)
  refine Cy (Q6 (Bd (c := xc) s24 Mm rfl (Aw (cs := [si vq22]) rfl (Bt s24 fun i25 H s26 => AdA s26 Ls (.here) ⟨_, _, rfl, rfl, rfl, rfl⟩ rfl (by omega) fun x27 H lx27 s28 => Cy (Q6 (Cd (cs' := [si t, bF, i0, bF, si id, sE, .nl, sE, i0, bF, i0, bF, sE, .nl, i0, bF, bF, sE, bF, .nl, i0, bF, xw, xn, x27]) s28 Mm (Ch lx27) rfl (Cr rfl) rfl fun H s29 => ?_))))))
  have e : B3 t B (f + 1) (a, b) ws cs ns = B3 t B f (aq22, bq22) ws (cs ++ [vq22]) ns := by
   simp only [Ea] at h2 h3 h4 h21
   rw [B3]; simp only [q22]; simp [h1, h2, h3, h4, h21]
  rw [e] at hk
  have hM2 : 6 ≤ f + 1 + (ws.length + cs.length + ns.length) := hM.resolve_left (by simp [h1])
  exact W7 n hn t B c d id hB k f m aq22 bq22 ws (cs ++ [vq22]) ns xw x27 xn _ (by omega) (by (simp only [zae, zas]; omega)) (by (simp only [zae, zas]; omega)) (by omega) (by omega) lxw lx27 lxn (s29.sel (.cons Ls (.cons Cl (.cons Fy (.cons Cl (.cons (.here) .rest)))))) hk
  have dh21 := of_decide_eq_false h21
  refine A6 h21 (Ce (Ac ((decide (t = 10))) (fun h30 => ?_) fun h30 => ?_))
  have dh30 := of_decide_eq_true h30
  refine Au h30 (Pu rfl rfl ?_)
  rw [Mw, f101]
  try simp only [Fa, E9]
  have s32 := s0.pick Ls
  refine Kz rfl rfl (Kb (n + 1) (by omega) c B a (b) hB (by omega) (by omega) s32 fun xq31 vq31 aq31 bq31 H lxq31 q31 s33 => ?_)
  have b_q31 := Fb q31 (by omega) (by omega)
  refine M8 s33 ⟨_, _, rfl, rfl, rfl, rfl⟩ (.here) (Cy (Pz (Bd (c := xn) s33 U5 rfl (Aw (cs := [ss vq31]) rfl (Bt s33 fun i34 H s35 => Aan s35 U5 (.here) ⟨_, _, rfl, rfl, rfl, rfl⟩ rfl (by omega) fun x36 H lx36 s37 => Cy (Pz (Cd (cs' := [si t, bF, i0, bF, si id, sE, .nl, sE, i0, bF, i0, bF, sE, .nl, i0, bF, bF, sE, bF, .nl, i0, bF, xw, x36, xc]) s37 U5 (Ch lx36) rfl (Cr rfl) rfl fun H s38 => ?_)))))))
  have e : B3 t B (f + 1) (a, b) ws cs ns = B3 t B f (aq31, bq31) ws cs (ns ++ [vq31]) := by
   simp only [Ea] at h2 h3 h4 h21 h30
   rw [B3]; simp only [q31]; simp [h1, h2, h3, h4, h21, h30]
  rw [e] at hk
  have hM2 : 6 ≤ f + 1 + (ws.length + cs.length + ns.length) := hM.resolve_left (by simp [h1])
  exact W7 n hn t B c d id hB k f m aq31 bq31 ws cs (ns ++ [vq31]) xw xc x36 _ (by omega) (by (simp only [zae, zas]; omega)) (by (simp only [zae, zas]; omega)) (by omega) (by omega) lxw lxc lx36 (s38.sel (.cons Mm (.cons Mm (.cons Cl (.cons Fy (.cons (.here) (.skip .rest))))))) hk
  have dh30 := of_decide_eq_false h30
  refine A6 h30 (Cy (Wy (Cd (cs' := [Ae B, si a, bT]) s0 Ls (Ch rfl) rfl (Cr rfl) rfl fun H s39 => ?_)))
  have e : B3 t B (f + 1) (a, b) ws cs ns = B3 t B f (a, true) ws cs ns := by
   simp only [Ea] at h2 h3 h4 h21 h30
   rw [B3]; simp [h1, h2, h3, h4, h21, h30]
  rw [e] at hk
  have hM2 : 6 ≤ f + 1 + (ws.length + cs.length + ns.length) := hM.resolve_left (by simp [h1])
  exact W7 n hn t B c d id hB k f m a true ws cs ns xw xc xn _ (by omega) (by exact Or.inl ⟨rfl, by omega⟩) (by omega) (by omega) (by omega) lxw lxc lxn (s39.sel (.cons Cl (.cons Cl (.cons Cl (.cons (.here) (.cons (.here) .rest)))))) hk
  have dh3 := of_decide_eq_false h3
  refine A6 h3 ?_
  have e : B3 t B (f + 1) (a, b) ws cs ns = (ws, cs, ns) := by
   clear hk s0
   simp only [Ea] at h2 h3
   rw [B3]; simp [h1, h2, h3]; try omega
  rw [e] at hk
  exact hk xw xc xn a b _ lxw lxc lxn (s0.sel (.cons (.here) (.cons (.here) (.cons (.here) (.cons (.here) (.cons (.here) .rest))))))
  have dh2 := of_decide_eq_false h2
  refine Am h2 (Am h2 (Am h2 (Am h2 (Am h2 (Am h2 (Am h2 (Am h2 (Am h2 (Am h2 (Am h2 (Am h2 (Am h2 (Am h2 (Am h2 (Am h2 (Am h2 (Am h2 (D3 h2 (A6 rfl ?_)))))))))))))))))))
  have e : B3 t B (f + 1) (a, b) ws cs ns = (ws, cs, ns) := by
   simp only [Ea] at h2
   rw [B3]; simp [h1, h2]
  rw [e] at hk
  exact hk xw xc xn a b _ lxw lxc lxn (s0.sel (.cons (.here) (.cons (.here) (.cons (.here) (.cons (.here) (.cons (.here) .rest))))))
theorem Amh (n : Nat) (hn : 1048576 < n) (first : Int) (B : ByteArray) (hf : 0 ≤ first ∧ first < 256) (hB : B.size ≤ 1099511627776) : Cb E0 (n + 11) 59 69 [.sc (.int .i64 first), Ae B] = some (.agg (Ag (Dc first B))) := by
 rw [At, Ane, f69]
 refine B8 (G := (· = some (.agg (Ag (Dc first B))))) ?_
 try simp only [Fa, E9]
 have s0 : Sep [] [] := B4
 refine Gv s0 fun i1 H s2 => Aw (cs := [Ae B, i0, bF]) rfl (Ka s2 (Aj rfl) fun i3 H s4 => Pw (by omega) (by omega) (by decide) (Aw (cs := [si (first / 16), bF, i0, bF, i0, sE, .nl, sE, i0, bF, i0, bF, sE, .nl, i0, bF, bF, sE, bF, .nl, i0, bF, .nl, .nl, .nl]) rfl (Gv s4 fun i5 H s6 => Cd (cs' := [si (first / 16), bF, i0, bF, i0, sE, .nl, sE, i0, bF, i0, bF, sE, .nl, i0, bF, bF, sE, bF, .nl, i0, bF, .nl, .nl, .nl]) s6 (.here) (Aj rfl) rfl (Cr rfl) rfl fun H s7 => Q9 (Bd (c := si (first / 16)) s7 (.here) rfl (Ce (D1 (Ac ((decide ((first / 16) = 1))) (fun h8 => ?_) fun h8 => ?_)))))))
 have dh8 := of_decide_eq_true h8
 refine Au h8 (Pu rfl rfl ?_)
 rw [An2, f99]
 try simp only [Fa, E9]
 refine Pu rfl rfl ?_
 rw [Mw, f101]
 try simp only [Fa, E9]
 have s10 := s7.pick Cl
 refine Kz rfl rfl (Kb (n + 2) (by omega) i3 B 0 (false) hB (by omega) (by omega) s10 fun xq9 vq9 aq9 bq9 H lxq9 q9 s11 => ?_)
 have b_q9 := Fb q9 (by omega) (by omega)
 refine M8 s11 ⟨_, _, rfl, rfl, rfl, rfl⟩ (.here) ?_
 have s13 := s11.pick Cl
 refine Kz rfl rfl (Af9 (n + 8) (by omega) i3 B aq9 (bq9) hB (by omega) (by omega) s13 fun vq12 aq12 bq12 H q12 s14 => ?_)
 have b_q12 := Q5 q12 (by omega) (by omega)
 refine Cy (gf8 (Cg s14 Fy rfl rfl fun H s15 => ?_))
 have s17 := s15.pick Cl
 refine Kz rfl rfl (Af9 (n + 8) (by omega) i3 B aq12 (bq12) hB (by omega) (by omega) s17 fun vq16 aq16 bq16 H q16 s18 => ?_)
 have b_q16 := Q5 q16 (by omega) (by omega)
 have s20 := s18.pick (.here)
 refine Kz rfl rfl (Aje (n + 7) (by omega) i3 B aq16 (bq16) hB (by omega) (by omega) s20 fun vq19 aq19 bq19 H q19 s21 => ?_)
 have b_q19 := T4 q19 (by omega) (by omega)
 refine Cy (Ak1 (Cg s21 Cl rfl rfl fun H s22 => Pu rfl rfl ?_))
 rw [Mw, f101]
 try simp only [Fa, E9]
 have s24 := s22.pick Cl
 refine Kz rfl rfl (Kb (n + 2) (by omega) i3 B aq19 (bq19) hB (by omega) (by omega) s24 fun xq23 vq23 aq23 bq23 H lxq23 q23 s25 => ?_)
 have b_q23 := Fb q23 (by omega) (by omega)
 refine M8 s25 ⟨_, _, rfl, rfl, rfl, rfl⟩ (.here) (Cy (gf7 (Cg s25 Fy rfl rfl fun H s26 => Gn rfl (My (Gn rfl (My (Gn rfl (My (Gn rfl (My (Cy (gf9 (Cg s26 (.here) rfl rfl fun H s27 => Cy (Abl (Cg s27 (.here) rfl rfl fun H s28 => Cy (Se (Cg s28 (.here) rfl rfl fun H s29 => Cy (Yu (Cg s29 (.here) rfl rfl fun H s30 => Cy (Abl (Bd (c := sb (!(decide ((bits .and .i64 vq16 4) = 0)))) s30 (.here) rfl (D1 (Ac ((decide ((bits .and .i64 vq16 4) = 0))) (fun h31 => ?_) fun h31 => ?_)))))))))))))))))))))))
 have dh31 := of_decide_eq_true h31
 refine A6 (nF h31) (Cy (Yu (Bd (c := sb (!(decide ((bits .and .i64 vq16 128) = 0)))) s30 (.here) rfl (D1 (Ac ((decide ((bits .and .i64 vq16 128) = 0))) (fun h32 => ?_) fun h32 => ?_)))))
 have dh32 := of_decide_eq_true h32
 refine A6 (nF h32) (Cy (Se (Bd (c := sb (!(decide ((bits .and .i64 vq16 64) = 0)))) s30 (.here) rfl (Ac ((decide ((bits .and .i64 vq16 64) = 0))) (fun h33 => ?_) fun h33 => ?_))))
 have dh33 := of_decide_eq_true h33
 refine A6 (nF h33) (Av s30 (.here) rfl (Cd (cs' := [si (first / 16), bF, i0, bF, i0, sE, .nl, ss vq23, si vq12, sb (!(decide ((bits .and .i64 vq16 2) = 0))), si vq19, sb (!(decide ((bits .and .i64 vq16 4) = 0))), sE, .nl, i0, bF, sb (!(decide ((bits .and .i64 vq16 128) = 0))), sE, sb (!(decide ((bits .and .i64 vq16 64) = 0))), .nl, i0, bF, .nl, .nl, .nl]) s30 Mm (Aj rfl) rfl (Cr rfl) rfl fun H s34 => Av s34 (.here) rfl (Al (Bp s34 ⟨_, rfl, rfl⟩ (Dr (.nl (Dr (.nl (Hi (.nl (.sc (.sc (.nl (.nl (.nl .nil))))))))))) (Ds ⟨A3, (Ds ⟨A3, (Hk ⟨A3, (E8 ⟨A3, ⟨A3, ⟨A3, trivial⟩⟩⟩)⟩)⟩)⟩)) ?_)))
 have e : Dc first B = (⟨(first / 16), false, 0, false, 0, ⟨#[]⟩, ⟨#[]⟩, vq23, vq12, (!(decide ((bits .and .i64 vq16 2) = 0))), vq19, (!(decide ((bits .and .i64 vq16 4) = 0))), ⟨#[]⟩, ⟨#[]⟩, 0, false, (!(decide ((bits .and .i64 vq16 128) = 0))), ⟨#[]⟩, (!(decide ((bits .and .i64 vq16 64) = 0))), ⟨#[]⟩, 0, false, [], [], []⟩ : PacketV) := by
  simp only [Ea] at h8
  unfold Dc Fd Gl; simp only [h8, h31, h32, h33, q9, q12, q16, q19, q23, if_true, if_false, or_true, or_false, false_or, true_or, zau, zaw, zaa, reduceIte]; simp [Cn, h8, h31, h32, h33]
 rw [e]
 rfl
 have dh33 := of_decide_eq_false h33
 refine Au (nT h33) ?_
 have s36 := s30.pick Fy
 refine Kz rfl rfl (Kb (n + 3) (by omega) i3 B aq23 (bq23) hB (by omega) (by omega) s36 fun xq35 vq35 aq35 bq35 H lxq35 q35 s37 => ?_)
 have b_q35 := Fb q35 (by omega) (by omega)
 refine Cy (Yv (Cg s37 Fy lxq35 rfl fun H s38 => Av s38 (.here) rfl (Cd (cs' := [si (first / 16), bF, i0, bF, i0, sE, .nl, ss vq23, si vq12, sb (!(decide ((bits .and .i64 vq16 2) = 0))), si vq19, sb (!(decide ((bits .and .i64 vq16 4) = 0))), sE, .nl, i0, bF, sb (!(decide ((bits .and .i64 vq16 128) = 0))), sE, sb (!(decide ((bits .and .i64 vq16 64) = 0))), xq35, i0, bF, .nl, .nl, .nl]) s38 U5 (Aj (Aa rfl (Aa rfl (Aa rfl (Aa rfl (Aa rfl (Aa rfl (Aa rfl (Aa rfl (Aa rfl (Aa rfl (Aa rfl (Aa rfl (Aa rfl (Aa rfl (Aa rfl (Aa rfl (Aa rfl (Aa rfl (Aa rfl (Aa lxq35 rfl))))))))))))))))))))) rfl (Cr rfl) rfl fun H s39 => Av s39 (.here) rfl (Al (Bp s39 ⟨_, rfl, rfl⟩ (Dr (.nl (Dr (.nl (Hi (.own Fy (.sc (.sc (.nl (.nl (.nl .nil))))))))))) (Ds ⟨A3, (Ds ⟨A3, (Hk ⟨(Bh (Ca vq35) (by decide)), (E8 ⟨A3, ⟨A3, ⟨A3, trivial⟩⟩⟩)⟩)⟩)⟩)) ?_))))
 have e : Dc first B = (⟨(first / 16), false, 0, false, 0, ⟨#[]⟩, ⟨#[]⟩, vq23, vq12, (!(decide ((bits .and .i64 vq16 2) = 0))), vq19, (!(decide ((bits .and .i64 vq16 4) = 0))), ⟨#[]⟩, ⟨#[]⟩, 0, false, (!(decide ((bits .and .i64 vq16 128) = 0))), ⟨#[]⟩, (!(decide ((bits .and .i64 vq16 64) = 0))), vq35, 0, false, [], [], []⟩ : PacketV) := by
  simp only [Ea] at h8
  unfold Dc Fd Gl; simp only [h8, h31, h32, h33, q9, q12, q16, q19, q23, q35, if_true, if_false, or_true, or_false, false_or, true_or, zau, zaw, zaa, reduceIte]; simp [Cn, h8, h31, h32, h33]
 rw [e]
 rfl
 have dh32 := of_decide_eq_false h32
 refine Au (nT h32) (Pu rfl rfl ?_)
 rw [Mw, f101]
 try simp only [Fa, E9]
 have s41 := s30.pick Fy
 refine Kz rfl rfl (Kb (n + 2) (by omega) i3 B aq23 (bq23) hB (by omega) (by omega) s41 fun xq40 vq40 aq40 bq40 H lxq40 q40 s42 => ?_)
 have b_q40 := Fb q40 (by omega) (by omega)
 refine M8 s42 ⟨_, _, rfl, rfl, rfl, rfl⟩ (.here) (Cy (Afz (Cg s42 Fy rfl rfl fun H s43 => Cy (Se (Bd (c := sb (!(decide ((bits .and .i64 vq16 64) = 0)))) s43 (.here) rfl (Ac ((decide ((bits .and .i64 vq16 64) = 0))) (fun h44 => ?_) fun h44 => ?_))))))
 have dh44 := of_decide_eq_true h44
 refine A6 (nF h44) (Av s43 (.here) rfl (Cd (cs' := [si (first / 16), bF, i0, bF, i0, sE, .nl, ss vq23, si vq12, sb (!(decide ((bits .and .i64 vq16 2) = 0))), si vq19, sb (!(decide ((bits .and .i64 vq16 4) = 0))), sE, .nl, i0, bF, sb (!(decide ((bits .and .i64 vq16 128) = 0))), ss vq40, sb (!(decide ((bits .and .i64 vq16 64) = 0))), .nl, i0, bF, .nl, .nl, .nl]) s43 U5 (Aj rfl) rfl (Cr rfl) rfl fun H s45 => Av s45 (.here) rfl (Al (Bp s45 ⟨_, rfl, rfl⟩ (Dr (.nl (Dr (.nl (Hi (.nl (.sc (.sc (.nl (.nl (.nl .nil))))))))))) (Ds ⟨A3, (Ds ⟨A3, (Hk ⟨A3, (E8 ⟨A3, ⟨A3, ⟨A3, trivial⟩⟩⟩)⟩)⟩)⟩)) ?_)))
 have e : Dc first B = (⟨(first / 16), false, 0, false, 0, ⟨#[]⟩, ⟨#[]⟩, vq23, vq12, (!(decide ((bits .and .i64 vq16 2) = 0))), vq19, (!(decide ((bits .and .i64 vq16 4) = 0))), ⟨#[]⟩, ⟨#[]⟩, 0, false, (!(decide ((bits .and .i64 vq16 128) = 0))), vq40, (!(decide ((bits .and .i64 vq16 64) = 0))), ⟨#[]⟩, 0, false, [], [], []⟩ : PacketV) := by
  simp only [Ea] at h8
  unfold Dc Fd Gl; simp only [h8, h31, h32, h44, q9, q12, q16, q19, q23, q40, if_true, if_false, or_true, or_false, false_or, true_or, zau, zaw, zaa, reduceIte]; simp [Cn, h8, h31, h32, h44]
 rw [e]
 rfl
 have dh44 := of_decide_eq_false h44
 refine Au (nT h44) ?_
 have s47 := s43.pick Fy
 refine Kz rfl rfl (Kb (n + 3) (by omega) i3 B aq40 (bq40) hB (by omega) (by omega) s47 fun xq46 vq46 aq46 bq46 H lxq46 q46 s48 => ?_)
 have b_q46 := Fb q46 (by omega) (by omega)
 refine Cy (Yv (Cg s48 Fy lxq46 rfl fun H s49 => Av s49 (.here) rfl (Cd (cs' := [si (first / 16), bF, i0, bF, i0, sE, .nl, ss vq23, si vq12, sb (!(decide ((bits .and .i64 vq16 2) = 0))), si vq19, sb (!(decide ((bits .and .i64 vq16 4) = 0))), sE, .nl, i0, bF, sb (!(decide ((bits .and .i64 vq16 128) = 0))), ss vq40, sb (!(decide ((bits .and .i64 vq16 64) = 0))), xq46, i0, bF, .nl, .nl, .nl]) s49 Yw (Aj (Aa rfl (Aa rfl (Aa rfl (Aa rfl (Aa rfl (Aa rfl (Aa rfl (Aa rfl (Aa rfl (Aa rfl (Aa rfl (Aa rfl (Aa rfl (Aa rfl (Aa rfl (Aa rfl (Aa rfl (Aa rfl (Aa rfl (Aa lxq46 rfl))))))))))))))))))))) rfl (Cr rfl) rfl fun H s50 => Av s50 (.here) rfl (Al (Bp s50 ⟨_, rfl, rfl⟩ (Dr (.nl (Dr (.nl (Hi (.own Fy (.sc (.sc (.nl (.nl (.nl .nil))))))))))) (Ds ⟨A3, (Ds ⟨A3, (Hk ⟨(Bh (Ca vq46) (by decide)), (E8 ⟨A3, ⟨A3, ⟨A3, trivial⟩⟩⟩)⟩)⟩)⟩)) ?_))))
 have e : Dc first B = (⟨(first / 16), false, 0, false, 0, ⟨#[]⟩, ⟨#[]⟩, vq23, vq12, (!(decide ((bits .and .i64 vq16 2) = 0))), vq19, (!(decide ((bits .and .i64 vq16 4) = 0))), ⟨#[]⟩, ⟨#[]⟩, 0, false, (!(decide ((bits .and .i64 vq16 128) = 0))), vq40, (!(decide ((bits .and .i64 vq16 64) = 0))), vq46, 0, false, [], [], []⟩ : PacketV) := by
  simp only [Ea] at h8
  unfold Dc Fd Gl; simp only [h8, h31, h32, h44, q9, q12, q16, q19, q23, q40, q46, if_true, if_false, or_true, or_false, false_or, true_or, zau, zaw, zaa, reduceIte]; simp [Cn, h8, h31, h32, h44]
 rw [e]
 rfl
 have dh31 := of_decide_eq_false h31
 refine Au (nT h31) (Ug 8 rfl (by decide) (Gn rfl (Gn rfl (My (Cy (Ak4 (Cg s30 (.here) rfl rfl fun H s51 => Cy (Ak5 (Cg s51 (.here) rfl rfl fun H s52 => Pu rfl rfl ?_)))))))))
 rw [Mw, f101]
 try simp only [Fa, E9]
 have s54 := s52.pick Fy
 refine Kz rfl rfl (Kb (n + 2) (by omega) i3 B aq23 (bq23) hB (by omega) (by omega) s54 fun xq53 vq53 aq53 bq53 H lxq53 q53 s55 => ?_)
 have b_q53 := Fb q53 (by omega) (by omega)
 refine M8 s55 ⟨_, _, rfl, rfl, rfl, rfl⟩ (.here) (Cy (Ak2 (Cg s55 Fy rfl rfl fun H s56 => ?_)))
 have s58 := s56.pick Fy
 refine Kz rfl rfl (Kb (n + 3) (by omega) i3 B aq53 (bq53) hB (by omega) (by omega) s58 fun xq57 vq57 aq57 bq57 H lxq57 q57 s59 => ?_)
 have b_q57 := Fb q57 (by omega) (by omega)
 refine Cy (Ak3 (Cg s59 Fy lxq57 rfl fun H s60 => Cy (Yu (Bd (c := sb (!(decide ((bits .and .i64 vq16 128) = 0)))) s60 (.here) rfl (D1 (Ac ((decide ((bits .and .i64 vq16 128) = 0))) (fun h61 => ?_) fun h61 => ?_))))))
 have dh61 := of_decide_eq_true h61
 refine A6 (nF h61) (Cy (Se (Bd (c := sb (!(decide ((bits .and .i64 vq16 64) = 0)))) s60 (.here) rfl (Ac ((decide ((bits .and .i64 vq16 64) = 0))) (fun h62 => ?_) fun h62 => ?_))))
 have dh62 := of_decide_eq_true h62
 refine A6 (nF h62) (Av s60 (.here) rfl (Cd (cs' := [si (first / 16), bF, i0, bF, i0, sE, .nl, ss vq23, si vq12, sb (!(decide ((bits .and .i64 vq16 2) = 0))), si vq19, sb (!(decide ((bits .and .i64 vq16 4) = 0))), ss vq53, xq57, si (bits .and .i64 (vq16 / 8) 3), sb (!(decide ((bits .and .i64 vq16 32) = 0))), sb (!(decide ((bits .and .i64 vq16 128) = 0))), sE, sb (!(decide ((bits .and .i64 vq16 64) = 0))), .nl, i0, bF, .nl, .nl, .nl]) s60 Yw (Aj (Aa rfl (Aa rfl (Aa rfl (Aa rfl (Aa rfl (Aa rfl (Aa rfl (Aa rfl (Aa rfl (Aa rfl (Aa rfl (Aa rfl (Aa rfl (Aa lxq57 rfl))))))))))))))) rfl (Cr rfl) rfl fun H s63 => Av s63 (.here) rfl (Al (Bp s63 ⟨_, rfl, rfl⟩ (Dr (.nl (Dr (.own Fy (Hi (.nl (.sc (.sc (.nl (.nl (.nl .nil))))))))))) (Ds ⟨A3, (Ds ⟨(Bh (Ca vq57) (by decide)), (Hk ⟨A3, (E8 ⟨A3, ⟨A3, ⟨A3, trivial⟩⟩⟩)⟩)⟩)⟩)) ?_)))
 have e : Dc first B = (⟨(first / 16), false, 0, false, 0, ⟨#[]⟩, ⟨#[]⟩, vq23, vq12, (!(decide ((bits .and .i64 vq16 2) = 0))), vq19, (!(decide ((bits .and .i64 vq16 4) = 0))), vq53, vq57, (bits .and .i64 (vq16 / 8) 3), (!(decide ((bits .and .i64 vq16 32) = 0))), (!(decide ((bits .and .i64 vq16 128) = 0))), ⟨#[]⟩, (!(decide ((bits .and .i64 vq16 64) = 0))), ⟨#[]⟩, 0, false, [], [], []⟩ : PacketV) := by
  simp only [Ea] at h8
  unfold Dc Fd Gl; simp only [h8, h31, h61, h62, q9, q12, q16, q19, q23, q53, q57, if_true, if_false, or_true, or_false, false_or, true_or, zau, zaw, zaa, reduceIte]; simp [Cn, h8, h31, h61, h62]
 rw [e]
 rfl
 have dh62 := of_decide_eq_false h62
 refine Au (nT h62) ?_
 have s65 := s60.pick Fy
 refine Kz rfl rfl (Kb (n + 3) (by omega) i3 B aq57 (bq57) hB (by omega) (by omega) s65 fun xq64 vq64 aq64 bq64 H lxq64 q64 s66 => ?_)
 have b_q64 := Fb q64 (by omega) (by omega)
 refine Cy (Yv (Cg s66 Fy lxq64 rfl fun H s67 => Av s67 (.here) rfl (Cd (cs' := [si (first / 16), bF, i0, bF, i0, sE, .nl, ss vq23, si vq12, sb (!(decide ((bits .and .i64 vq16 2) = 0))), si vq19, sb (!(decide ((bits .and .i64 vq16 4) = 0))), ss vq53, xq57, si (bits .and .i64 (vq16 / 8) 3), sb (!(decide ((bits .and .i64 vq16 32) = 0))), sb (!(decide ((bits .and .i64 vq16 128) = 0))), sE, sb (!(decide ((bits .and .i64 vq16 64) = 0))), xq64, i0, bF, .nl, .nl, .nl]) s67 zP7 (Aj (Aa rfl (Aa rfl (Aa rfl (Aa rfl (Aa rfl (Aa rfl (Aa rfl (Aa rfl (Aa rfl (Aa rfl (Aa rfl (Aa rfl (Aa rfl (Aa lxq57 (Aa rfl (Aa rfl (Aa rfl (Aa rfl (Aa rfl (Aa lxq64 rfl))))))))))))))))))))) rfl (Cr rfl) rfl fun H s68 => Av s68 (.here) rfl (Al (Bp s68 ⟨_, rfl, rfl⟩ (Dr (.nl (Dr (.own Mm (Hi (.own Fy (.sc (.sc (.nl (.nl (.nl .nil))))))))))) (Ds ⟨A3, (Ds ⟨(Bh (Ca vq57) (by decide)), (Hk ⟨(Bh (Ca vq64) (by decide)), (E8 ⟨A3, ⟨A3, ⟨A3, trivial⟩⟩⟩)⟩)⟩)⟩)) ?_))))
 have e : Dc first B = (⟨(first / 16), false, 0, false, 0, ⟨#[]⟩, ⟨#[]⟩, vq23, vq12, (!(decide ((bits .and .i64 vq16 2) = 0))), vq19, (!(decide ((bits .and .i64 vq16 4) = 0))), vq53, vq57, (bits .and .i64 (vq16 / 8) 3), (!(decide ((bits .and .i64 vq16 32) = 0))), (!(decide ((bits .and .i64 vq16 128) = 0))), ⟨#[]⟩, (!(decide ((bits .and .i64 vq16 64) = 0))), vq64, 0, false, [], [], []⟩ : PacketV) := by
  simp only [Ea] at h8
  unfold Dc Fd Gl; simp only [h8, h31, h61, h62, q9, q12, q16, q19, q23, q53, q57, q64, if_true, if_false, or_true, or_false, false_or, true_or, zau, zaw, zaa, reduceIte]; simp [Cn, h8, h31, h61, h62]
 rw [e]
 rfl
 have dh61 := of_decide_eq_false h61
 refine Au (nT h61) (Pu rfl rfl ?_)
 rw [Mw, f101]
 try simp only [Fa, E9]
 have s70 := s60.pick Fy
 refine Kz rfl rfl (Kb (n + 2) (by omega) i3 B aq57 (bq57) hB (by omega) (by omega) s70 fun xq69 vq69 aq69 bq69 H lxq69 q69 s71 => ?_)
 have b_q69 := Fb q69 (by omega) (by omega)
 refine M8 s71 ⟨_, _, rfl, rfl, rfl, rfl⟩ (.here) (Cy (Afz (Cg s71 Fy rfl rfl fun H s72 => Cy (Se (Bd (c := sb (!(decide ((bits .and .i64 vq16 64) = 0)))) s72 (.here) rfl (Ac ((decide ((bits .and .i64 vq16 64) = 0))) (fun h73 => ?_) fun h73 => ?_))))))
 have dh73 := of_decide_eq_true h73
 refine A6 (nF h73) (Av s72 (.here) rfl (Cd (cs' := [si (first / 16), bF, i0, bF, i0, sE, .nl, ss vq23, si vq12, sb (!(decide ((bits .and .i64 vq16 2) = 0))), si vq19, sb (!(decide ((bits .and .i64 vq16 4) = 0))), ss vq53, xq57, si (bits .and .i64 (vq16 / 8) 3), sb (!(decide ((bits .and .i64 vq16 32) = 0))), sb (!(decide ((bits .and .i64 vq16 128) = 0))), ss vq69, sb (!(decide ((bits .and .i64 vq16 64) = 0))), .nl, i0, bF, .nl, .nl, .nl]) s72 zP7 (Aj (Aa rfl (Aa rfl (Aa rfl (Aa rfl (Aa rfl (Aa rfl (Aa rfl (Aa rfl (Aa rfl (Aa rfl (Aa rfl (Aa rfl (Aa rfl (Aa lxq57 rfl))))))))))))))) rfl (Cr rfl) rfl fun H s74 => Av s74 (.here) rfl (Al (Bp s74 ⟨_, rfl, rfl⟩ (Dr (.nl (Dr (.own Mm (Hi (.nl (.sc (.sc (.nl (.nl (.nl .nil))))))))))) (Ds ⟨A3, (Ds ⟨(Bh (Ca vq57) (by decide)), (Hk ⟨A3, (E8 ⟨A3, ⟨A3, ⟨A3, trivial⟩⟩⟩)⟩)⟩)⟩)) ?_)))
 have e : Dc first B = (⟨(first / 16), false, 0, false, 0, ⟨#[]⟩, ⟨#[]⟩, vq23, vq12, (!(decide ((bits .and .i64 vq16 2) = 0))), vq19, (!(decide ((bits .and .i64 vq16 4) = 0))), vq53, vq57, (bits .and .i64 (vq16 / 8) 3), (!(decide ((bits .and .i64 vq16 32) = 0))), (!(decide ((bits .and .i64 vq16 128) = 0))), vq69, (!(decide ((bits .and .i64 vq16 64) = 0))), ⟨#[]⟩, 0, false, [], [], []⟩ : PacketV) := by
  simp only [Ea] at h8
  unfold Dc Fd Gl; simp only [h8, h31, h61, h73, q9, q12, q16, q19, q23, q53, q57, q69, if_true, if_false, or_true, or_false, false_or, true_or, zau, zaw, zaa, reduceIte]; simp [Cn, h8, h31, h61, h73]
 rw [e]
 rfl
 have dh73 := of_decide_eq_false h73
 refine Au (nT h73) ?_
 have s76 := s72.pick Fy
 refine Kz rfl rfl (Kb (n + 3) (by omega) i3 B aq69 (bq69) hB (by omega) (by omega) s76 fun xq75 vq75 aq75 bq75 H lxq75 q75 s77 => ?_)
 have b_q75 := Fb q75 (by omega) (by omega)
 refine Cy (Yv (Cg s77 Fy lxq75 rfl fun H s78 => Av s78 (.here) rfl (Cd (cs' := [si (first / 16), bF, i0, bF, i0, sE, .nl, ss vq23, si vq12, sb (!(decide ((bits .and .i64 vq16 2) = 0))), si vq19, sb (!(decide ((bits .and .i64 vq16 4) = 0))), ss vq53, xq57, si (bits .and .i64 (vq16 / 8) 3), sb (!(decide ((bits .and .i64 vq16 32) = 0))), sb (!(decide ((bits .and .i64 vq16 128) = 0))), ss vq69, sb (!(decide ((bits .and .i64 vq16 64) = 0))), xq75, i0, bF, .nl, .nl, .nl]) s78 zP8 (Aj (Aa rfl (Aa rfl (Aa rfl (Aa rfl (Aa rfl (Aa rfl (Aa rfl (Aa rfl (Aa rfl (Aa rfl (Aa rfl (Aa rfl (Aa rfl (Aa lxq57 (Aa rfl (Aa rfl (Aa rfl (Aa rfl (Aa rfl (Aa lxq75 rfl))))))))))))))))))))) rfl (Cr rfl) rfl fun H s79 => Av s79 (.here) rfl (Al (Bp s79 ⟨_, rfl, rfl⟩ (Dr (.nl (Dr (.own U5 (Hi (.own Fy (.sc (.sc (.nl (.nl (.nl .nil))))))))))) (Ds ⟨A3, (Ds ⟨(Bh (Ca vq57) (by decide)), (Hk ⟨(Bh (Ca vq75) (by decide)), (E8 ⟨A3, ⟨A3, ⟨A3, trivial⟩⟩⟩)⟩)⟩)⟩)) ?_))))
 have e : Dc first B = (⟨(first / 16), false, 0, false, 0, ⟨#[]⟩, ⟨#[]⟩, vq23, vq12, (!(decide ((bits .and .i64 vq16 2) = 0))), vq19, (!(decide ((bits .and .i64 vq16 4) = 0))), vq53, vq57, (bits .and .i64 (vq16 / 8) 3), (!(decide ((bits .and .i64 vq16 32) = 0))), (!(decide ((bits .and .i64 vq16 128) = 0))), vq69, (!(decide ((bits .and .i64 vq16 64) = 0))), vq75, 0, false, [], [], []⟩ : PacketV) := by
  simp only [Ea] at h8
  unfold Dc Fd Gl; simp only [h8, h31, h61, h73, q9, q12, q16, q19, q23, q53, q57, q69, q75, if_true, if_false, or_true, or_false, false_or, true_or, zau, zaw, zaa, reduceIte]; simp [Cn, h8, h31, h61, h73]
 rw [e]
 rfl
 have dh8 := of_decide_eq_false h8
 refine A6 h8 (Ce (Ac ((decide ((first / 16) = 2))) (fun h80 => ?_) fun h80 => ?_))
 have dh80 := of_decide_eq_true h80
 refine Au h80 ?_
 have s82 := s7.pick Cl
 refine Kz rfl rfl (Af9 (n + 9) (by omega) i3 B 0 (false) hB (by omega) (by omega) s82 fun vq81 aq81 bq81 H q81 s83 => ?_)
 have b_q81 := Q5 q81 (by omega) (by omega)
 refine Ce (Ak7 (Cg s83 Cl rfl rfl fun H s84 => ?_))
 have s86 := s84.pick Cl
 refine Kz rfl rfl (Af9 (n + 9) (by omega) i3 B aq81 (bq81) hB (by omega) (by omega) s86 fun vq85 aq85 bq85 H q85 s87 => ?_)
 have b_q85 := Q5 q85 (by omega) (by omega)
 refine Ak6 (Cg s87 Cl rfl rfl fun H s88 => Av s88 (.here) rfl (Cd (cs' := [si (first / 16), bF, i0, bF, i0, sE, .nl, sE, i0, bF, i0, bF, sE, .nl, i0, bF, bF, sE, bF, .nl, si vq85, sb (decide (vq81 = 1)), .nl, .nl, .nl]) s88 Fy (Aj rfl) rfl (Cr rfl) rfl fun H s89 => Av s89 (.here) rfl (Al (Bp s89 ⟨_, rfl, rfl⟩ (Dr (.nl (Dr (.nl (Hi (.nl (.sc (.sc (.nl (.nl (.nl .nil))))))))))) (Ds ⟨A3, (Ds ⟨A3, (Hk ⟨A3, (E8 ⟨A3, ⟨A3, ⟨A3, trivial⟩⟩⟩)⟩)⟩)⟩)) ?_)))
 have e : Dc first B = (⟨(first / 16), false, 0, false, 0, ⟨#[]⟩, ⟨#[]⟩, ⟨#[]⟩, 0, false, 0, false, ⟨#[]⟩, ⟨#[]⟩, 0, false, false, ⟨#[]⟩, false, ⟨#[]⟩, vq85, (decide (vq81 = 1)), [], [], []⟩ : PacketV) := by
  simp only [Ea] at h8 h80
  unfold Dc Fd Gl; simp only [h8, h80, q81, q85, if_true, if_false, or_true, or_false, false_or, true_or, zau, zaw, zaa, reduceIte]; simp [Cn, h8, h80]
 rw [e]
 rfl
 have dh80 := of_decide_eq_false h80
 refine A6 h80 (Ce (Ac ((decide ((first / 16) = 3))) (fun h90 => ?_) fun h90 => ?_))
 have dh90 := of_decide_eq_true h90
 refine Au h90 (Gn rfl (My (Ug 2 rfl (by decide) (Gn rfl (Gn rfl (My (gf1 (Cg s7 (.here) rfl rfl fun H s91 => Wy (Cg s91 (.here) rfl rfl fun H s92 => gf3 (Cg s92 (.here) rfl rfl fun H s93 => Pu rfl rfl ?_))))))))))
 rw [Mw, f101]
 try simp only [Fa, E9]
 have s95 := s93.pick Cl
 refine Kz rfl rfl (Kb (n + 3) (by omega) i3 B 0 (false) hB (by omega) (by omega) s95 fun xq94 vq94 aq94 bq94 H lxq94 q94 s96 => ?_)
 have b_q94 := Fb q94 (by omega) (by omega)
 refine M8 s96 ⟨_, _, rfl, rfl, rfl, rfl⟩ (.here) (gf5 (Cg s96 Fy rfl rfl fun H s97 => Wy (Bd (c := si (bits .and .i64 (first / 2) 3)) s97 (.here) rfl (D5 (D1 (Ac ((decide (0 < (bits .and .i64 (first / 2) 3)))) (fun h98 => ?_) fun h98 => ?_))))))
 have dh98 := of_decide_eq_true h98
 refine Au h98 ?_
 have s100 := s97.pick Fy
 refine Kz rfl rfl (Aje (n + 8) (by omega) i3 B aq94 (bq94) hB (by omega) (by omega) s100 fun vq99 aq99 bq99 H q99 s101 => ?_)
 have b_q99 := T4 q99 (by omega) (by omega)
 refine gf4 (Cg s101 Cl rfl rfl fun H s102 => Cy (Wy (Bd (c := sb bq99) s102 Cl rfl (Cv (Ac (bq99) (fun h103 => ?_) fun h103 => ?_)))))
 refine A6 (nF h103) (Av s102 (.here) rfl (Cd (cs' := [si (first / 16), sb (!(decide ((bits .and .i64 first 8) = 0))), si (bits .and .i64 (first / 2) 3), sb (!(decide ((bits .and .i64 first 1) = 0))), si vq99, ss vq94, .nl, sE, i0, bF, i0, bF, sE, .nl, i0, bF, bF, sE, bF, .nl, i0, bF, .nl, .nl, .nl]) s102 Ls (Aj rfl) rfl (Cr rfl) rfl fun H s104 => Av s104 (.here) rfl (Al (Bp s104 ⟨_, rfl, rfl⟩ (Dr (.nl (Dr (.nl (Hi (.nl (.sc (.sc (.nl (.nl (.nl .nil))))))))))) (Ds ⟨A3, (Ds ⟨A3, (Hk ⟨A3, (E8 ⟨A3, ⟨A3, ⟨A3, trivial⟩⟩⟩)⟩)⟩)⟩)) ?_)))
 have e : Dc first B = (⟨(first / 16), (!(decide ((bits .and .i64 first 8) = 0))), (bits .and .i64 (first / 2) 3), (!(decide ((bits .and .i64 first 1) = 0))), vq99, vq94, ⟨#[]⟩, ⟨#[]⟩, 0, false, 0, false, ⟨#[]⟩, ⟨#[]⟩, 0, false, false, ⟨#[]⟩, false, ⟨#[]⟩, 0, false, [], [], []⟩ : PacketV) := by
  simp only [Ea] at h8 h80 h90 h98
  unfold Dc Fd Gl; simp only [h8, h80, h90, h98, h103, q94, q99, if_true, if_false, or_true, or_false, false_or, true_or, zau, zaw, zaa, reduceIte]; simp [Cn, h8, h80, h90, h98, h103]
 rw [e]
 rfl
 refine Au (nT h103) (Cy (gf1 (Bd (c := si aq99) s102 Cl rfl (F7 aq99 ((B.size : Nat) : Int) rfl rfl (by omega) (by omega) (by omega) ?_))))
 have z105 := zap (a := B) (b := aq99.toNat) (e := ((B.size : Nat) : Int).toNat)
 refine Aw (cs := [Ae (B.extract aq99.toNat ((B.size : Nat) : Int).toNat)]) rfl (Bt s102 fun i106 H s107 => Bo s107 rfl (.sl (.here) rfl (.cons .ro .nil) .nil) (Ko (n + 6) (by omega) (B.extract aq99.toNat ((B.size : Nat) : Int).toNat) (by omega)) (Ca (B.extract aq99.toNat ((B.size : Nat) : Int).toNat)) fun x108 H lx108 s109 => gf6 (Cg s109 Fy lx108 rfl fun H s110 => Av s110 (.here) rfl (Cd (cs' := [si (first / 16), sb (!(decide ((bits .and .i64 first 8) = 0))), si (bits .and .i64 (first / 2) 3), sb (!(decide ((bits .and .i64 first 1) = 0))), si vq99, ss vq94, x108, sE, i0, bF, i0, bF, sE, .nl, i0, bF, bF, sE, bF, .nl, i0, bF, .nl, .nl, .nl]) s110 U5 (Aj (Aa rfl (Aa rfl (Aa rfl (Aa rfl (Aa rfl (Aa rfl (Aa lx108 rfl)))))))) rfl (Cr rfl) rfl fun H s111 => Av s111 (.here) rfl (Al (Bp s111 ⟨_, rfl, rfl⟩ (Dr (.own Fy (Dr (.nl (Hi (.nl (.sc (.sc (.nl (.nl (.nl .nil))))))))))) (Ds ⟨(Bh (Ca (B.extract aq99.toNat ((B.size : Nat) : Int).toNat)) (by decide)), (Ds ⟨A3, (Hk ⟨A3, (E8 ⟨A3, ⟨A3, ⟨A3, trivial⟩⟩⟩)⟩)⟩)⟩)) ?_))))
 have e : Dc first B = (⟨(first / 16), (!(decide ((bits .and .i64 first 8) = 0))), (bits .and .i64 (first / 2) 3), (!(decide ((bits .and .i64 first 1) = 0))), vq99, vq94, (B.extract aq99.toNat ((B.size : Nat) : Int).toNat), ⟨#[]⟩, 0, false, 0, false, ⟨#[]⟩, ⟨#[]⟩, 0, false, false, ⟨#[]⟩, false, ⟨#[]⟩, 0, false, [], [], []⟩ : PacketV) := by
  simp only [Ea] at h8 h80 h90 h98
  unfold Dc Fd Gl; simp only [h8, h80, h90, h98, h103, q94, q99, if_true, if_false, or_true, or_false, false_or, true_or, zau, zaw, zaa, reduceIte]; simp [Cn, h8, h80, h90, h98, h103]
 rw [e]
 rfl
 have dh98 := of_decide_eq_false h98
 refine A6 h98 (Cy (Wy (Bd (c := sb bq94) s97 Fy rfl (Cv (Ac (bq94) (fun h112 => ?_) fun h112 => ?_)))))
 refine A6 (nF h112) (Av s97 (.here) rfl (Cd (cs' := [si (first / 16), sb (!(decide ((bits .and .i64 first 8) = 0))), si (bits .and .i64 (first / 2) 3), sb (!(decide ((bits .and .i64 first 1) = 0))), i0, ss vq94, .nl, sE, i0, bF, i0, bF, sE, .nl, i0, bF, bF, sE, bF, .nl, i0, bF, .nl, .nl, .nl]) s97 Ls (Aj rfl) rfl (Cr rfl) rfl fun H s113 => Av s113 (.here) rfl (Al (Bp s113 ⟨_, rfl, rfl⟩ (Dr (.nl (Dr (.nl (Hi (.nl (.sc (.sc (.nl (.nl (.nl .nil))))))))))) (Ds ⟨A3, (Ds ⟨A3, (Hk ⟨A3, (E8 ⟨A3, ⟨A3, ⟨A3, trivial⟩⟩⟩)⟩)⟩)⟩)) ?_)))
 have e : Dc first B = (⟨(first / 16), (!(decide ((bits .and .i64 first 8) = 0))), (bits .and .i64 (first / 2) 3), (!(decide ((bits .and .i64 first 1) = 0))), 0, vq94, ⟨#[]⟩, ⟨#[]⟩, 0, false, 0, false, ⟨#[]⟩, ⟨#[]⟩, 0, false, false, ⟨#[]⟩, false, ⟨#[]⟩, 0, false, [], [], []⟩ : PacketV) := by
  simp only [Ea] at h8 h80 h90 h98
  unfold Dc Fd Gl; simp only [h8, h80, h90, h98, h112, q94, if_true, if_false, or_true, or_false, false_or, true_or, zau, zaw, zaa, reduceIte]; simp [Cn, h8, h80, h90, h98, h112]
 rw [e]
 rfl
 refine Au (nT h112) (Cy (gf1 (Bd (c := si aq94) s97 Fy rfl (F7 aq94 ((B.size : Nat) : Int) rfl rfl (by omega) (by omega) (by omega) ?_))))
 have z114 := zap (a := B) (b := aq94.toNat) (e := ((B.size : Nat) : Int).toNat)
 refine Aw (cs := [Ae (B.extract aq94.toNat ((B.size : Nat) : Int).toNat)]) rfl (Bt s97 fun i115 H s116 => Bo s116 rfl (.sl (.here) rfl (.cons .ro .nil) .nil) (Ko (n + 6) (by omega) (B.extract aq94.toNat ((B.size : Nat) : Int).toNat) (by omega)) (Ca (B.extract aq94.toNat ((B.size : Nat) : Int).toNat)) fun x117 H lx117 s118 => gf6 (Cg s118 Fy lx117 rfl fun H s119 => Av s119 (.here) rfl (Cd (cs' := [si (first / 16), sb (!(decide ((bits .and .i64 first 8) = 0))), si (bits .and .i64 (first / 2) 3), sb (!(decide ((bits .and .i64 first 1) = 0))), i0, ss vq94, x117, sE, i0, bF, i0, bF, sE, .nl, i0, bF, bF, sE, bF, .nl, i0, bF, .nl, .nl, .nl]) s119 U5 (Aj (Aa rfl (Aa rfl (Aa rfl (Aa rfl (Aa rfl (Aa rfl (Aa lx117 rfl)))))))) rfl (Cr rfl) rfl fun H s120 => Av s120 (.here) rfl (Al (Bp s120 ⟨_, rfl, rfl⟩ (Dr (.own Fy (Dr (.nl (Hi (.nl (.sc (.sc (.nl (.nl (.nl .nil))))))))))) (Ds ⟨(Bh (Ca (B.extract aq94.toNat ((B.size : Nat) : Int).toNat)) (by decide)), (Ds ⟨A3, (Hk ⟨A3, (E8 ⟨A3, ⟨A3, ⟨A3, trivial⟩⟩⟩)⟩)⟩)⟩)) ?_))))
 have e : Dc first B = (⟨(first / 16), (!(decide ((bits .and .i64 first 8) = 0))), (bits .and .i64 (first / 2) 3), (!(decide ((bits .and .i64 first 1) = 0))), 0, vq94, (B.extract aq94.toNat ((B.size : Nat) : Int).toNat), ⟨#[]⟩, 0, false, 0, false, ⟨#[]⟩, ⟨#[]⟩, 0, false, false, ⟨#[]⟩, false, ⟨#[]⟩, 0, false, [], [], []⟩ : PacketV) := by
  simp only [Ea] at h8 h80 h90 h98
  unfold Dc Fd Gl; simp only [h8, h80, h90, h98, h112, q94, if_true, if_false, or_true, or_false, false_or, true_or, zau, zaw, zaa, reduceIte]; simp [Cn, h8, h80, h90, h98, h112]
 rw [e]
 rfl
 have dh90 := of_decide_eq_false h90
 refine A6 h90 (Ce (D1 (Ac ((decide ((first / 16) = 12))) (fun h121 => ?_) fun h121 => ?_)))
 have dh121 := of_decide_eq_true h121
 refine Au h121 (Au h121 (Av s7 (.here) rfl (Cd (cs' := [si (first / 16), bF, i0, bF, i0, sE, .nl, sE, i0, bF, i0, bF, sE, .nl, i0, bF, bF, sE, bF, .nl, i0, bF, .nl, .nl, .nl]) s7 Fy (Aj rfl) rfl (Cr rfl) rfl fun H s122 => Av s122 (.here) rfl (Al (Bp s122 ⟨_, rfl, rfl⟩ (Dr (.nl (Dr (.nl (Hi (.nl (.sc (.sc (.nl (.nl (.nl .nil))))))))))) (Ds ⟨A3, (Ds ⟨A3, (Hk ⟨A3, (E8 ⟨A3, ⟨A3, ⟨A3, trivial⟩⟩⟩)⟩)⟩)⟩)) ?_))))
 have e : Dc first B = (⟨(first / 16), false, 0, false, 0, ⟨#[]⟩, ⟨#[]⟩, ⟨#[]⟩, 0, false, 0, false, ⟨#[]⟩, ⟨#[]⟩, 0, false, false, ⟨#[]⟩, false, ⟨#[]⟩, 0, false, [], [], []⟩ : PacketV) := by
  simp only [Ea] at h8 h80 h90 h121
  unfold Dc Fd Gl; simp only [h8, h80, h90, h121, if_true, if_false, or_true, or_false, false_or, true_or, zau, zaw, zaa, reduceIte]; simp [Cn, h8, h80, h90, h121]
 rw [e]
 rfl
 have dh121 := of_decide_eq_false h121
 refine A6 h121 (Ce (Ac ((decide ((first / 16) = 13))) (fun h123 => ?_) fun h123 => ?_))
 have dh123 := of_decide_eq_true h123
 refine Au h123 (Au h123 (Av s7 (.here) rfl (Cd (cs' := [si (first / 16), bF, i0, bF, i0, sE, .nl, sE, i0, bF, i0, bF, sE, .nl, i0, bF, bF, sE, bF, .nl, i0, bF, .nl, .nl, .nl]) s7 Fy (Aj rfl) rfl (Cr rfl) rfl fun H s124 => Av s124 (.here) rfl (Al (Bp s124 ⟨_, rfl, rfl⟩ (Dr (.nl (Dr (.nl (Hi (.nl (.sc (.sc (.nl (.nl (.nl .nil))))))))))) (Ds ⟨A3, (Ds ⟨A3, (Hk ⟨A3, (E8 ⟨A3, ⟨A3, ⟨A3, trivial⟩⟩⟩)⟩)⟩)⟩)) ?_))))
 have e : Dc first B = (⟨(first / 16), false, 0, false, 0, ⟨#[]⟩, ⟨#[]⟩, ⟨#[]⟩, 0, false, 0, false, ⟨#[]⟩, ⟨#[]⟩, 0, false, false, ⟨#[]⟩, false, ⟨#[]⟩, 0, false, [], [], []⟩ : PacketV) := by
  simp only [Ea] at h8 h80 h90 h121 h123
  unfold Dc Fd Gl; simp only [h8, h80, h90, h121, h123, if_true, if_false, or_true, or_false, false_or, true_or, zau, zaw, zaa, reduceIte]; simp [Cn, h8, h80, h90, h121, h123]
 rw [e]
 rfl
 have dh123 := of_decide_eq_false h123
 refine A6 h123 (Ce (Ac ((decide ((first / 16) = 14))) (fun h125 => ?_) fun h125 => ?_))
 have dh125 := of_decide_eq_true h125
 refine Au h125 (Av s7 (.here) rfl (Cd (cs' := [si (first / 16), bF, i0, bF, i0, sE, .nl, sE, i0, bF, i0, bF, sE, .nl, i0, bF, bF, sE, bF, .nl, i0, bF, .nl, .nl, .nl]) s7 Fy (Aj rfl) rfl (Cr rfl) rfl fun H s126 => Av s126 (.here) rfl (Al (Bp s126 ⟨_, rfl, rfl⟩ (Dr (.nl (Dr (.nl (Hi (.nl (.sc (.sc (.nl (.nl (.nl .nil))))))))))) (Ds ⟨A3, (Ds ⟨A3, (Hk ⟨A3, (E8 ⟨A3, ⟨A3, ⟨A3, trivial⟩⟩⟩)⟩)⟩)⟩)) ?_)))
 have e : Dc first B = (⟨(first / 16), false, 0, false, 0, ⟨#[]⟩, ⟨#[]⟩, ⟨#[]⟩, 0, false, 0, false, ⟨#[]⟩, ⟨#[]⟩, 0, false, false, ⟨#[]⟩, false, ⟨#[]⟩, 0, false, [], [], []⟩ : PacketV) := by
  simp only [Ea] at h8 h80 h90 h121 h123 h125
  unfold Dc Fd Gl; simp only [h8, h80, h90, h121, h123, h125, if_true, if_false, or_true, or_false, false_or, true_or, zau, zaw, zaa, reduceIte]; simp [Cn, h8, h80, h90, h121, h123, h125]
 rw [e]
 rfl
 have dh125 := of_decide_eq_false h125
 refine A6 h125 ?_
 have s128 := s7.pick Cl
 refine Kz rfl rfl (Aje (n + 8) (by omega) i3 B 0 (false) hB (by omega) (by omega) s128 fun vq127 aq127 bq127 H q127 s129 => ?_)
 have b_q127 := T4 q127 (by omega) (by omega)
 refine gf4 (Cg s129 Cl rfl rfl fun H s130 => Pu rfl rfl ?_)
 rw [Ajv, f103]
 have s131 := s130.nl (ty := 56) ⟨_, _, rfl, rfl⟩
 have s132 := s131.nl (ty := 57) ⟨_, _, rfl, rfl⟩
 have s133 := s132.nl (ty := 55) ⟨_, _, rfl, rfl⟩
 have s135a := s133.sel (.cons .here (.cons .here (.cons .here (.cons Cl (.cons (.here) .rest)))))
 refine W7 (n + 1) (by omega) (first / 16) B i3 i5 vq127 hB _ 8 _ aq127 bq127 [] [] [] .nl .nl .nl _ (by omega) (Or.inr (by decide)) (by decide) (by omega) (by omega) rfl rfl rfl s135a fun wq134 cq134 nq134 aq134 bq134 H lwq134 lcq134 lnq134 s135 => Av s135 Mm rfl (Cd (cs' := [si (first / 16), bF, i0, bF, si vq127, sE, .nl, sE, i0, bF, i0, bF, sE, .nl, i0, bF, bF, sE, bF, .nl, i0, bF, wq134, nq134, cq134]) s135 U5 (Aj (Aa rfl (Aa rfl (Aa rfl (Aa rfl (Aa rfl (Aa rfl (Aa rfl (Aa rfl (Aa rfl (Aa rfl (Aa rfl (Aa rfl (Aa rfl (Aa rfl (Aa rfl (Aa rfl (Aa rfl (Aa rfl (Aa rfl (Aa rfl (Aa rfl (Aa rfl (Aa lwq134 (Aa lnq134 (Aa lcq134 rfl)))))))))))))))))))))))))) rfl (Cr rfl) rfl fun H s136 => Av s136 (.here) rfl (Al (Bp s136 ⟨_, rfl, rfl⟩ (Dr (.nl (Dr (.nl (Hi (.nl (.sc (.sc (.own Cl (.own Fy (.own Cl .nil))))))))))) (Ds ⟨A3, (Ds ⟨A3, (Hk ⟨A3, (E8 ⟨(Bh (Lj ((B3 (first / 16) B 8 (aq127, bq127) [] [] []).1)) (by decide)), ⟨(Bh (Xh ((B3 (first / 16) B 8 (aq127, bq127) [] [] []).2.2)) (by decide)), ⟨(Bh (Aay ((B3 (first / 16) B 8 (aq127, bq127) [] [] []).2.1)) (by decide)), trivial⟩⟩⟩)⟩)⟩)⟩)) ?_))
 have e : Dc first B = (⟨(first / 16), false, 0, false, vq127, ⟨#[]⟩, ⟨#[]⟩, ⟨#[]⟩, 0, false, 0, false, ⟨#[]⟩, ⟨#[]⟩, 0, false, false, ⟨#[]⟩, false, ⟨#[]⟩, 0, false, ((B3 (first / 16) B 8 (aq127, bq127) [] [] []).1), (B3 (first / 16) B 8 (aq127, bq127) [] [] []).2.2, (B3 (first / 16) B 8 (aq127, bq127) [] [] []).2.1⟩ : PacketV) := by
  simp only [Ea] at h8 h80 h90 h121 h123 h125
  unfold Dc Fd Gl; simp only [h8, h80, h90, h121, h123, h125, q127, if_true, if_false, or_true, or_false, false_or, true_or, zau, zaw, zaa, reduceIte]; simp [Cn, h8, h80, h90, h121, h123, h125]
 rw [e]
 rfl
end
section
open Go
theorem AcT (n : Nat) (hn : 1048576 < n) (B : ByteArray) (hB : B.size ≤ 1048576) : Cb E0 (n + 6) 59 86 [Ae B] = some (.agg (Ag (Ar B))) := by
 rw [At, Ano, f86]
 refine B8 (G := (· = some (.agg (Ag (Ar B))))) ?_
 try simp only [Fa, E9]
 have s0 : Sep [] [] := B4
 refine Gv s0 fun i1 H s2 => Aw (cs := [si 1, bF, i0, bF, i0, sE, .nl, sE, i0, bF, i0, bF, sE, .nl, i0, bF, bF, sE, bF, .nl, i0, bF, .nl, .nl, .nl]) rfl (Gv s2 fun i3 H s4 => Cd (cs' := [si 1, bF, i0, bF, i0, sE, .nl, sE, i0, bF, i0, bF, sE, .nl, i0, bF, bF, sE, bF, .nl, i0, bF, .nl, .nl, .nl]) s4 (.here) (Aj rfl) rfl (Cr rfl) rfl fun H s5 => ?_)
 obtain ⟨vq6, yq6, oq6, q6⟩ : ∃ w y o, Bn B 0 = (w, y, o) := ⟨_, _, _, rfl⟩
 have bq6 := Gq q6
 refine Do s5 rfl (.cons .ro (.cons .sc .nil)) (by have h := Ll n (by omega) B 0 (by omega) (by omega); rw [q6] at h; exact h) rfl (A1 (A1 (A1 C2))) ?_
 rintro _ _ H ⟨_, rfl, ⟨_, rfl, ⟨_, rfl, ⟨rfl, rfl⟩⟩⟩⟩ s7
 simp only [zai] at s7
 refine A9 (v := ss vq6) rfl (A9 (v := si yq6) rfl (A9 (v := sb oq6) rfl (Cv (Ac (oq6) (fun h8 => ?_) fun h8 => ?_))))
 refine Ao (nF h8) (Ao (nF h8) (Th (D3 (nF h8) (Ac ((vq6.toList == (⟨#[77, 81, 84, 84]⟩ : ByteArray).toList)) (fun h9 => ?_) fun h9 => ?_))))
 refine Ao (nF h9) (Ao (nF h9) (Ao (nF h9) (Dd (Ao (nF h9) (Px (by omega) (by omega) (Ao (nF h9) (D5 (D3 (nF h9) (Ac ((decide ((((B.size : Nat) : Int) - 2) < yq6))) (fun h10 => ?_) fun h10 => ?_)))))))))
 have dh10 := of_decide_eq_true h10
 refine Au h10 (Aw (cs := Ed) rfl (Cd (cs' := Ed) s7 Cl (Aj rfl) rfl (Cr rfl) rfl fun H s11 => Av s11 (.here) rfl (Al (Bp s11 ⟨_, rfl, rfl⟩ (Dr (.nl (Dr (.nl (Hi (.nl (.sc (.sc (.nl (.nl (.nl .nil))))))))))) (Ds ⟨A3, (Ds ⟨A3, (Hk ⟨A3, (E8 ⟨A3, ⟨A3, ⟨A3, trivial⟩⟩⟩)⟩)⟩)⟩)) ?_)))
 have e : Ar B = (⟨0, false, 0, false, 0, ⟨#[]⟩, ⟨#[]⟩, ⟨#[]⟩, 0, false, 0, false, ⟨#[]⟩, ⟨#[]⟩, 0, false, false, ⟨#[]⟩, false, ⟨#[]⟩, 0, false, [], [], []⟩ : PacketV) := by
  unfold Ar H0 Hp Ho D0 Hn F6; simp only [h8, h9, h10, q6, if_true, if_false, or_true, or_false, false_or, true_or, zaa, reduceIte, mqtt, F3]; (rfl)
 rw [e]
 rfl
 have dh10 := of_decide_eq_false h10
 refine A6 h10 ?_
 have w12 := Dw B yq6
 refine Gp (by omega) (by omega) fun _ => Fq (c := su (Ax B yq6)) rfl (K4 (by omega) (by omega) (gf8 (Cg s7 (.here) rfl rfl fun H s13 => Bq (by omega) (by omega) ?_)))
 have w14 := Dw B (yq6 + 1)
 refine Gp (by omega) (by omega) fun _ => Fq (c := su (Ax B (yq6 + 1))) rfl (K4 (by omega) (by omega) (Gn rfl (D5 (gf9 (Cg s13 (.here) rfl rfl fun H s15 => Gn rfl (D5 (Abl (Cg s15 (.here) rfl rfl fun H s16 => Ug 8 rfl (by decide) (Gn rfl (Ak4 (Cg s16 (.here) rfl rfl fun H s17 => Gn rfl (D5 (Ak5 (Cg s17 (.here) rfl rfl fun H s18 => Gn rfl (D5 (Se (Cg s18 (.here) rfl rfl fun H s19 => Gn rfl (D5 (Yu (Cg s19 (.here) rfl rfl fun H s20 => Bq (by omega) (by omega) ?_))))))))))))))))))))
 obtain ⟨wq21, yq21, oq21, q21⟩ : ∃ w y o, Bg B (yq6 + 2) = (w, y, o) := ⟨_, _, _, rfl⟩
 have bq21 := F2 q21
 refine Do s20 rfl (.cons .ro (.cons .sc .nil)) (by have h := Q3 (n + 4) (by omega) B (yq6 + 2) (by omega) (by omega); rw [q21] at h; exact h) rfl (A1 (A1 (A1 C2))) ?_
 rintro _ _ H ⟨_, rfl, ⟨_, rfl, ⟨_, rfl, ⟨rfl, rfl⟩⟩⟩⟩ s22
 simp only [zai] at s22
 refine A9 (v := si wq21) rfl (A9 (v := si yq21) rfl (A9 (v := sb oq21) rfl (Ak1 (Cg s22 (.here) rfl rfl fun H s23 => ?_))))
 obtain ⟨vq24, yq24, oq24, q24⟩ : ∃ w y o, Bn B yq21 = (w, y, o) := ⟨_, _, _, rfl⟩
 have bq24 := Gq q24
 refine Do s23 rfl (.cons .ro (.cons .sc .nil)) (by have h := Ll n (by omega) B yq21 (by omega) (by omega); rw [q24] at h; exact h) rfl (A1 (A1 (A1 C2))) ?_
 rintro _ _ H ⟨_, rfl, ⟨_, rfl, ⟨_, rfl, ⟨rfl, rfl⟩⟩⟩⟩ s25
 simp only [zai] at s25
 refine A9 (v := ss vq24) rfl (A9 (v := si yq24) rfl (A9 (v := sb oq24) rfl (gf7 (Cg s25 (.here) rfl rfl fun H s26 => Cv (Ac (oq21) (fun h27 => ?_) fun h27 => ?_)))))
 refine Ao (nF h27) (Ao (nF h27) (Cv (D3 (nF h27) (Ac (oq24) (fun h28 => ?_) fun h28 => ?_))))
 refine A6 (nF h28) (Abl (Bd (c := .sc (.bool (decide (0 < (bits .and .i64 (Ax B (yq6 + 1)) 4))))) s26 (.here) rfl (D1 (Ac ((decide (0 < (bits .and .i64 (Ax B (yq6 + 1)) 4)))) (fun h29 => ?_) fun h29 => ?_))))
 have dh29 := of_decide_eq_true h29
 refine Au h29 ?_
 obtain ⟨vq30, yq30, oq30, q30⟩ : ∃ w y o, Bn B yq24 = (w, y, o) := ⟨_, _, _, rfl⟩
 have bq30 := Gq q30
 refine Do s26 rfl (.cons .ro (.cons .sc .nil)) (by have h := Ll n (by omega) B yq24 (by omega) (by omega); rw [q30] at h; exact h) rfl (A1 (A1 (A1 C2))) ?_
 rintro _ _ H ⟨_, rfl, ⟨_, rfl, ⟨_, rfl, ⟨rfl, rfl⟩⟩⟩⟩ s31
 simp only [zai] at s31
 refine A9 (v := ss vq30) rfl (A9 (v := si yq30) rfl (A9 (v := sb oq30) rfl ?_))
 obtain ⟨vq32, yq32, oq32, q32⟩ : ∃ w y o, A8 B yq30 = (w, y, o) := ⟨_, _, _, rfl⟩
 have bq32 := Fe q32
 refine Do s31 rfl (.cons .ro (.cons .sc .nil)) (by have h := Q2 (n + 3) (by omega) B yq30 (by omega) (by omega); rw [q32] at h; exact h) rfl (Hx (ty := 22) rfl (Ca vq32) (A1 (A1 C2))) ?_
 rintro _ _ H ⟨x33, _, _, lx33, rfl, rfl, ⟨_, rfl, ⟨_, rfl, ⟨rfl, rfl⟩⟩⟩⟩ s34
 simp only [zai, zaq] at s34
 refine A9 (v := x33) rfl (A9 (v := si yq32) rfl (A9 (v := sb oq32) rfl (Cv (Ac (oq30) (fun h35 => ?_) fun h35 => ?_))))
 refine Ao (nF h35) (Ao (nF h35) (Cv (D3 (nF h35) (Ac (oq32) (fun h36 => ?_) fun h36 => ?_))))
 refine A6 (nF h36) (Ak2 (Cg s34 Cl rfl rfl fun H s37 => Ak3 (Cg s37 (.here) lx33 rfl fun H s38 => Yu (Bd (c := .sc (.bool (decide (0 < (bits .and .i64 (Ax B (yq6 + 1)) 128))))) s38 (.here) rfl (D1 (Ac ((decide (0 < (bits .and .i64 (Ax B (yq6 + 1)) 128)))) (fun h39 => ?_) fun h39 => ?_))))))
 have dh39 := of_decide_eq_true h39
 refine Au h39 ?_
 obtain ⟨vq40, yq40, oq40, q40⟩ : ∃ w y o, Bn B yq32 = (w, y, o) := ⟨_, _, _, rfl⟩
 have bq40 := Gq q40
 refine Do s38 rfl (.cons .ro (.cons .sc .nil)) (by have h := Ll n (by omega) B yq32 (by omega) (by omega); rw [q40] at h; exact h) rfl (A1 (A1 (A1 C2))) ?_
 rintro _ _ H ⟨_, rfl, ⟨_, rfl, ⟨_, rfl, ⟨rfl, rfl⟩⟩⟩⟩ s41
 simp only [zai] at s41
 refine A9 (v := ss vq40) rfl (A9 (v := si yq40) rfl (A9 (v := sb oq40) rfl (Cv (Ac (oq40) (fun h42 => ?_) fun h42 => ?_))))
 refine A6 (nF h42) (Afz (Cg s41 (.here) rfl rfl fun H s43 => Se (Bd (c := .sc (.bool (decide (0 < (bits .and .i64 (Ax B (yq6 + 1)) 64))))) s43 (.here) rfl (D1 (Ac ((decide (0 < (bits .and .i64 (Ax B (yq6 + 1)) 64)))) (fun h44 => ?_) fun h44 => ?_)))))
 have dh44 := of_decide_eq_true h44
 refine Au h44 ?_
 obtain ⟨vq45, yq45, oq45, q45⟩ : ∃ w y o, A8 B yq40 = (w, y, o) := ⟨_, _, _, rfl⟩
 have bq45 := Fe q45
 refine Do s43 rfl (.cons .ro (.cons .sc .nil)) (by have h := Q2 (n + 3) (by omega) B yq40 (by omega) (by omega); rw [q45] at h; exact h) rfl (Hx (ty := 22) rfl (Ca vq45) (A1 (A1 C2))) ?_
 rintro _ _ H ⟨x46, _, _, lx46, rfl, rfl, ⟨_, rfl, ⟨_, rfl, ⟨rfl, rfl⟩⟩⟩⟩ s47
 simp only [zai, zaq] at s47
 refine A9 (v := x46) rfl (A9 (v := si yq45) rfl (A9 (v := sb oq45) rfl (Cv (Ac (oq45) (fun h48 => ?_) fun h48 => ?_))))
 refine A6 (nF h48) (Yv (Cg s47 Cl lx46 rfl fun H s49 => Av s49 (.here) rfl (Cd (cs' := [si 1, bF, i0, bF, i0, sE, .nl, ss vq24, si (Ax B yq6), .sc (.bool (decide (0 < (bits .and .i64 (Ax B (yq6 + 1)) 2)))), si wq21, .sc (.bool (decide (0 < (bits .and .i64 (Ax B (yq6 + 1)) 4)))), ss vq30, x33, si (bits .and .i64 ((Ax B (yq6 + 1)) / 8) 3), .sc (.bool (decide (0 < (bits .and .i64 (Ax B (yq6 + 1)) 32)))), .sc (.bool (decide (0 < (bits .and .i64 (Ax B (yq6 + 1)) 128)))), ss vq40, .sc (.bool (decide (0 < (bits .and .i64 (Ax B (yq6 + 1)) 64)))), x46, i0, bF, .nl, .nl, .nl]) s49 Ls (Aj (Aa rfl (Aa rfl (Aa rfl (Aa rfl (Aa rfl (Aa rfl (Aa rfl (Aa rfl (Aa rfl (Aa rfl (Aa rfl (Aa rfl (Aa rfl (Aa lx33 (Aa rfl (Aa rfl (Aa rfl (Aa rfl (Aa rfl (Aa lx46 rfl))))))))))))))))))))) rfl (Cr rfl) rfl fun H s50 => Av s50 (.here) rfl (Al (Bp s50 ⟨_, rfl, rfl⟩ (Dr (.nl (Dr (.own Ls (Hi (.own Fy (.sc (.sc (.nl (.nl (.nl .nil))))))))))) (Ds ⟨A3, (Ds ⟨(Bh (Ca vq32) (by decide)), (Hk ⟨(Bh (Ca vq45) (by decide)), (E8 ⟨A3, ⟨A3, ⟨A3, trivial⟩⟩⟩)⟩)⟩)⟩)) ?_))))
 have e : Ar B = (⟨1, false, 0, false, 0, ⟨#[]⟩, ⟨#[]⟩, vq24, (Ax B yq6), (decide (0 < (bits .and .i64 (Ax B (yq6 + 1)) 2))), wq21, (decide (0 < (bits .and .i64 (Ax B (yq6 + 1)) 4))), vq30, vq32, (bits .and .i64 ((Ax B (yq6 + 1)) / 8) 3), (decide (0 < (bits .and .i64 (Ax B (yq6 + 1)) 32))), (decide (0 < (bits .and .i64 (Ax B (yq6 + 1)) 128))), vq40, (decide (0 < (bits .and .i64 (Ax B (yq6 + 1)) 64))), vq45, 0, false, [], [], []⟩ : PacketV) := by
  unfold Ar H0 Hp Ho D0 Hn F6; simp only [h8, h9, h10, h27, h28, h29, h35, h36, h39, h42, h44, h48, q6, q21, q24, q30, q32, q40, q45, if_true, if_false, or_true, or_false, false_or, true_or, zaa, reduceIte, mqtt, F3]; (rfl)
 rw [e]
 rfl
 refine Au (nT h48) (Aw (cs := Ed) rfl (Cd (cs' := Ed) s47 Ls (Aj rfl) rfl (Cr rfl) rfl fun H s51 => Av s51 (.here) rfl (Al (Bp s51 ⟨_, rfl, rfl⟩ (Dr (.nl (Dr (.nl (Hi (.nl (.sc (.sc (.nl (.nl (.nl .nil))))))))))) (Ds ⟨A3, (Ds ⟨A3, (Hk ⟨A3, (E8 ⟨A3, ⟨A3, ⟨A3, trivial⟩⟩⟩)⟩)⟩)⟩)) ?_)))
 have e : Ar B = (⟨0, false, 0, false, 0, ⟨#[]⟩, ⟨#[]⟩, ⟨#[]⟩, 0, false, 0, false, ⟨#[]⟩, ⟨#[]⟩, 0, false, false, ⟨#[]⟩, false, ⟨#[]⟩, 0, false, [], [], []⟩ : PacketV) := by
  unfold Ar H0 Hp Ho D0 Hn F6; simp only [h8, h9, h10, h27, h28, h29, h35, h36, h39, h42, h44, h48, q6, q21, q24, q30, q32, q40, q45, if_true, if_false, or_true, or_false, false_or, true_or, zaa, reduceIte, mqtt, F3]; (rfl)
 rw [e]
 rfl
 have dh44 := of_decide_eq_false h44
 refine A6 h44 (Av s43 (.here) rfl (Cd (cs' := [si 1, bF, i0, bF, i0, sE, .nl, ss vq24, si (Ax B yq6), .sc (.bool (decide (0 < (bits .and .i64 (Ax B (yq6 + 1)) 2)))), si wq21, .sc (.bool (decide (0 < (bits .and .i64 (Ax B (yq6 + 1)) 4)))), ss vq30, x33, si (bits .and .i64 ((Ax B (yq6 + 1)) / 8) 3), .sc (.bool (decide (0 < (bits .and .i64 (Ax B (yq6 + 1)) 32)))), .sc (.bool (decide (0 < (bits .and .i64 (Ax B (yq6 + 1)) 128)))), ss vq40, .sc (.bool (decide (0 < (bits .and .i64 (Ax B (yq6 + 1)) 64)))), .nl, i0, bF, .nl, .nl, .nl]) s43 Fy (Aj (Aa rfl (Aa rfl (Aa rfl (Aa rfl (Aa rfl (Aa rfl (Aa rfl (Aa rfl (Aa rfl (Aa rfl (Aa rfl (Aa rfl (Aa rfl (Aa lx33 rfl))))))))))))))) rfl (Cr rfl) rfl fun H s52 => Av s52 (.here) rfl (Al (Bp s52 ⟨_, rfl, rfl⟩ (Dr (.nl (Dr (.own Fy (Hi (.nl (.sc (.sc (.nl (.nl (.nl .nil))))))))))) (Ds ⟨A3, (Ds ⟨(Bh (Ca vq32) (by decide)), (Hk ⟨A3, (E8 ⟨A3, ⟨A3, ⟨A3, trivial⟩⟩⟩)⟩)⟩)⟩)) ?_)))
 have e : Ar B = (⟨1, false, 0, false, 0, ⟨#[]⟩, ⟨#[]⟩, vq24, (Ax B yq6), (decide (0 < (bits .and .i64 (Ax B (yq6 + 1)) 2))), wq21, (decide (0 < (bits .and .i64 (Ax B (yq6 + 1)) 4))), vq30, vq32, (bits .and .i64 ((Ax B (yq6 + 1)) / 8) 3), (decide (0 < (bits .and .i64 (Ax B (yq6 + 1)) 32))), (decide (0 < (bits .and .i64 (Ax B (yq6 + 1)) 128))), vq40, (decide (0 < (bits .and .i64 (Ax B (yq6 + 1)) 64))), ⟨#[]⟩, 0, false, [], [], []⟩ : PacketV) := by
  unfold Ar H0 Hp Ho D0 Hn F6; simp only [h8, h9, h10, h27, h28, h29, h35, h36, h39, h42, h44, q6, q21, q24, q30, q32, q40, if_true, if_false, or_true, or_false, false_or, true_or, zaa, reduceIte, mqtt, F3]; (rfl)
 rw [e]
 rfl
 refine Au (nT h42) (Aw (cs := Ed) rfl (Cd (cs' := Ed) s41 Fy (Aj rfl) rfl (Cr rfl) rfl fun H s53 => Av s53 (.here) rfl (Al (Bp s53 ⟨_, rfl, rfl⟩ (Dr (.nl (Dr (.nl (Hi (.nl (.sc (.sc (.nl (.nl (.nl .nil))))))))))) (Ds ⟨A3, (Ds ⟨A3, (Hk ⟨A3, (E8 ⟨A3, ⟨A3, ⟨A3, trivial⟩⟩⟩)⟩)⟩)⟩)) ?_)))
 have e : Ar B = (⟨0, false, 0, false, 0, ⟨#[]⟩, ⟨#[]⟩, ⟨#[]⟩, 0, false, 0, false, ⟨#[]⟩, ⟨#[]⟩, 0, false, false, ⟨#[]⟩, false, ⟨#[]⟩, 0, false, [], [], []⟩ : PacketV) := by
  unfold Ar H0 Hp Ho D0 Hn F6; simp only [h8, h9, h10, h27, h28, h29, h35, h36, h39, h42, q6, q21, q24, q30, q32, q40, if_true, if_false, or_true, or_false, false_or, true_or, zaa, reduceIte, mqtt, F3]; (rfl)
 rw [e]
 rfl
 have dh39 := of_decide_eq_false h39
 refine A6 h39 (Se (Bd (c := .sc (.bool (decide (0 < (bits .and .i64 (Ax B (yq6 + 1)) 64))))) s38 (.here) rfl (D1 (Ac ((decide (0 < (bits .and .i64 (Ax B (yq6 + 1)) 64)))) (fun h54 => ?_) fun h54 => ?_))))
 have dh54 := of_decide_eq_true h54
 refine Au h54 ?_
 obtain ⟨vq55, yq55, oq55, q55⟩ : ∃ w y o, A8 B yq32 = (w, y, o) := ⟨_, _, _, rfl⟩
 have bq55 := Fe q55
 refine Do s38 rfl (.cons .ro (.cons .sc .nil)) (by have h := Q2 (n + 3) (by omega) B yq32 (by omega) (by omega); rw [q55] at h; exact h) rfl (Hx (ty := 22) rfl (Ca vq55) (A1 (A1 C2))) ?_
 rintro _ _ H ⟨x56, _, _, lx56, rfl, rfl, ⟨_, rfl, ⟨_, rfl, ⟨rfl, rfl⟩⟩⟩⟩ s57
 simp only [zai, zaq] at s57
 refine A9 (v := x56) rfl (A9 (v := si yq55) rfl (A9 (v := sb oq55) rfl (Cv (Ac (oq55) (fun h58 => ?_) fun h58 => ?_))))
 refine A6 (nF h58) (Yv (Cg s57 Cl lx56 rfl fun H s59 => Av s59 (.here) rfl (Cd (cs' := [si 1, bF, i0, bF, i0, sE, .nl, ss vq24, si (Ax B yq6), .sc (.bool (decide (0 < (bits .and .i64 (Ax B (yq6 + 1)) 2)))), si wq21, .sc (.bool (decide (0 < (bits .and .i64 (Ax B (yq6 + 1)) 4)))), ss vq30, x33, si (bits .and .i64 ((Ax B (yq6 + 1)) / 8) 3), .sc (.bool (decide (0 < (bits .and .i64 (Ax B (yq6 + 1)) 32)))), .sc (.bool (decide (0 < (bits .and .i64 (Ax B (yq6 + 1)) 128)))), sE, .sc (.bool (decide (0 < (bits .and .i64 (Ax B (yq6 + 1)) 64)))), x56, i0, bF, .nl, .nl, .nl]) s59 Ls (Aj (Aa rfl (Aa rfl (Aa rfl (Aa rfl (Aa rfl (Aa rfl (Aa rfl (Aa rfl (Aa rfl (Aa rfl (Aa rfl (Aa rfl (Aa rfl (Aa lx33 (Aa rfl (Aa rfl (Aa rfl (Aa rfl (Aa rfl (Aa lx56 rfl))))))))))))))))))))) rfl (Cr rfl) rfl fun H s60 => Av s60 (.here) rfl (Al (Bp s60 ⟨_, rfl, rfl⟩ (Dr (.nl (Dr (.own Ls (Hi (.own Fy (.sc (.sc (.nl (.nl (.nl .nil))))))))))) (Ds ⟨A3, (Ds ⟨(Bh (Ca vq32) (by decide)), (Hk ⟨(Bh (Ca vq55) (by decide)), (E8 ⟨A3, ⟨A3, ⟨A3, trivial⟩⟩⟩)⟩)⟩)⟩)) ?_))))
 have e : Ar B = (⟨1, false, 0, false, 0, ⟨#[]⟩, ⟨#[]⟩, vq24, (Ax B yq6), (decide (0 < (bits .and .i64 (Ax B (yq6 + 1)) 2))), wq21, (decide (0 < (bits .and .i64 (Ax B (yq6 + 1)) 4))), vq30, vq32, (bits .and .i64 ((Ax B (yq6 + 1)) / 8) 3), (decide (0 < (bits .and .i64 (Ax B (yq6 + 1)) 32))), (decide (0 < (bits .and .i64 (Ax B (yq6 + 1)) 128))), ⟨#[]⟩, (decide (0 < (bits .and .i64 (Ax B (yq6 + 1)) 64))), vq55, 0, false, [], [], []⟩ : PacketV) := by
  unfold Ar H0 Hp Ho D0 Hn F6; simp only [h8, h9, h10, h27, h28, h29, h35, h36, h39, h54, h58, q6, q21, q24, q30, q32, q55, if_true, if_false, or_true, or_false, false_or, true_or, zaa, reduceIte, mqtt, F3]; (rfl)
 rw [e]
 rfl
 refine Au (nT h58) (Aw (cs := Ed) rfl (Cd (cs' := Ed) s57 Ls (Aj rfl) rfl (Cr rfl) rfl fun H s61 => Av s61 (.here) rfl (Al (Bp s61 ⟨_, rfl, rfl⟩ (Dr (.nl (Dr (.nl (Hi (.nl (.sc (.sc (.nl (.nl (.nl .nil))))))))))) (Ds ⟨A3, (Ds ⟨A3, (Hk ⟨A3, (E8 ⟨A3, ⟨A3, ⟨A3, trivial⟩⟩⟩)⟩)⟩)⟩)) ?_)))
 have e : Ar B = (⟨0, false, 0, false, 0, ⟨#[]⟩, ⟨#[]⟩, ⟨#[]⟩, 0, false, 0, false, ⟨#[]⟩, ⟨#[]⟩, 0, false, false, ⟨#[]⟩, false, ⟨#[]⟩, 0, false, [], [], []⟩ : PacketV) := by
  unfold Ar H0 Hp Ho D0 Hn F6; simp only [h8, h9, h10, h27, h28, h29, h35, h36, h39, h54, h58, q6, q21, q24, q30, q32, q55, if_true, if_false, or_true, or_false, false_or, true_or, zaa, reduceIte, mqtt, F3]; (rfl)
 rw [e]
 rfl
 have dh54 := of_decide_eq_false h54
 refine A6 h54 (Av s38 (.here) rfl (Cd (cs' := [si 1, bF, i0, bF, i0, sE, .nl, ss vq24, si (Ax B yq6), .sc (.bool (decide (0 < (bits .and .i64 (Ax B (yq6 + 1)) 2)))), si wq21, .sc (.bool (decide (0 < (bits .and .i64 (Ax B (yq6 + 1)) 4)))), ss vq30, x33, si (bits .and .i64 ((Ax B (yq6 + 1)) / 8) 3), .sc (.bool (decide (0 < (bits .and .i64 (Ax B (yq6 + 1)) 32)))), .sc (.bool (decide (0 < (bits .and .i64 (Ax B (yq6 + 1)) 128)))), sE, .sc (.bool (decide (0 < (bits .and .i64 (Ax B (yq6 + 1)) 64)))), .nl, i0, bF, .nl, .nl, .nl]) s38 Fy (Aj (Aa rfl (Aa rfl (Aa rfl (Aa rfl (Aa rfl (Aa rfl (Aa rfl (Aa rfl (Aa rfl (Aa rfl (Aa rfl (Aa rfl (Aa rfl (Aa lx33 rfl))))))))))))))) rfl (Cr rfl) rfl fun H s62 => Av s62 (.here) rfl (Al (Bp s62 ⟨_, rfl, rfl⟩ (Dr (.nl (Dr (.own Fy (Hi (.nl (.sc (.sc (.nl (.nl (.nl .nil))))))))))) (Ds ⟨A3, (Ds ⟨(Bh (Ca vq32) (by decide)), (Hk ⟨A3, (E8 ⟨A3, ⟨A3, ⟨A3, trivial⟩⟩⟩)⟩)⟩)⟩)) ?_)))
 have e : Ar B = (⟨1, false, 0, false, 0, ⟨#[]⟩, ⟨#[]⟩, vq24, (Ax B yq6), (decide (0 < (bits .and .i64 (Ax B (yq6 + 1)) 2))), wq21, (decide (0 < (bits .and .i64 (Ax B (yq6 + 1)) 4))), vq30, vq32, (bits .and .i64 ((Ax B (yq6 + 1)) / 8) 3), (decide (0 < (bits .and .i64 (Ax B (yq6 + 1)) 32))), (decide (0 < (bits .and .i64 (Ax B (yq6 + 1)) 128))), ⟨#[]⟩, (decide (0 < (bits .and .i64 (Ax B (yq6 + 1)) 64))), ⟨#[]⟩, 0, false, [], [], []⟩ : PacketV) := by
  unfold Ar H0 Hp Ho D0 Hn F6; simp only [h8, h9, h10, h27, h28, h29, h35, h36, h39, h54, q6, q21, q24, q30, q32, if_true, if_false, or_true, or_false, false_or, true_or, zaa, reduceIte, mqtt, F3]; (rfl)
 rw [e]
 rfl
 refine Au (nT h36) (Aw (cs := Ed) rfl (Cd (cs' := Ed) s34 Fy (Aj rfl) rfl (Cr rfl) rfl fun H s63 => Av s63 (.here) rfl (Al (Bp s63 ⟨_, rfl, rfl⟩ (Dr (.nl (Dr (.nl (Hi (.nl (.sc (.sc (.nl (.nl (.nl .nil))))))))))) (Ds ⟨A3, (Ds ⟨A3, (Hk ⟨A3, (E8 ⟨A3, ⟨A3, ⟨A3, trivial⟩⟩⟩)⟩)⟩)⟩)) ?_)))
 have e : Ar B = (⟨0, false, 0, false, 0, ⟨#[]⟩, ⟨#[]⟩, ⟨#[]⟩, 0, false, 0, false, ⟨#[]⟩, ⟨#[]⟩, 0, false, false, ⟨#[]⟩, false, ⟨#[]⟩, 0, false, [], [], []⟩ : PacketV) := by
  unfold Ar H0 Hp Ho D0 Hn F6; simp only [h8, h9, h10, h27, h28, h29, h35, h36, q6, q21, q24, q30, q32, if_true, if_false, or_true, or_false, false_or, true_or, zaa, reduceIte, mqtt, F3]; (rfl)
 rw [e]
 rfl
 refine Am (nT h35) (Am (nT h35) (D7 (nT h35) (Au rfl (Aw (cs := Ed) rfl (Cd (cs' := Ed) s34 Fy (Aj rfl) rfl (Cr rfl) rfl fun H s64 => Av s64 (.here) rfl (Al (Bp s64 ⟨_, rfl, rfl⟩ (Dr (.nl (Dr (.nl (Hi (.nl (.sc (.sc (.nl (.nl (.nl .nil))))))))))) (Ds ⟨A3, (Ds ⟨A3, (Hk ⟨A3, (E8 ⟨A3, ⟨A3, ⟨A3, trivial⟩⟩⟩)⟩)⟩)⟩)) ?_))))))
 have e : Ar B = (⟨0, false, 0, false, 0, ⟨#[]⟩, ⟨#[]⟩, ⟨#[]⟩, 0, false, 0, false, ⟨#[]⟩, ⟨#[]⟩, 0, false, false, ⟨#[]⟩, false, ⟨#[]⟩, 0, false, [], [], []⟩ : PacketV) := by
  unfold Ar H0 Hp Ho D0 Hn F6; simp only [h8, h9, h10, h27, h28, h29, h35, q6, q21, q24, q30, q32, if_true, if_false, or_true, or_false, false_or, true_or, zaa, reduceIte, mqtt, F3]; (rfl)
 rw [e]
 rfl
 have dh29 := of_decide_eq_false h29
 refine A6 h29 (Yu (Bd (c := .sc (.bool (decide (0 < (bits .and .i64 (Ax B (yq6 + 1)) 128))))) s26 (.here) rfl (D1 (Ac ((decide (0 < (bits .and .i64 (Ax B (yq6 + 1)) 128)))) (fun h65 => ?_) fun h65 => ?_))))
 have dh65 := of_decide_eq_true h65
 refine Au h65 ?_
 obtain ⟨vq66, yq66, oq66, q66⟩ : ∃ w y o, Bn B yq24 = (w, y, o) := ⟨_, _, _, rfl⟩
 have bq66 := Gq q66
 refine Do s26 rfl (.cons .ro (.cons .sc .nil)) (by have h := Ll n (by omega) B yq24 (by omega) (by omega); rw [q66] at h; exact h) rfl (A1 (A1 (A1 C2))) ?_
 rintro _ _ H ⟨_, rfl, ⟨_, rfl, ⟨_, rfl, ⟨rfl, rfl⟩⟩⟩⟩ s67
 simp only [zai] at s67
 refine A9 (v := ss vq66) rfl (A9 (v := si yq66) rfl (A9 (v := sb oq66) rfl (Cv (Ac (oq66) (fun h68 => ?_) fun h68 => ?_))))
 refine A6 (nF h68) (Afz (Cg s67 (.here) rfl rfl fun H s69 => Se (Bd (c := .sc (.bool (decide (0 < (bits .and .i64 (Ax B (yq6 + 1)) 64))))) s69 (.here) rfl (D1 (Ac ((decide (0 < (bits .and .i64 (Ax B (yq6 + 1)) 64)))) (fun h70 => ?_) fun h70 => ?_)))))
 have dh70 := of_decide_eq_true h70
 refine Au h70 ?_
 obtain ⟨vq71, yq71, oq71, q71⟩ : ∃ w y o, A8 B yq66 = (w, y, o) := ⟨_, _, _, rfl⟩
 have bq71 := Fe q71
 refine Do s69 rfl (.cons .ro (.cons .sc .nil)) (by have h := Q2 (n + 3) (by omega) B yq66 (by omega) (by omega); rw [q71] at h; exact h) rfl (Hx (ty := 22) rfl (Ca vq71) (A1 (A1 C2))) ?_
 rintro _ _ H ⟨x72, _, _, lx72, rfl, rfl, ⟨_, rfl, ⟨_, rfl, ⟨rfl, rfl⟩⟩⟩⟩ s73
 simp only [zai, zaq] at s73
 refine A9 (v := x72) rfl (A9 (v := si yq71) rfl (A9 (v := sb oq71) rfl (Cv (Ac (oq71) (fun h74 => ?_) fun h74 => ?_))))
 refine A6 (nF h74) (Yv (Cg s73 Cl lx72 rfl fun H s75 => Av s75 (.here) rfl (Cd (cs' := [si 1, bF, i0, bF, i0, sE, .nl, ss vq24, si (Ax B yq6), .sc (.bool (decide (0 < (bits .and .i64 (Ax B (yq6 + 1)) 2)))), si wq21, .sc (.bool (decide (0 < (bits .and .i64 (Ax B (yq6 + 1)) 4)))), sE, .nl, si (bits .and .i64 ((Ax B (yq6 + 1)) / 8) 3), .sc (.bool (decide (0 < (bits .and .i64 (Ax B (yq6 + 1)) 32)))), .sc (.bool (decide (0 < (bits .and .i64 (Ax B (yq6 + 1)) 128)))), ss vq66, .sc (.bool (decide (0 < (bits .and .i64 (Ax B (yq6 + 1)) 64)))), x72, i0, bF, .nl, .nl, .nl]) s75 Fy (Aj (Aa rfl (Aa rfl (Aa rfl (Aa rfl (Aa rfl (Aa rfl (Aa rfl (Aa rfl (Aa rfl (Aa rfl (Aa rfl (Aa rfl (Aa rfl (Aa rfl (Aa rfl (Aa rfl (Aa rfl (Aa rfl (Aa rfl (Aa lx72 rfl))))))))))))))))))))) rfl (Cr rfl) rfl fun H s76 => Av s76 (.here) rfl (Al (Bp s76 ⟨_, rfl, rfl⟩ (Dr (.nl (Dr (.nl (Hi (.own Fy (.sc (.sc (.nl (.nl (.nl .nil))))))))))) (Ds ⟨A3, (Ds ⟨A3, (Hk ⟨(Bh (Ca vq71) (by decide)), (E8 ⟨A3, ⟨A3, ⟨A3, trivial⟩⟩⟩)⟩)⟩)⟩)) ?_))))
 have e : Ar B = (⟨1, false, 0, false, 0, ⟨#[]⟩, ⟨#[]⟩, vq24, (Ax B yq6), (decide (0 < (bits .and .i64 (Ax B (yq6 + 1)) 2))), wq21, (decide (0 < (bits .and .i64 (Ax B (yq6 + 1)) 4))), ⟨#[]⟩, ⟨#[]⟩, (bits .and .i64 ((Ax B (yq6 + 1)) / 8) 3), (decide (0 < (bits .and .i64 (Ax B (yq6 + 1)) 32))), (decide (0 < (bits .and .i64 (Ax B (yq6 + 1)) 128))), vq66, (decide (0 < (bits .and .i64 (Ax B (yq6 + 1)) 64))), vq71, 0, false, [], [], []⟩ : PacketV) := by
  unfold Ar H0 Hp Ho D0 Hn F6; simp only [h8, h9, h10, h27, h28, h29, h65, h68, h70, h74, q6, q21, q24, q66, q71, if_true, if_false, or_true, or_false, false_or, true_or, zaa, reduceIte, mqtt, F3]; (rfl)
 rw [e]
 rfl
 refine Au (nT h74) (Aw (cs := Ed) rfl (Cd (cs' := Ed) s73 Fy (Aj rfl) rfl (Cr rfl) rfl fun H s77 => Av s77 (.here) rfl (Al (Bp s77 ⟨_, rfl, rfl⟩ (Dr (.nl (Dr (.nl (Hi (.nl (.sc (.sc (.nl (.nl (.nl .nil))))))))))) (Ds ⟨A3, (Ds ⟨A3, (Hk ⟨A3, (E8 ⟨A3, ⟨A3, ⟨A3, trivial⟩⟩⟩)⟩)⟩)⟩)) ?_)))
 have e : Ar B = (⟨0, false, 0, false, 0, ⟨#[]⟩, ⟨#[]⟩, ⟨#[]⟩, 0, false, 0, false, ⟨#[]⟩, ⟨#[]⟩, 0, false, false, ⟨#[]⟩, false, ⟨#[]⟩, 0, false, [], [], []⟩ : PacketV) := by
  unfold Ar H0 Hp Ho D0 Hn F6; simp only [h8, h9, h10, h27, h28, h29, h65, h68, h70, h74, q6, q21, q24, q66, q71, if_true, if_false, or_true, or_false, false_or, true_or, zaa, reduceIte, mqtt, F3]; (rfl)
 rw [e]
 rfl
 have dh70 := of_decide_eq_false h70
 refine A6 h70 (Av s69 (.here) rfl (Cd (cs' := [si 1, bF, i0, bF, i0, sE, .nl, ss vq24, si (Ax B yq6), .sc (.bool (decide (0 < (bits .and .i64 (Ax B (yq6 + 1)) 2)))), si wq21, .sc (.bool (decide (0 < (bits .and .i64 (Ax B (yq6 + 1)) 4)))), sE, .nl, si (bits .and .i64 ((Ax B (yq6 + 1)) / 8) 3), .sc (.bool (decide (0 < (bits .and .i64 (Ax B (yq6 + 1)) 32)))), .sc (.bool (decide (0 < (bits .and .i64 (Ax B (yq6 + 1)) 128)))), ss vq66, .sc (.bool (decide (0 < (bits .and .i64 (Ax B (yq6 + 1)) 64)))), .nl, i0, bF, .nl, .nl, .nl]) s69 Cl (Aj rfl) rfl (Cr rfl) rfl fun H s78 => Av s78 (.here) rfl (Al (Bp s78 ⟨_, rfl, rfl⟩ (Dr (.nl (Dr (.nl (Hi (.nl (.sc (.sc (.nl (.nl (.nl .nil))))))))))) (Ds ⟨A3, (Ds ⟨A3, (Hk ⟨A3, (E8 ⟨A3, ⟨A3, ⟨A3, trivial⟩⟩⟩)⟩)⟩)⟩)) ?_)))
 have e : Ar B = (⟨1, false, 0, false, 0, ⟨#[]⟩, ⟨#[]⟩, vq24, (Ax B yq6), (decide (0 < (bits .and .i64 (Ax B (yq6 + 1)) 2))), wq21, (decide (0 < (bits .and .i64 (Ax B (yq6 + 1)) 4))), ⟨#[]⟩, ⟨#[]⟩, (bits .and .i64 ((Ax B (yq6 + 1)) / 8) 3), (decide (0 < (bits .and .i64 (Ax B (yq6 + 1)) 32))), (decide (0 < (bits .and .i64 (Ax B (yq6 + 1)) 128))), vq66, (decide (0 < (bits .and .i64 (Ax B (yq6 + 1)) 64))), ⟨#[]⟩, 0, false, [], [], []⟩ : PacketV) := by
  unfold Ar H0 Hp Ho D0 Hn F6; simp only [h8, h9, h10, h27, h28, h29, h65, h68, h70, q6, q21, q24, q66, if_true, if_false, or_true, or_false, false_or, true_or, zaa, reduceIte, mqtt, F3]; (rfl)
 rw [e]
 rfl
 refine Au (nT h68) (Aw (cs := Ed) rfl (Cd (cs' := Ed) s67 Cl (Aj rfl) rfl (Cr rfl) rfl fun H s79 => Av s79 (.here) rfl (Al (Bp s79 ⟨_, rfl, rfl⟩ (Dr (.nl (Dr (.nl (Hi (.nl (.sc (.sc (.nl (.nl (.nl .nil))))))))))) (Ds ⟨A3, (Ds ⟨A3, (Hk ⟨A3, (E8 ⟨A3, ⟨A3, ⟨A3, trivial⟩⟩⟩)⟩)⟩)⟩)) ?_)))
 have e : Ar B = (⟨0, false, 0, false, 0, ⟨#[]⟩, ⟨#[]⟩, ⟨#[]⟩, 0, false, 0, false, ⟨#[]⟩, ⟨#[]⟩, 0, false, false, ⟨#[]⟩, false, ⟨#[]⟩, 0, false, [], [], []⟩ : PacketV) := by
  unfold Ar H0 Hp Ho D0 Hn F6; simp only [h8, h9, h10, h27, h28, h29, h65, h68, q6, q21, q24, q66, if_true, if_false, or_true, or_false, false_or, true_or, zaa, reduceIte, mqtt, F3]; (rfl)
 rw [e]
 rfl
 have dh65 := of_decide_eq_false h65
 refine A6 h65 (Se (Bd (c := .sc (.bool (decide (0 < (bits .and .i64 (Ax B (yq6 + 1)) 64))))) s26 (.here) rfl (D1 (Ac ((decide (0 < (bits .and .i64 (Ax B (yq6 + 1)) 64)))) (fun h80 => ?_) fun h80 => ?_))))
 have dh80 := of_decide_eq_true h80
 refine Au h80 ?_
 obtain ⟨vq81, yq81, oq81, q81⟩ : ∃ w y o, A8 B yq24 = (w, y, o) := ⟨_, _, _, rfl⟩
 have bq81 := Fe q81
 refine Do s26 rfl (.cons .ro (.cons .sc .nil)) (by have h := Q2 (n + 3) (by omega) B yq24 (by omega) (by omega); rw [q81] at h; exact h) rfl (Hx (ty := 22) rfl (Ca vq81) (A1 (A1 C2))) ?_
 rintro _ _ H ⟨x82, _, _, lx82, rfl, rfl, ⟨_, rfl, ⟨_, rfl, ⟨rfl, rfl⟩⟩⟩⟩ s83
 simp only [zai, zaq] at s83
 refine A9 (v := x82) rfl (A9 (v := si yq81) rfl (A9 (v := sb oq81) rfl (Cv (Ac (oq81) (fun h84 => ?_) fun h84 => ?_))))
 refine A6 (nF h84) (Yv (Cg s83 Cl lx82 rfl fun H s85 => Av s85 (.here) rfl (Cd (cs' := [si 1, bF, i0, bF, i0, sE, .nl, ss vq24, si (Ax B yq6), .sc (.bool (decide (0 < (bits .and .i64 (Ax B (yq6 + 1)) 2)))), si wq21, .sc (.bool (decide (0 < (bits .and .i64 (Ax B (yq6 + 1)) 4)))), sE, .nl, si (bits .and .i64 ((Ax B (yq6 + 1)) / 8) 3), .sc (.bool (decide (0 < (bits .and .i64 (Ax B (yq6 + 1)) 32)))), .sc (.bool (decide (0 < (bits .and .i64 (Ax B (yq6 + 1)) 128)))), sE, .sc (.bool (decide (0 < (bits .and .i64 (Ax B (yq6 + 1)) 64)))), x82, i0, bF, .nl, .nl, .nl]) s85 Fy (Aj (Aa rfl (Aa rfl (Aa rfl (Aa rfl (Aa rfl (Aa rfl (Aa rfl (Aa rfl (Aa rfl (Aa rfl (Aa rfl (Aa rfl (Aa rfl (Aa rfl (Aa rfl (Aa rfl (Aa rfl (Aa rfl (Aa rfl (Aa lx82 rfl))))))))))))))))))))) rfl (Cr rfl) rfl fun H s86 => Av s86 (.here) rfl (Al (Bp s86 ⟨_, rfl, rfl⟩ (Dr (.nl (Dr (.nl (Hi (.own Fy (.sc (.sc (.nl (.nl (.nl .nil))))))))))) (Ds ⟨A3, (Ds ⟨A3, (Hk ⟨(Bh (Ca vq81) (by decide)), (E8 ⟨A3, ⟨A3, ⟨A3, trivial⟩⟩⟩)⟩)⟩)⟩)) ?_))))
 have e : Ar B = (⟨1, false, 0, false, 0, ⟨#[]⟩, ⟨#[]⟩, vq24, (Ax B yq6), (decide (0 < (bits .and .i64 (Ax B (yq6 + 1)) 2))), wq21, (decide (0 < (bits .and .i64 (Ax B (yq6 + 1)) 4))), ⟨#[]⟩, ⟨#[]⟩, (bits .and .i64 ((Ax B (yq6 + 1)) / 8) 3), (decide (0 < (bits .and .i64 (Ax B (yq6 + 1)) 32))), (decide (0 < (bits .and .i64 (Ax B (yq6 + 1)) 128))), ⟨#[]⟩, (decide (0 < (bits .and .i64 (Ax B (yq6 + 1)) 64))), vq81, 0, false, [], [], []⟩ : PacketV) := by
  unfold Ar H0 Hp Ho D0 Hn F6; simp only [h8, h9, h10, h27, h28, h29, h65, h80, h84, q6, q21, q24, q81, if_true, if_false, or_true, or_false, false_or, true_or, zaa, reduceIte, mqtt, F3]; (rfl)
 rw [e]
 rfl
 refine Au (nT h84) (Aw (cs := Ed) rfl (Cd (cs' := Ed) s83 Fy (Aj rfl) rfl (Cr rfl) rfl fun H s87 => Av s87 (.here) rfl (Al (Bp s87 ⟨_, rfl, rfl⟩ (Dr (.nl (Dr (.nl (Hi (.nl (.sc (.sc (.nl (.nl (.nl .nil))))))))))) (Ds ⟨A3, (Ds ⟨A3, (Hk ⟨A3, (E8 ⟨A3, ⟨A3, ⟨A3, trivial⟩⟩⟩)⟩)⟩)⟩)) ?_)))
 have e : Ar B = (⟨0, false, 0, false, 0, ⟨#[]⟩, ⟨#[]⟩, ⟨#[]⟩, 0, false, 0, false, ⟨#[]⟩, ⟨#[]⟩, 0, false, false, ⟨#[]⟩, false, ⟨#[]⟩, 0, false, [], [], []⟩ : PacketV) := by
  unfold Ar H0 Hp Ho D0 Hn F6; simp only [h8, h9, h10, h27, h28, h29, h65, h80, h84, q6, q21, q24, q81, if_true, if_false, or_true, or_false, false_or, true_or, zaa, reduceIte, mqtt, F3]; (rfl)
 rw [e]
 rfl
 have dh80 := of_decide_eq_false h80
 refine A6 h80 (Av s26 (.here) rfl (Cd (cs' := [si 1, bF, i0, bF, i0, sE, .nl, ss vq24, si (Ax B yq6), .sc (.bool (decide (0 < (bits .and .i64 (Ax B (yq6 + 1)) 2)))), si wq21, .sc (.bool (decide (0 < (bits .and .i64 (Ax B (yq6 + 1)) 4)))), sE, .nl, si (bits .and .i64 ((Ax B (yq6 + 1)) / 8) 3), .sc (.bool (decide (0 < (bits .and .i64 (Ax B (yq6 + 1)) 32)))), .sc (.bool (decide (0 < (bits .and .i64 (Ax B (yq6 + 1)) 128)))), sE, .sc (.bool (decide (0 < (bits .and .i64 (Ax B (yq6 + 1)) 64)))), .nl, i0, bF, .nl, .nl, .nl]) s26 Cl (Aj rfl) rfl (Cr rfl) rfl fun H s88 => Av s88 (.here) rfl (Al (Bp s88 ⟨_, rfl, rfl⟩ (Dr (.nl (Dr (.nl (Hi (.nl (.sc (.sc (.nl (.nl (.nl .nil))))))))))) (Ds ⟨A3, (Ds ⟨A3, (Hk ⟨A3, (E8 ⟨A3, ⟨A3, ⟨A3, trivial⟩⟩⟩)⟩)⟩)⟩)) ?_)))
 have e : Ar B = (⟨1, false, 0, false, 0, ⟨#[]⟩, ⟨#[]⟩, vq24, (Ax B yq6), (decide (0 < (bits .and .i64 (Ax B (yq6 + 1)) 2))), wq21, (decide (0 < (bits .and .i64 (Ax B (yq6 + 1)) 4))), ⟨#[]⟩, ⟨#[]⟩, (bits .and .i64 ((Ax B (yq6 + 1)) / 8) 3), (decide (0 < (bits .and .i64 (Ax B (yq6 + 1)) 32))), (decide (0 < (bits .and .i64 (Ax B (yq6 + 1)) 128))), ⟨#[]⟩, (decide (0 < (bits .and .i64 (Ax B (yq6 + 1)) 64))), ⟨#[]⟩, 0, false, [], [], []⟩ : PacketV) := by
  unfold Ar H0 Hp Ho D0 Hn F6; simp only [h8, h9, h10, h27, h28, h29, h65, h80, q6, q21, q24, if_true, if_false, or_true, or_false, false_or, true_or, zaa, reduceIte, mqtt, F3]; (rfl)
 rw [e]
 rfl
 refine Au (nT h28) (Aw (cs := Ed) rfl (Cd (cs' := Ed) s26 Cl (Aj rfl) rfl (Cr rfl) rfl fun H s89 => Av s89 (.here) rfl (Al (Bp s89 ⟨_, rfl, rfl⟩ (Dr (.nl (Dr (.nl (Hi (.nl (.sc (.sc (.nl (.nl (.nl .nil))))))))))) (Ds ⟨A3, (Ds ⟨A3, (Hk ⟨A3, (E8 ⟨A3, ⟨A3, ⟨A3, trivial⟩⟩⟩)⟩)⟩)⟩)) ?_)))
 have e : Ar B = (⟨0, false, 0, false, 0, ⟨#[]⟩, ⟨#[]⟩, ⟨#[]⟩, 0, false, 0, false, ⟨#[]⟩, ⟨#[]⟩, 0, false, false, ⟨#[]⟩, false, ⟨#[]⟩, 0, false, [], [], []⟩ : PacketV) := by
  unfold Ar H0 Hp Ho D0 Hn F6; simp only [h8, h9, h10, h27, h28, q6, q21, q24, if_true, if_false, or_true, or_false, false_or, true_or, zaa, reduceIte, mqtt, F3]; (rfl)
 rw [e]
 rfl
 refine Am (nT h27) (Am (nT h27) (D7 (nT h27) (Au rfl (Aw (cs := Ed) rfl (Cd (cs' := Ed) s26 Cl (Aj rfl) rfl (Cr rfl) rfl fun H s90 => Av s90 (.here) rfl (Al (Bp s90 ⟨_, rfl, rfl⟩ (Dr (.nl (Dr (.nl (Hi (.nl (.sc (.sc (.nl (.nl (.nl .nil))))))))))) (Ds ⟨A3, (Ds ⟨A3, (Hk ⟨A3, (E8 ⟨A3, ⟨A3, ⟨A3, trivial⟩⟩⟩)⟩)⟩)⟩)) ?_))))))
 have e : Ar B = (⟨0, false, 0, false, 0, ⟨#[]⟩, ⟨#[]⟩, ⟨#[]⟩, 0, false, 0, false, ⟨#[]⟩, ⟨#[]⟩, 0, false, false, ⟨#[]⟩, false, ⟨#[]⟩, 0, false, [], [], []⟩ : PacketV) := by
  unfold Ar H0 Hp Ho D0 Hn F6; simp only [h8, h9, h10, h27, q6, q21, q24, if_true, if_false, or_true, or_false, false_or, true_or, zaa, reduceIte, mqtt, F3]; (rfl)
 rw [e]
 rfl
 refine Am (nT h9) (Am (nT h9) (Am (nT h9) (Am (nT h9) (Am (nT h9) (D7 (nT h9) (Au rfl (Aw (cs := Ed) rfl (Cd (cs' := Ed) s7 Cl (Aj rfl) rfl (Cr rfl) rfl fun H s91 => Av s91 (.here) rfl (Al (Bp s91 ⟨_, rfl, rfl⟩ (Dr (.nl (Dr (.nl (Hi (.nl (.sc (.sc (.nl (.nl (.nl .nil))))))))))) (Ds ⟨A3, (Ds ⟨A3, (Hk ⟨A3, (E8 ⟨A3, ⟨A3, ⟨A3, trivial⟩⟩⟩)⟩)⟩)⟩)) ?_)))))))))
 have e : Ar B = (⟨0, false, 0, false, 0, ⟨#[]⟩, ⟨#[]⟩, ⟨#[]⟩, 0, false, 0, false, ⟨#[]⟩, ⟨#[]⟩, 0, false, false, ⟨#[]⟩, false, ⟨#[]⟩, 0, false, [], [], []⟩ : PacketV) := by
  unfold Ar H0 Hp Ho D0 Hn F6; simp only [h8, h9, q6, if_true, if_false, or_true, or_false, false_or, true_or, zaa, reduceIte, mqtt, F3]; (rfl)
 rw [e]
 rfl
 refine Am (nT h8) (Am (nT h8) (D7 (nT h8) (Am rfl (Am rfl (Am rfl (Am rfl (Am rfl (D7 rfl (Au rfl (Aw (cs := Ed) rfl (Cd (cs' := Ed) s7 Cl (Aj rfl) rfl (Cr rfl) rfl fun H s92 => Av s92 (.here) rfl (Al (Bp s92 ⟨_, rfl, rfl⟩ (Dr (.nl (Dr (.nl (Hi (.nl (.sc (.sc (.nl (.nl (.nl .nil))))))))))) (Ds ⟨A3, (Ds ⟨A3, (Hk ⟨A3, (E8 ⟨A3, ⟨A3, ⟨A3, trivial⟩⟩⟩)⟩)⟩)⟩)) ?_))))))))))))
 have e : Ar B = (⟨0, false, 0, false, 0, ⟨#[]⟩, ⟨#[]⟩, ⟨#[]⟩, 0, false, 0, false, ⟨#[]⟩, ⟨#[]⟩, 0, false, false, ⟨#[]⟩, false, ⟨#[]⟩, 0, false, [], [], []⟩ : PacketV) := by
  unfold Ar H0 Hp Ho D0 Hn F6; simp only [h8, q6, if_true, if_false, or_true, or_false, false_or, true_or, zaa, reduceIte, mqtt, F3]; (rfl)
 rw [e]
 rfl
theorem Pi (n : Nat) (hn : 1048576 < n) (t id : Int) (B : ByteArray) (d4 d5 : Nat) (hB : B.size ≤ 1048576) (cs : List Int) : ∀ (f m : Nat) (a : Int) (ws : List WantV) (ns : List ByteArray) (xw xc xn : AV) (H : Ab), f ≤ m → ((B.size : Nat) : Int) - a < f → 0 ≤ a → ((ws.length + ns.length : Nat) : Int) ≤ a ∧ a ≤ ((B.size : Nat) : Int) → A2 xw = true → A2 xc = true → A2 xn = true → Sep H [.own xw 55 (Bl Bu ws), .own xc 57 (Ey cs), .own xn 56 (Et ns), .blk d4 [.sc (.int .i64 0), .sc (.bool false), .sc (.int .i64 0), .sc (.bool false), .sc (.int .i64 0), .sc (.string (⟨#[]⟩)), .nl, .sc (.string (⟨#[]⟩)), .sc (.int .i64 0), .sc (.bool false), .sc (.int .i64 0), .sc (.bool false), .sc (.string (⟨#[]⟩)), .nl, .sc (.int .i64 0), .sc (.bool false), .sc (.bool false), .sc (.string (⟨#[]⟩)), .sc (.bool false), .nl, .sc (.int .i64 0), .sc (.bool false), .nl, .nl, .nl] true, .blk d5 [.sc (.int .i64 t), .sc (.bool false), .sc (.int .i64 0), .sc (.bool false), .sc (.int .i64 id), .sc (.string (⟨#[]⟩)), .nl, .sc (.string (⟨#[]⟩)), .sc (.int .i64 0), .sc (.bool false), .sc (.int .i64 0), .sc (.bool false), .sc (.string (⟨#[]⟩)), .nl, .sc (.int .i64 0), .sc (.bool false), .sc (.bool false), .sc (.string (⟨#[]⟩)), .sc (.bool false), .nl, .sc (.int .i64 0), .sc (.bool false), xw, xn, xc] true] → Gd (· = some (.agg (Ag (Ml t id cs (Cs t B f a ws ns))))) (Pp (PR (n + 6) AV) (n + 6) (fun x H => A4 Ak E0.tp 59 H x) m (Ae B) (.ptr d4 0) (.ptr d5 0) (.sc (.int .i64 a)) H)
 | 0, m, a, ws, ns, xw, xc, xn, H, hm, hM, h0, h1, lxw, lxc, lxn, s0 => by
  exfalso
  omega
 | f + 1, m + 1, a, ws, ns, xw, xc, xn, H, hm, hM, h0, h1, lxw, lxc, lxn, s0 => by
  rw [Pp]
  try simp only [Fa, E9]
  refine Dd (Dq (Ac ((decide (a < ((B.size : Nat) : Int)))) (fun h1 => ?_) fun h1 => ?_))
  have dh1 := of_decide_eq_true h1
  refine Ao h1 (Q9 (Ao h1 (Bd (c := si t) s0 Mm rfl (Ao h1 (Ce (Ao h1 (Ac ((decide (t = 8))) (fun h2 => ?_) fun h2 => ?_)))))))
  have dh2 := of_decide_eq_true h2
  refine Am h2 (Am h2 (Am h2 (Ao h1 (D7 h2 (D7 h1 (Au rfl ?_))))))
  obtain ⟨vq3, yq3, oq3, q3⟩ : ∃ w y o, Bn B a = (w, y, o) := ⟨_, _, _, rfl⟩
  have bq3 := Gq q3
  refine Do s0 rfl (.cons .ro (.cons .sc .nil)) (by have h := Ll (n + 1) (by omega) B a (by omega) (by omega); rw [q3] at h; exact h) rfl (A1 (A1 (A1 C2))) ?_
  rintro _ _ H ⟨_, rfl, ⟨_, rfl, ⟨_, rfl, ⟨rfl, rfl⟩⟩⟩⟩ s4
  simp only [zai] at s4
  refine A9 (v := ss vq3) rfl (A9 (v := si yq3) rfl (A9 (v := sb oq3) rfl (Cv (Ac (oq3) (fun h5 => ?_) fun h5 => ?_))))
  refine A6 (nF h5) (Q9 (Bd (c := si t) s4 Mm rfl (Ce (Ac ((decide (t = 10))) (fun h6 => ?_) fun h6 => ?_))))
  have dh6 := of_decide_eq_true h6
  refine Au h6 (Pz (Bd (c := xn) s4 Mm rfl (Aw (cs := [ss vq3]) rfl (Bt s4 fun i7 H s8 => Aan s8 Ls (.here) ⟨_, _, rfl, rfl, rfl, rfl⟩ rfl (by omega) fun x9 H lx9 s10 => Pz (Cd (cs' := [si t, bF, i0, bF, si id, sE, .nl, sE, i0, bF, i0, bF, sE, .nl, i0, bF, bF, sE, bF, .nl, i0, bF, xw, x9, xc]) s10 Mm (Ch lx9) rfl (Cr rfl) rfl fun H s11 => ?_)))))
  have e : Cs t B (f + 1) a ws ns = Cs t B f yq3 ws (ns ++ [vq3]) := by
   clear s0 s4 s8 s10 s11
   simp only [Ea] at h1 h2 h6
   (exfalso; omega)
  rw [e]
  have hk := bq3.2.2.2 h5
  exact Pi n hn t id B d4 d5 hB cs f m yq3 ws (ns ++ [vq3]) xw xc x9 _ (by omega) (by omega) (by omega) (by omega) lxw lxc lx9 (s11.sel (.cons Fy (.cons Fy (.cons Cl (.cons Cl (.cons (.here) .nil))))))
  have dh6 := of_decide_eq_false h6
  refine A6 h6 (Dd (Ce (Ac ((decide (yq3 = ((B.size : Nat) : Int)))) (fun h12 => ?_) fun h12 => ?_)))
  have dh12 := of_decide_eq_true h12
  refine Au h12 (Aw (cs := Ed) rfl (Cd (cs' := Ed) s4 Ls (Aj rfl) rfl (Cr rfl) rfl fun H s13 => Av s13 (.here) rfl (Al (Bp s13 ⟨_, rfl, rfl⟩ (Dr (.nl (Dr (.nl (Hi (.nl (.sc (.sc (.nl (.nl (.nl .nil))))))))))) (Ds ⟨A3, (Ds ⟨A3, (Hk ⟨A3, (E8 ⟨A3, ⟨A3, ⟨A3, trivial⟩⟩⟩)⟩)⟩)⟩)) ?_)))
  have e : Ml t id cs (Cs t B (f + 1) a ws ns) = (⟨0, false, 0, false, 0, ⟨#[]⟩, ⟨#[]⟩, ⟨#[]⟩, 0, false, 0, false, ⟨#[]⟩, ⟨#[]⟩, 0, false, false, ⟨#[]⟩, false, ⟨#[]⟩, 0, false, [], [], []⟩ : PacketV) := by
   simp only [Ea] at h1 h2 h6 h12
   rw [Cs]; simp only [q3]; simp [Ml, Cn, h1, h2, h5, h6, h12]
  rw [e]
  rfl
  have dh12 := of_decide_eq_false h12
  refine A6 h12 (Py (Bd (c := xw) s4 Mm rfl ?_))
  have w14 := Dw B yq3
  refine Gp (by omega) (by omega) fun _ => Fq (c := su (Ax B yq3)) rfl (K4 (by omega) (by omega) (Aw (cs := [ss vq3, si (Ax B yq3)]) rfl (Aw (cs := [ss vq3, si (Ax B yq3)]) (Gh (z' := [ss vq3, si (Ax B yq3)]) (Aj rfl) rfl (Cr rfl) rfl (rfl)) (Bt s4 fun i15 H s16 => Aam (cty := [9, 3]) (e := (⟨vq3, (Ax B yq3)⟩ : WantV)) s16 ⟨_, _, rfl, rfl, rfl, rfl⟩ Cl (.here) rfl rfl (.sc (.sc .nil)) (E8 trivial) rfl (by omega) fun x17 H lx17 s18 => Py (Cd (cs' := [si t, bF, i0, bF, si id, sE, .nl, sE, i0, bF, i0, bF, sE, .nl, i0, bF, bF, sE, bF, .nl, i0, bF, x17, xn, xc]) s18 Mm (Ch lx17) rfl (Cr rfl) rfl fun H s19 => Bq (by omega) (by omega) ?_)))))
  have e : Cs t B (f + 1) a ws ns = Cs t B f (yq3 + 1) (ws ++ [⟨vq3, (Ax B yq3)⟩]) ns := by
   simp only [Ea] at h1 h2 h6 h12
   (rw [Cs]; simp only [q3]; simp [h1, h2, h5, h6, h12])
  rw [e]
  have hk := bq3.2.2.2 h5
  exact Pi n hn t id B d4 d5 hB cs f m (yq3 + 1) (ws ++ [⟨vq3, (Ax B yq3)⟩]) ns x17 xc xn _ (by omega) (by omega) (by omega) (by (simp only [zae, zas]; omega)) lx17 lxc lxn (s19.sel (.cons Cl (.cons Cl (.cons Cl (.cons Cl (.cons (.here) .nil))))))
  refine Au (nT h5) (Aw (cs := Ed) rfl (Cd (cs' := Ed) s4 Ls (Aj rfl) rfl (Cr rfl) rfl fun H s20 => Av s20 (.here) rfl (Al (Bp s20 ⟨_, rfl, rfl⟩ (Dr (.nl (Dr (.nl (Hi (.nl (.sc (.sc (.nl (.nl (.nl .nil))))))))))) (Ds ⟨A3, (Ds ⟨A3, (Hk ⟨A3, (E8 ⟨A3, ⟨A3, ⟨A3, trivial⟩⟩⟩)⟩)⟩)⟩)) ?_)))
  have e : Ml t id cs (Cs t B (f + 1) a ws ns) = (⟨0, false, 0, false, 0, ⟨#[]⟩, ⟨#[]⟩, ⟨#[]⟩, 0, false, 0, false, ⟨#[]⟩, ⟨#[]⟩, 0, false, false, ⟨#[]⟩, false, ⟨#[]⟩, 0, false, [], [], []⟩ : PacketV) := by
   simp only [Ea] at h1 h2
   rw [Cs]; simp only [q3]; simp [Ml, Cn, h1, h2, h5]
  rw [e]
  rfl
  have dh2 := of_decide_eq_false h2
  refine Ao h2 (Q9 (Ao h2 (Bd (c := si t) s0 Mm rfl (Ao h2 (Ce (Ao h1 (D3 h2 (D7 h1 (Ac ((decide (t = 10))) (fun h21 => ?_) fun h21 => ?_)))))))))
  have dh21 := of_decide_eq_true h21
  refine Au h21 ?_
  obtain ⟨vq22, yq22, oq22, q22⟩ : ∃ w y o, Bn B a = (w, y, o) := ⟨_, _, _, rfl⟩
  have bq22 := Gq q22
  refine Do s0 rfl (.cons .ro (.cons .sc .nil)) (by have h := Ll (n + 1) (by omega) B a (by omega) (by omega); rw [q22] at h; exact h) rfl (A1 (A1 (A1 C2))) ?_
  rintro _ _ H ⟨_, rfl, ⟨_, rfl, ⟨_, rfl, ⟨rfl, rfl⟩⟩⟩⟩ s23
  simp only [zai] at s23
  refine A9 (v := ss vq22) rfl (A9 (v := si yq22) rfl (A9 (v := sb oq22) rfl (Cv (Ac (oq22) (fun h24 => ?_) fun h24 => ?_))))
  refine A6 (nF h24) (Q9 (Bd (c := si t) s23 Mm rfl (Ce (Au h21 (Pz (Bd (c := xn) s23 Mm rfl (Aw (cs := [ss vq22]) rfl (Bt s23 fun i25 H s26 => Aan s26 Ls (.here) ⟨_, _, rfl, rfl, rfl, rfl⟩ rfl (by omega) fun x27 H lx27 s28 => Pz (Cd (cs' := [si t, bF, i0, bF, si id, sE, .nl, sE, i0, bF, i0, bF, sE, .nl, i0, bF, bF, sE, bF, .nl, i0, bF, xw, x27, xc]) s28 Mm (Ch lx27) rfl (Cr rfl) rfl fun H s29 => ?_)))))))))
  have e : Cs t B (f + 1) a ws ns = Cs t B f yq22 ws (ns ++ [vq22]) := by
   simp only [Ea] at h1 h2 h21
   (rw [Cs]; simp only [q22]; simp [h1, h2, h21, h24])
  rw [e]
  have hk := bq22.2.2.2 h24
  exact Pi n hn t id B d4 d5 hB cs f m yq22 ws (ns ++ [vq22]) xw xc x27 _ (by omega) (by omega) (by omega) (by (simp only [zae, zas]; omega)) lxw lxc lx27 (s29.sel (.cons Fy (.cons Fy (.cons Cl (.cons Cl (.cons (.here) .nil))))))
  refine Au (nT h24) (Aw (cs := Ed) rfl (Cd (cs' := Ed) s23 Ls (Aj rfl) rfl (Cr rfl) rfl fun H s30 => Av s30 (.here) rfl (Al (Bp s30 ⟨_, rfl, rfl⟩ (Dr (.nl (Dr (.nl (Hi (.nl (.sc (.sc (.nl (.nl (.nl .nil))))))))))) (Ds ⟨A3, (Ds ⟨A3, (Hk ⟨A3, (E8 ⟨A3, ⟨A3, ⟨A3, trivial⟩⟩⟩)⟩)⟩)⟩)) ?_)))
  have e : Ml t id cs (Cs t B (f + 1) a ws ns) = (⟨0, false, 0, false, 0, ⟨#[]⟩, ⟨#[]⟩, ⟨#[]⟩, 0, false, 0, false, ⟨#[]⟩, ⟨#[]⟩, 0, false, false, ⟨#[]⟩, false, ⟨#[]⟩, 0, false, [], [], []⟩ : PacketV) := by
   simp only [Ea] at h1 h2 h21
   rw [Cs]; simp only [q22]; simp [Ml, Cn, h1, h2, h21, h24]
  rw [e]
  rfl
  have dh21 := of_decide_eq_false h21
  refine A6 h21 (Av s0 Mm rfl (Cd (cs' := [si t, bF, i0, bF, si id, sE, .nl, sE, i0, bF, i0, bF, sE, .nl, i0, bF, bF, sE, bF, .nl, i0, bF, xw, xn, xc]) s0 Ls (Aj (Aa rfl (Aa rfl (Aa rfl (Aa rfl (Aa rfl (Aa rfl (Aa rfl (Aa rfl (Aa rfl (Aa rfl (Aa rfl (Aa rfl (Aa rfl (Aa rfl (Aa rfl (Aa rfl (Aa rfl (Aa rfl (Aa rfl (Aa rfl (Aa rfl (Aa rfl (Aa lxw (Aa lxn (Aa lxc rfl)))))))))))))))))))))))))) rfl (Cr rfl) rfl fun H s31 => Av s31 (.here) rfl (Al (Bp s31 ⟨_, rfl, rfl⟩ (Dr (.nl (Dr (.nl (Hi (.nl (.sc (.sc (.own Cl (.own Fy (.own Cl .nil))))))))))) (Ds ⟨A3, (Ds ⟨A3, (Hk ⟨A3, (E8 ⟨(Bh (Lj ws) (by decide)), ⟨(Bh (Xh ns) (by decide)), ⟨(Bh (Aay cs) (by decide)), trivial⟩⟩⟩)⟩)⟩)⟩)) ?_)))
  have e : Ml t id cs (Cs t B (f + 1) a ws ns) = (⟨t, false, 0, false, id, ⟨#[]⟩, ⟨#[]⟩, ⟨#[]⟩, 0, false, 0, false, ⟨#[]⟩, ⟨#[]⟩, 0, false, false, ⟨#[]⟩, false, ⟨#[]⟩, 0, false, ws, ns, cs⟩ : PacketV) := by
   simp only [Ea] at h1 h2 h21
   rw [Cs]; simp [Ml, Cn, h1, h2, h21]
  rw [e]
  rfl
  have dh1 := of_decide_eq_false h1
  refine Am h1 (Am h1 (Am h1 (Am h1 (Hw (Hw (Hw (Am h1 (D3 h1 (A6 rfl (Av s0 Mm rfl (Cd (cs' := [si t, bF, i0, bF, si id, sE, .nl, sE, i0, bF, i0, bF, sE, .nl, i0, bF, bF, sE, bF, .nl, i0, bF, xw, xn, xc]) s0 Ls (Aj (Aa rfl (Aa rfl (Aa rfl (Aa rfl (Aa rfl (Aa rfl (Aa rfl (Aa rfl (Aa rfl (Aa rfl (Aa rfl (Aa rfl (Aa rfl (Aa rfl (Aa rfl (Aa rfl (Aa rfl (Aa rfl (Aa rfl (Aa rfl (Aa rfl (Aa rfl (Aa lxw (Aa lxn (Aa lxc rfl)))))))))))))))))))))))))) rfl (Cr rfl) rfl fun H s32 => Av s32 (.here) rfl (Al (Bp s32 ⟨_, rfl, rfl⟩ (Dr (.nl (Dr (.nl (Hi (.nl (.sc (.sc (.own Cl (.own Fy (.own Cl .nil))))))))))) (Ds ⟨A3, (Ds ⟨A3, (Hk ⟨A3, (E8 ⟨(Bh (Lj ws) (by decide)), ⟨(Bh (Xh ns) (by decide)), ⟨(Bh (Aay cs) (by decide)), trivial⟩⟩⟩)⟩)⟩)⟩)) ?_))))))))))))
  have e : Ml t id cs (Cs t B (f + 1) a ws ns) = (⟨t, false, 0, false, id, ⟨#[]⟩, ⟨#[]⟩, ⟨#[]⟩, 0, false, 0, false, ⟨#[]⟩, ⟨#[]⟩, 0, false, false, ⟨#[]⟩, false, ⟨#[]⟩, 0, false, ws, ns, cs⟩ : PacketV) := by
   simp only [Ea] at h1
   rw [Cs]; simp [Ml, Cn, h1]
  rw [e]
  rfl
theorem Vu (n : Nat) (hn : 1048576 < n) (t id : Int) (B : ByteArray) (d4 d5 : Nat) (hB : B.size ≤ 1048576) (a : Int) (ha : 0 ≤ a ∧ a ≤ ((B.size : Nat) : Int)) : ∀ (f m : Nat) (i : Int) (cs : List Int) (xc : AV) (H : Ab), f ≤ m → ((B.size : Nat) : Int) - i < f → 0 ≤ i → ((cs.length : Nat) : Int) ≤ i ∧ i ≤ ((B.size : Nat) : Int) → A2 xc = true → Sep H [.own xc 57 (Ey cs), .blk d4 [.sc (.int .i64 0), .sc (.bool false), .sc (.int .i64 0), .sc (.bool false), .sc (.int .i64 0), .sc (.string (⟨#[]⟩)), .nl, .sc (.string (⟨#[]⟩)), .sc (.int .i64 0), .sc (.bool false), .sc (.int .i64 0), .sc (.bool false), .sc (.string (⟨#[]⟩)), .nl, .sc (.int .i64 0), .sc (.bool false), .sc (.bool false), .sc (.string (⟨#[]⟩)), .sc (.bool false), .nl, .sc (.int .i64 0), .sc (.bool false), .nl, .nl, .nl] true, .blk d5 [.sc (.int .i64 t), .sc (.bool false), .sc (.int .i64 0), .sc (.bool false), .sc (.int .i64 id), .sc (.string (⟨#[]⟩)), .nl, .sc (.string (⟨#[]⟩)), .sc (.int .i64 0), .sc (.bool false), .sc (.int .i64 0), .sc (.bool false), .sc (.string (⟨#[]⟩)), .nl, .sc (.int .i64 0), .sc (.bool false), .sc (.bool false), .sc (.string (⟨#[]⟩)), .sc (.bool false), .nl, .sc (.int .i64 0), .sc (.bool false), .nl, .nl, xc] true] → Gd (· = some (.agg (Ag (Ml t id (Gc B f i cs) (Cs t B (B.size + 1) a [] []))))) (Pq (PR (n + 6) AV) (n + 6) (fun x H => A4 Ak E0.tp 59 H x) m (Ae B) (.ptr d4 0) (.ptr d5 0) (.sc (.int .i64 a)) (.sc (.int .i64 i)) H)
 | 0, m, i, cs, xc, H, hm, hM, h0, h1, lxc, s0 => by
  exfalso
  omega
 | f + 1, m + 1, i, cs, xc, H, hm, hM, h0, h1, lxc, s0 => by
  rw [Pq]
  try simp only [Fa, E9]
  refine Dd (Dq (Ac ((decide (i < ((B.size : Nat) : Int)))) (fun h1 => ?_) fun h1 => ?_))
  have dh1 := of_decide_eq_true h1
  refine Au h1 (Q6 (Bd (c := xc) s0 Fy rfl ?_))
  have w2 := Dw B i
  refine Gp (by omega) (by omega) fun _ => Fq (c := su (Ax B i)) rfl (K4 (by omega) (by omega) (Aw (cs := [si (Ax B i)]) rfl (Bt s0 fun i3 H s4 => AdA s4 Cl (.here) ⟨_, _, rfl, rfl, rfl, rfl⟩ rfl (by omega) fun x5 H lx5 s6 => Q6 (Cg s6 Fy lx5 rfl fun H s7 => Bq (by omega) (by omega) ?_))))
  have e : Gc B (f + 1) i cs = Gc B f (i + 1) (cs ++ [(Ax B i)]) := by
   simp only [Ea] at h1
   rw [Gc]; simp [h1]
  rw [e]
  exact Vu n hn t id B d4 d5 hB a ha f m (i + 1) (cs ++ [(Ax B i)]) x5 _ (by omega) (by omega) (by omega) (by (simp only [zae, zas]; omega)) lx5 (s7.sel (.cons Cl (.cons Cl (.cons (.here) .nil))))
  have dh1 := of_decide_eq_false h1
  refine A6 h1 ?_
  have e : Gc B (f + 1) i cs = cs := by
   simp only [Ea] at h1
   rw [Gc]; simp [h1]
  rw [e]
  have s8 := s0.nl (ty := 56) ⟨_, _, rfl, rfl⟩
  have s9 := s8.nl (ty := 55) ⟨_, _, rfl, rfl⟩
  exact Pi n hn t id B d4 d5 hB cs (B.size + 1) _ a [] [] .nl xc .nl _ (by omega) (by omega) (by omega) (by omega) rfl lxc rfl (s9.sel (.cons (.here) (.cons Cl (.cons (.here) (.cons (.here) (.cons (.here) .nil))))))
theorem Al3 (n : Nat) (hn : 1048576 < n) (first : Int) (B : ByteArray) (hf : 0 ≤ first ∧ first < 256) (hB : B.size ≤ 1048576) : Cb E0 (n + 7) 59 63 [.sc (.int .i64 first), Ae B] = some (.agg (Ag (C9 first B))) := by
 rw [At, AmY, f63]
 refine B8 (G := (· = some (.agg (Ag (C9 first B))))) ?_
 try simp only [Fa, E9]
 have s0 : Sep [] [] := B4
 refine Gv s0 fun i1 H s2 => Pw (by omega) (by omega) (by decide) (Aw (cs := [si (first / 16), bF, i0, bF, i0, sE, .nl, sE, i0, bF, i0, bF, sE, .nl, i0, bF, bF, sE, bF, .nl, i0, bF, .nl, .nl, .nl]) rfl (Gv s2 fun i3 H s4 => Cd (cs' := [si (first / 16), bF, i0, bF, i0, sE, .nl, sE, i0, bF, i0, bF, sE, .nl, i0, bF, bF, sE, bF, .nl, i0, bF, .nl, .nl, .nl]) s4 (.here) (Aj rfl) rfl (Cr rfl) rfl fun H s5 => Q9 (Bd (c := si (first / 16)) s5 (.here) rfl (Ce (Ac ((decide ((first / 16) = 1))) (fun h6 => ?_) fun h6 => ?_)))))
 have dh6 := of_decide_eq_true h6
 refine Au h6 (Lf s5 rfl (.cons .ro .nil) (AcT n (by omega) B hB) ⟨_, rfl, rfl⟩ (Ie _) ?_)
 rintro _ _ H ⟨x7, x8, x9, x10, x11, x12, lx7, lx8, lx9, lx10, lx11, lx12, rfl, rfl⟩ s13
 simp only [zai, zaq] at s13
 refine Cd (cs' := [si ((Ar B).fType), .sc (.bool (Ar B).fDup), si ((Ar B).fQos), .sc (.bool (Ar B).fRetain), si ((Ar B).fId), ss ((Ar B).fTopic), x7, ss ((Ar B).fClient), si ((Ar B).fLevel), .sc (.bool (Ar B).fClean), si ((Ar B).fKeep), .sc (.bool (Ar B).fHasWill), ss ((Ar B).fWTopic), x8, si ((Ar B).fWQos), .sc (.bool (Ar B).fWRetain), .sc (.bool (Ar B).fHasUser), ss ((Ar B).fUser), .sc (.bool (Ar B).fHasPass), x9, si ((Ar B).fCode), .sc (.bool (Ar B).fPresent), x10, x11, x12]) s13 zP7 (Aj (Aa rfl (Aa rfl (Aa rfl (Aa rfl (Aa rfl (Aa rfl (Aa lx7 (Aa rfl (Aa rfl (Aa rfl (Aa rfl (Aa rfl (Aa rfl (Aa lx8 (Aa rfl (Aa rfl (Aa rfl (Aa rfl (Aa rfl (Aa lx9 (Aa rfl (Aa rfl (Aa lx10 (Aa lx11 (Aa lx12 rfl)))))))))))))))))))))))))) rfl (Cr rfl) rfl fun H s14 => Av s14 (.here) rfl (Al (Bp s14 ⟨_, rfl, rfl⟩ (Dr (.own Yw (Dr (.own U5 (Hi (.own Mm (.sc (.sc (.own Ls (.own Fy (.own Cl .nil))))))))))) (Ds ⟨(Bh (Ca ((Ar B).fBody)) (by decide)), (Ds ⟨(Bh (Ca ((Ar B).fWBody)) (by decide)), (Hk ⟨(Bh (Ca ((Ar B).fPass)) (by decide)), (E8 ⟨(Bh (Lj ((Ar B).fWants)) (by decide)), ⟨(Bh (Xh ((Ar B).fNames)) (by decide)), ⟨(Bh (Aay ((Ar B).fCodes)) (by decide)), trivial⟩⟩⟩)⟩)⟩)⟩)) ?_)
 have e : C9 first B = (⟨(Ar B).fType, (Ar B).fDup, (Ar B).fQos, (Ar B).fRetain, (Ar B).fId, (Ar B).fTopic, (Ar B).fBody, (Ar B).fClient, (Ar B).fLevel, (Ar B).fClean, (Ar B).fKeep, (Ar B).fHasWill, (Ar B).fWTopic, (Ar B).fWBody, (Ar B).fWQos, (Ar B).fWRetain, (Ar B).fHasUser, (Ar B).fUser, (Ar B).fHasPass, (Ar B).fPass, (Ar B).fCode, (Ar B).fPresent, ((Ar B).fWants), (Ar B).fNames, (Ar B).fCodes⟩ : PacketV) := by
  simp only [Ea] at h6
  unfold C9 H3 Fm Lp; ((simp only [h6, if_true, if_false, or_true, or_false, false_or, true_or, zaa, reduceIte, and_true, and_false, true_and, false_and, F3]; done))
 rw [e]
 rfl
 have dh6 := of_decide_eq_false h6
 refine A6 h6 (Q9 (Bd (c := si (first / 16)) s5 (.here) rfl (Ce (Ac ((decide ((first / 16) = 2))) (fun h15 => ?_) fun h15 => ?_))))
 have dh15 := of_decide_eq_true h15
 refine Ao h15 (Ao h15 (Dd (Ao h15 (Ce (D7 h15 (Ac ((decide (((B.size : Nat) : Int) = 2))) (fun h16 => ?_) fun h16 => ?_))))))
 have dh16 := of_decide_eq_true h16
 refine Au h16 ?_
 have w17 := Dw B 0
 refine Gp (by omega) (by omega) fun _ => Fq (c := su (Ax B 0)) rfl (Q8 (v := sb ((Ax B 0) == 1)) (fun k => rfl) (Ak7 (Cg s5 (.here) rfl rfl fun H s18 => ?_)))
 have w19 := Dw B 1
 refine Gp (by omega) (by omega) fun _ => Fq (c := su (Ax B 1)) rfl (K4 (by omega) (by omega) (Ak6 (Cg s18 (.here) rfl rfl fun H s20 => Av s20 (.here) rfl (Cd (cs' := [si (first / 16), bF, i0, bF, i0, sE, .nl, sE, i0, bF, i0, bF, sE, .nl, i0, bF, bF, sE, bF, .nl, si (Ax B 1), sb ((Ax B 0) == 1), .nl, .nl, .nl]) s20 Cl (Aj rfl) rfl (Cr rfl) rfl fun H s21 => Av s21 (.here) rfl (Al (Bp s21 ⟨_, rfl, rfl⟩ (Dr (.nl (Dr (.nl (Hi (.nl (.sc (.sc (.nl (.nl (.nl .nil))))))))))) (Ds ⟨A3, (Ds ⟨A3, (Hk ⟨A3, (E8 ⟨A3, ⟨A3, ⟨A3, trivial⟩⟩⟩)⟩)⟩)⟩)) ?_)))))
 have e : C9 first B = (⟨(first / 16), false, 0, false, 0, ⟨#[]⟩, ⟨#[]⟩, ⟨#[]⟩, 0, false, 0, false, ⟨#[]⟩, ⟨#[]⟩, 0, false, false, ⟨#[]⟩, false, ⟨#[]⟩, (Ax B 1), ((Ax B 0) == 1), [], [], []⟩ : PacketV) := by
  simp only [Ea] at h6 h15 h16
  unfold C9 H3 Fm Lp; ((simp only [h6, h15, h16, if_true, if_false, or_true, or_false, false_or, true_or, zaa, reduceIte, and_true, and_false, true_and, false_and, F3]; rfl))
 rw [e]
 rfl
 have dh16 := of_decide_eq_false h16
 refine A6 h16 (Q9 (Bd (c := si (first / 16)) s5 (.here) rfl (Ce (Ac ((decide ((first / 16) = 3))) (fun h22 => ?_) fun h22 => ?_))))
 have dh22 := of_decide_eq_true h22
 refine Au h22 (Gn rfl (D5 (gf1 (Cg s5 (.here) rfl rfl fun H s23 => Ug 2 rfl (by decide) (Gn rfl (Wy (Cg s23 (.here) rfl rfl fun H s24 => Gn rfl (D5 (gf3 (Cg s24 (.here) rfl rfl fun H s25 => ?_))))))))))
 obtain ⟨vq26, yq26, oq26, q26⟩ : ∃ w y o, Bn B 0 = (w, y, o) := ⟨_, _, _, rfl⟩
 have bq26 := Gq q26
 refine Do s25 rfl (.cons .ro (.cons .sc .nil)) (by have h := Ll (n + 1) (by omega) B 0 (by omega) (by omega); rw [q26] at h; exact h) rfl (A1 (A1 (A1 C2))) ?_
 rintro _ _ H ⟨_, rfl, ⟨_, rfl, ⟨_, rfl, ⟨rfl, rfl⟩⟩⟩⟩ s27
 simp only [zai] at s27
 refine A9 (v := ss vq26) rfl (A9 (v := si yq26) rfl (A9 (v := sb oq26) rfl (Cv (Ac (oq26) (fun h28 => ?_) fun h28 => ?_))))
 refine A6 (nF h28) (gf5 (Cg s27 (.here) rfl rfl fun H s29 => Wy (Bd (c := si (bits .and .i64 (first / 2) 3)) s29 (.here) rfl (D5 (D1 (Ac ((decide (0 < (bits .and .i64 (first / 2) 3)))) (fun h30 => ?_) fun h30 => ?_))))))
 have dh30 := of_decide_eq_true h30
 refine Au h30 ?_
 obtain ⟨wq31, yq31, oq31, q31⟩ : ∃ w y o, Bg B yq26 = (w, y, o) := ⟨_, _, _, rfl⟩
 have bq31 := F2 q31
 refine Do s29 rfl (.cons .ro (.cons .sc .nil)) (by have h := Q3 (n + 5) (by omega) B yq26 (by omega) (by omega); rw [q31] at h; exact h) rfl (A1 (A1 (A1 C2))) ?_
 rintro _ _ H ⟨_, rfl, ⟨_, rfl, ⟨_, rfl, ⟨rfl, rfl⟩⟩⟩⟩ s32
 simp only [zai] at s32
 refine A9 (v := si wq31) rfl (A9 (v := si yq31) rfl (A9 (v := sb oq31) rfl (Cv (Ac (oq31) (fun h33 => ?_) fun h33 => ?_))))
 refine A6 (nF h33) (gf4 (Cg s32 (.here) rfl rfl fun H s34 => F7 yq31 ((B.size : Nat) : Int) rfl rfl (by omega) (by omega) (by omega) ?_))
 have z35 := zap (a := B) (b := yq31.toNat) (e := ((B.size : Nat) : Int).toNat)
 refine Js s34 (by omega) fun x36 H lx36 s37 => gf6 (Cg s37 Cl lx36 rfl fun H s38 => Av s38 (.here) rfl (Cd (cs' := [si (first / 16), sb (decide (0 < (bits .and .i64 first 8))), si (bits .and .i64 (first / 2) 3), sb (decide (0 < (bits .and .i64 first 1))), si wq31, ss vq26, x36, sE, i0, bF, i0, bF, sE, .nl, i0, bF, bF, sE, bF, .nl, i0, bF, .nl, .nl, .nl]) s38 Fy (Aj (Aa rfl (Aa rfl (Aa rfl (Aa rfl (Aa rfl (Aa rfl (Aa lx36 rfl)))))))) rfl (Cr rfl) rfl fun H s39 => Av s39 (.here) rfl (Al (Bp s39 ⟨_, rfl, rfl⟩ (Dr (.own Fy (Dr (.nl (Hi (.nl (.sc (.sc (.nl (.nl (.nl .nil))))))))))) (Ds ⟨(Bh (Ca (B.extract yq31.toNat ((B.size : Nat) : Int).toNat)) (by decide)), (Ds ⟨A3, (Hk ⟨A3, (E8 ⟨A3, ⟨A3, ⟨A3, trivial⟩⟩⟩)⟩)⟩)⟩)) ?_)))
 have e : C9 first B = (⟨(first / 16), (decide (0 < (bits .and .i64 first 8))), (bits .and .i64 (first / 2) 3), (decide (0 < (bits .and .i64 first 1))), wq31, vq26, (B.extract yq31.toNat ((B.size : Nat) : Int).toNat), ⟨#[]⟩, 0, false, 0, false, ⟨#[]⟩, ⟨#[]⟩, 0, false, false, ⟨#[]⟩, false, ⟨#[]⟩, 0, false, [], [], []⟩ : PacketV) := by
  clear s0 s2 s4 s5 s23 s24 s25 s27 s29 s32 s34 s37 s38 s39
  simp only [Ea] at h6 h15 h16 h22 h30
  unfold C9 H3 Fm Lp; ((simp only [h6, h15, h16, h22, h30, h28, h33, q26, q31, if_true, if_false, or_true, or_false, false_or, true_or, zaa, reduceIte, and_true, and_false, true_and, false_and, F3]; simp [Cn, h6, h15, h16, h22, h30, h28, h33]; omega))
 rw [e]
 rfl
 refine Au (nT h33) (Aw (cs := Ed) rfl (Cd (cs' := Ed) s32 Cl (Aj rfl) rfl (Cr rfl) rfl fun H s40 => Av s40 (.here) rfl (Al (Bp s40 ⟨_, rfl, rfl⟩ (Dr (.nl (Dr (.nl (Hi (.nl (.sc (.sc (.nl (.nl (.nl .nil))))))))))) (Ds ⟨A3, (Ds ⟨A3, (Hk ⟨A3, (E8 ⟨A3, ⟨A3, ⟨A3, trivial⟩⟩⟩)⟩)⟩)⟩)) ?_)))
 have e : C9 first B = (⟨0, false, 0, false, 0, ⟨#[]⟩, ⟨#[]⟩, ⟨#[]⟩, 0, false, 0, false, ⟨#[]⟩, ⟨#[]⟩, 0, false, false, ⟨#[]⟩, false, ⟨#[]⟩, 0, false, [], [], []⟩ : PacketV) := by
  clear s0 s2 s4 s5 s23 s24 s25 s27 s29 s32 s40
  simp only [Ea] at h6 h15 h16 h22 h30
  unfold C9 H3 Fm Lp; ((simp only [h6, h15, h16, h22, h30, h28, h33, q26, q31, if_true, if_false, or_true, or_false, false_or, true_or, zaa, reduceIte, and_true, and_false, true_and, false_and, F3]; simp [Cn, h6, h15, h16, h22, h30, h28, h33]; omega))
 rw [e]
 rfl
 have dh30 := of_decide_eq_false h30
 refine A6 h30 (F7 yq26 ((B.size : Nat) : Int) rfl rfl (by omega) (by omega) (by omega) ?_)
 have z41 := zap (a := B) (b := yq26.toNat) (e := ((B.size : Nat) : Int).toNat)
 refine Js s29 (by omega) fun x42 H lx42 s43 => gf6 (Cg s43 Cl lx42 rfl fun H s44 => Av s44 (.here) rfl (Cd (cs' := [si (first / 16), sb (decide (0 < (bits .and .i64 first 8))), si (bits .and .i64 (first / 2) 3), sb (decide (0 < (bits .and .i64 first 1))), i0, ss vq26, x42, sE, i0, bF, i0, bF, sE, .nl, i0, bF, bF, sE, bF, .nl, i0, bF, .nl, .nl, .nl]) s44 Fy (Aj (Aa rfl (Aa rfl (Aa rfl (Aa rfl (Aa rfl (Aa rfl (Aa lx42 rfl)))))))) rfl (Cr rfl) rfl fun H s45 => Av s45 (.here) rfl (Al (Bp s45 ⟨_, rfl, rfl⟩ (Dr (.own Fy (Dr (.nl (Hi (.nl (.sc (.sc (.nl (.nl (.nl .nil))))))))))) (Ds ⟨(Bh (Ca (B.extract yq26.toNat ((B.size : Nat) : Int).toNat)) (by decide)), (Ds ⟨A3, (Hk ⟨A3, (E8 ⟨A3, ⟨A3, ⟨A3, trivial⟩⟩⟩)⟩)⟩)⟩)) ?_)))
 have e : C9 first B = (⟨(first / 16), (decide (0 < (bits .and .i64 first 8))), (bits .and .i64 (first / 2) 3), (decide (0 < (bits .and .i64 first 1))), 0, vq26, (B.extract yq26.toNat ((B.size : Nat) : Int).toNat), ⟨#[]⟩, 0, false, 0, false, ⟨#[]⟩, ⟨#[]⟩, 0, false, false, ⟨#[]⟩, false, ⟨#[]⟩, 0, false, [], [], []⟩ : PacketV) := by
  clear s0 s2 s4 s5 s23 s24 s25 s27 s29 s43 s44 s45
  simp only [Ea] at h6 h15 h16 h22 h30
  unfold C9 H3 Fm Lp; ((simp only [h6, h15, h16, h22, h30, h28, q26, if_true, if_false, or_true, or_false, false_or, true_or, zaa, reduceIte, and_true, and_false, true_and, false_and, F3]; simp [Cn, h6, h15, h16, h22, h30, h28]; omega))
 rw [e]
 rfl
 refine Au (nT h28) (Aw (cs := Ed) rfl (Cd (cs' := Ed) s27 Cl (Aj rfl) rfl (Cr rfl) rfl fun H s46 => Av s46 (.here) rfl (Al (Bp s46 ⟨_, rfl, rfl⟩ (Dr (.nl (Dr (.nl (Hi (.nl (.sc (.sc (.nl (.nl (.nl .nil))))))))))) (Ds ⟨A3, (Ds ⟨A3, (Hk ⟨A3, (E8 ⟨A3, ⟨A3, ⟨A3, trivial⟩⟩⟩)⟩)⟩)⟩)) ?_)))
 have e : C9 first B = (⟨0, false, 0, false, 0, ⟨#[]⟩, ⟨#[]⟩, ⟨#[]⟩, 0, false, 0, false, ⟨#[]⟩, ⟨#[]⟩, 0, false, false, ⟨#[]⟩, false, ⟨#[]⟩, 0, false, [], [], []⟩ : PacketV) := by
  clear s0 s2 s4 s5 s23 s24 s25 s27 s46
  simp only [Ea] at h6 h15 h16 h22
  unfold C9 H3 Fm Lp; ((simp only [h6, h15, h16, h22, h28, q26, if_true, if_false, or_true, or_false, false_or, true_or, zaa, reduceIte, and_true, and_false, true_and, false_and, F3]; simp [Cn, h6, h15, h16, h22, h28]; omega))
 rw [e]
 rfl
 have dh22 := of_decide_eq_false h22
 refine A6 h22 (Q9 (Bd (c := si (first / 16)) s5 (.here) rfl (Dq (D1 (Ac ((decide ((first / 16) < 12))) (fun h47 => ?_) fun h47 => ?_)))))
 have dh47 := of_decide_eq_true h47
 refine Au h47 ?_
 obtain ⟨wq48, yq48, oq48, q48⟩ : ∃ w y o, Bg B 0 = (w, y, o) := ⟨_, _, _, rfl⟩
 have bq48 := F2 q48
 refine Do s5 rfl (.cons .ro (.cons .sc .nil)) (by have h := Q3 (n + 5) (by omega) B 0 (by omega) (by omega); rw [q48] at h; exact h) rfl (A1 (A1 (A1 C2))) ?_
 rintro _ _ H ⟨_, rfl, ⟨_, rfl, ⟨_, rfl, ⟨rfl, rfl⟩⟩⟩⟩ s49
 simp only [zai] at s49
 refine A9 (v := si wq48) rfl (A9 (v := si yq48) rfl (A9 (v := sb oq48) rfl (Cv (Ac (oq48) (fun h50 => ?_) fun h50 => ?_))))
 refine A6 (nF h50) (gf4 (Cg s49 (.here) rfl rfl fun H s51 => Q9 (Bd (c := si (first / 16)) s51 (.here) rfl (Ce (D1 (Ac ((decide ((first / 16) = 9))) (fun h52 => ?_) fun h52 => ?_))))))
 have dh52 := of_decide_eq_true h52
 refine Au h52 ?_
 have e : C9 first B = Ml (first / 16) wq48 (Gc B (B.size + 1) yq48 []) (Cs (first / 16) B (B.size + 1) yq48 [] []) := by
  clear s0 s2 s4 s5 s49 s51
  simp only [Ea] at h6 h15 h16 h22 h47 h52
  unfold C9 H3 Fm Lp; ((simp only [h6, h15, h16, h22, h47, h52, h50, q48, if_true, if_false, or_true, or_false, false_or, true_or, zaa, reduceIte, and_true, and_false, true_and, false_and, F3]; simp [Cn, h6, h15, h16, h22, h47, h52, h50]; omega))
 rw [e]
 have s53 := s51.nl (ty := 57) ⟨_, _, rfl, rfl⟩
 exact Vu n hn (first / 16) wq48 B i1 i3 hB yq48 (by omega) (B.size + 1) _ yq48 [] .nl _ (by omega) (by omega) (by omega) (by omega) rfl (s53.sel (.cons (.here) (.cons Cl (.cons (.here) .nil))))
 have dh52 := of_decide_eq_false h52
 refine A6 h52 ?_
 have e : C9 first B = Ml (first / 16) wq48 [] (Cs (first / 16) B (B.size + 1) yq48 [] []) := by
  simp only [Ea] at h6 h15 h16 h22 h47 h52
  unfold C9 H3 Fm Lp; ((simp only [h6, h15, h16, h22, h47, h52, h50, q48, if_true, if_false, or_true, or_false, false_or, true_or, zaa, reduceIte, and_true, and_false, true_and, false_and, F3]; rfl))
 rw [e]
 have s54 := s51.nl (ty := 57) ⟨_, _, rfl, rfl⟩
 have s55 := s54.nl (ty := 56) ⟨_, _, rfl, rfl⟩
 have s56 := s55.nl (ty := 55) ⟨_, _, rfl, rfl⟩
 exact Pi n hn (first / 16) wq48 B i1 i3 hB [] (B.size + 1) _ yq48 [] [] .nl .nl .nl _ (by omega) (by omega) (by omega) (by (simp only [zax]; omega)) rfl rfl rfl (s56.sel (.cons (.here) (.cons Cl (.cons (.here) (.cons Cl (.cons (.here) .nil))))))
 refine Au (nT h50) (Aw (cs := Ed) rfl (Cd (cs' := Ed) s49 Cl (Aj rfl) rfl (Cr rfl) rfl fun H s57 => Av s57 (.here) rfl (Al (Bp s57 ⟨_, rfl, rfl⟩ (Dr (.nl (Dr (.nl (Hi (.nl (.sc (.sc (.nl (.nl (.nl .nil))))))))))) (Ds ⟨A3, (Ds ⟨A3, (Hk ⟨A3, (E8 ⟨A3, ⟨A3, ⟨A3, trivial⟩⟩⟩)⟩)⟩)⟩)) ?_)))
 have e : C9 first B = (⟨0, false, 0, false, 0, ⟨#[]⟩, ⟨#[]⟩, ⟨#[]⟩, 0, false, 0, false, ⟨#[]⟩, ⟨#[]⟩, 0, false, false, ⟨#[]⟩, false, ⟨#[]⟩, 0, false, [], [], []⟩ : PacketV) := by
  simp only [Ea] at h6 h15 h16 h22 h47
  unfold C9 H3 Fm Lp; ((simp only [h6, h15, h16, h22, h47, h50, q48, if_true, if_false, or_true, or_false, false_or, true_or, zaa, reduceIte, and_true, and_false, true_and, false_and, F3]; rfl))
 rw [e]
 rfl
 have dh47 := of_decide_eq_false h47
 refine A6 h47 (Q9 (Bd (c := si (first / 16)) s5 (.here) rfl (Ce (D1 (Ac ((decide ((first / 16) = 9))) (fun h58 => ?_) fun h58 => ?_)))))
 have dh58 := of_decide_eq_true h58
 refine Au h58 ?_
 have e : C9 first B = Ml (first / 16) 0 (Gc B (B.size + 1) 0 []) (Cs (first / 16) B (B.size + 1) 0 [] []) := by
  clear s0 s2 s4 s5
  simp only [Ea] at h6 h15 h16 h22 h47 h58
  unfold C9 H3 Fm Lp; ((simp only [h6, h15, h16, h22, h47, h58, if_true, if_false, or_true, or_false, false_or, true_or, zaa, reduceIte, and_true, and_false, true_and, false_and, F3]; simp [Cn, h6, h15, h16, h22, h47, h58]; omega))
 rw [e]
 have s59 := s5.nl (ty := 57) ⟨_, _, rfl, rfl⟩
 exact Vu n hn (first / 16) 0 B i1 i3 hB 0 (by omega) (B.size + 1) _ 0 [] .nl _ (by omega) (by omega) (by omega) (by omega) rfl (s59.sel (.cons (.here) (.cons Cl (.cons (.here) .nil))))
 have dh58 := of_decide_eq_false h58
 refine A6 h58 ?_
 have e : C9 first B = Ml (first / 16) 0 [] (Cs (first / 16) B (B.size + 1) 0 [] []) := by
  clear s0 s2 s4 s5
  simp only [Ea] at h6 h15 h16 h22 h47 h58
  unfold C9 H3 Fm Lp; ((simp only [h6, h15, h16, h22, h47, h58, if_true, if_false, or_true, or_false, false_or, true_or, zaa, reduceIte, and_true, and_false, true_and, false_and, F3]; simp [Cn, h6, h15, h16, h22, h47, h58]; omega))
 rw [e]
 have s60 := s5.nl (ty := 57) ⟨_, _, rfl, rfl⟩
 have s61 := s60.nl (ty := 56) ⟨_, _, rfl, rfl⟩
 have s62 := s61.nl (ty := 55) ⟨_, _, rfl, rfl⟩
 exact Pi n hn (first / 16) 0 B i1 i3 hB [] (B.size + 1) _ 0 [] [] .nl .nl .nl _ (by omega) (by omega) (by omega) (by omega) rfl rfl rfl (s62.sel (.cons (.here) (.cons Cl (.cons (.here) (.cons Cl (.cons (.here) .nil))))))
 have dh15 := of_decide_eq_false h15
 refine Am h15 (Am h15 (Am h15 (D3 h15 (A6 rfl (Q9 (Bd (c := si (first / 16)) s5 (.here) rfl (Ce (Ac ((decide ((first / 16) = 3))) (fun h63 => ?_) fun h63 => ?_))))))))
 have dh63 := of_decide_eq_true h63
 refine Au h63 (Gn rfl (D5 (gf1 (Cg s5 (.here) rfl rfl fun H s64 => Ug 2 rfl (by decide) (Gn rfl (Wy (Cg s64 (.here) rfl rfl fun H s65 => Gn rfl (D5 (gf3 (Cg s65 (.here) rfl rfl fun H s66 => ?_))))))))))
 obtain ⟨vq67, yq67, oq67, q67⟩ : ∃ w y o, Bn B 0 = (w, y, o) := ⟨_, _, _, rfl⟩
 have bq67 := Gq q67
 refine Do s66 rfl (.cons .ro (.cons .sc .nil)) (by have h := Ll (n + 1) (by omega) B 0 (by omega) (by omega); rw [q67] at h; exact h) rfl (A1 (A1 (A1 C2))) ?_
 rintro _ _ H ⟨_, rfl, ⟨_, rfl, ⟨_, rfl, ⟨rfl, rfl⟩⟩⟩⟩ s68
 simp only [zai] at s68
 refine A9 (v := ss vq67) rfl (A9 (v := si yq67) rfl (A9 (v := sb oq67) rfl (Cv (Ac (oq67) (fun h69 => ?_) fun h69 => ?_))))
 refine A6 (nF h69) (gf5 (Cg s68 (.here) rfl rfl fun H s70 => Wy (Bd (c := si (bits .and .i64 (first / 2) 3)) s70 (.here) rfl (D5 (D1 (Ac ((decide (0 < (bits .and .i64 (first / 2) 3)))) (fun h71 => ?_) fun h71 => ?_))))))
 have dh71 := of_decide_eq_true h71
 refine Au h71 ?_
 obtain ⟨wq72, yq72, oq72, q72⟩ : ∃ w y o, Bg B yq67 = (w, y, o) := ⟨_, _, _, rfl⟩
 have bq72 := F2 q72
 refine Do s70 rfl (.cons .ro (.cons .sc .nil)) (by have h := Q3 (n + 5) (by omega) B yq67 (by omega) (by omega); rw [q72] at h; exact h) rfl (A1 (A1 (A1 C2))) ?_
 rintro _ _ H ⟨_, rfl, ⟨_, rfl, ⟨_, rfl, ⟨rfl, rfl⟩⟩⟩⟩ s73
 simp only [zai] at s73
 refine A9 (v := si wq72) rfl (A9 (v := si yq72) rfl (A9 (v := sb oq72) rfl (Cv (Ac (oq72) (fun h74 => ?_) fun h74 => ?_))))
 refine A6 (nF h74) (gf4 (Cg s73 (.here) rfl rfl fun H s75 => F7 yq72 ((B.size : Nat) : Int) rfl rfl (by omega) (by omega) (by omega) ?_))
 have z76 := zap (a := B) (b := yq72.toNat) (e := ((B.size : Nat) : Int).toNat)
 refine Js s75 (by omega) fun x77 H lx77 s78 => gf6 (Cg s78 Cl lx77 rfl fun H s79 => Av s79 (.here) rfl (Cd (cs' := [si (first / 16), sb (decide (0 < (bits .and .i64 first 8))), si (bits .and .i64 (first / 2) 3), sb (decide (0 < (bits .and .i64 first 1))), si wq72, ss vq67, x77, sE, i0, bF, i0, bF, sE, .nl, i0, bF, bF, sE, bF, .nl, i0, bF, .nl, .nl, .nl]) s79 Fy (Aj (Aa rfl (Aa rfl (Aa rfl (Aa rfl (Aa rfl (Aa rfl (Aa lx77 rfl)))))))) rfl (Cr rfl) rfl fun H s80 => Av s80 (.here) rfl (Al (Bp s80 ⟨_, rfl, rfl⟩ (Dr (.own Fy (Dr (.nl (Hi (.nl (.sc (.sc (.nl (.nl (.nl .nil))))))))))) (Ds ⟨(Bh (Ca (B.extract yq72.toNat ((B.size : Nat) : Int).toNat)) (by decide)), (Ds ⟨A3, (Hk ⟨A3, (E8 ⟨A3, ⟨A3, ⟨A3, trivial⟩⟩⟩)⟩)⟩)⟩)) ?_)))
 have e : C9 first B = (⟨(first / 16), (decide (0 < (bits .and .i64 first 8))), (bits .and .i64 (first / 2) 3), (decide (0 < (bits .and .i64 first 1))), wq72, vq67, (B.extract yq72.toNat ((B.size : Nat) : Int).toNat), ⟨#[]⟩, 0, false, 0, false, ⟨#[]⟩, ⟨#[]⟩, 0, false, false, ⟨#[]⟩, false, ⟨#[]⟩, 0, false, [], [], []⟩ : PacketV) := by
  simp only [Ea] at h6 h15 h63 h71
  unfold C9 H3 Fm Lp; ((simp only [h6, h15, h63, h71, h69, h74, q67, q72, if_true, if_false, or_true, or_false, false_or, true_or, zaa, reduceIte, and_true, and_false, true_and, false_and, F3]; rfl))
 rw [e]
 rfl
 refine Au (nT h74) (Aw (cs := Ed) rfl (Cd (cs' := Ed) s73 Cl (Aj rfl) rfl (Cr rfl) rfl fun H s81 => Av s81 (.here) rfl (Al (Bp s81 ⟨_, rfl, rfl⟩ (Dr (.nl (Dr (.nl (Hi (.nl (.sc (.sc (.nl (.nl (.nl .nil))))))))))) (Ds ⟨A3, (Ds ⟨A3, (Hk ⟨A3, (E8 ⟨A3, ⟨A3, ⟨A3, trivial⟩⟩⟩)⟩)⟩)⟩)) ?_)))
 have e : C9 first B = (⟨0, false, 0, false, 0, ⟨#[]⟩, ⟨#[]⟩, ⟨#[]⟩, 0, false, 0, false, ⟨#[]⟩, ⟨#[]⟩, 0, false, false, ⟨#[]⟩, false, ⟨#[]⟩, 0, false, [], [], []⟩ : PacketV) := by
  simp only [Ea] at h6 h15 h63 h71
  unfold C9 H3 Fm Lp; ((simp only [h6, h15, h63, h71, h69, h74, q67, q72, if_true, if_false, or_true, or_false, false_or, true_or, zaa, reduceIte, and_true, and_false, true_and, false_and, F3]; rfl))
 rw [e]
 rfl
 have dh71 := of_decide_eq_false h71
 refine A6 h71 (F7 yq67 ((B.size : Nat) : Int) rfl rfl (by omega) (by omega) (by omega) ?_)
 have z82 := zap (a := B) (b := yq67.toNat) (e := ((B.size : Nat) : Int).toNat)
 refine Js s70 (by omega) fun x83 H lx83 s84 => gf6 (Cg s84 Cl lx83 rfl fun H s85 => Av s85 (.here) rfl (Cd (cs' := [si (first / 16), sb (decide (0 < (bits .and .i64 first 8))), si (bits .and .i64 (first / 2) 3), sb (decide (0 < (bits .and .i64 first 1))), i0, ss vq67, x83, sE, i0, bF, i0, bF, sE, .nl, i0, bF, bF, sE, bF, .nl, i0, bF, .nl, .nl, .nl]) s85 Fy (Aj (Aa rfl (Aa rfl (Aa rfl (Aa rfl (Aa rfl (Aa rfl (Aa lx83 rfl)))))))) rfl (Cr rfl) rfl fun H s86 => Av s86 (.here) rfl (Al (Bp s86 ⟨_, rfl, rfl⟩ (Dr (.own Fy (Dr (.nl (Hi (.nl (.sc (.sc (.nl (.nl (.nl .nil))))))))))) (Ds ⟨(Bh (Ca (B.extract yq67.toNat ((B.size : Nat) : Int).toNat)) (by decide)), (Ds ⟨A3, (Hk ⟨A3, (E8 ⟨A3, ⟨A3, ⟨A3, trivial⟩⟩⟩)⟩)⟩)⟩)) ?_)))
 have e : C9 first B = (⟨(first / 16), (decide (0 < (bits .and .i64 first 8))), (bits .and .i64 (first / 2) 3), (decide (0 < (bits .and .i64 first 1))), 0, vq67, (B.extract yq67.toNat ((B.size : Nat) : Int).toNat), ⟨#[]⟩, 0, false, 0, false, ⟨#[]⟩, ⟨#[]⟩, 0, false, false, ⟨#[]⟩, false, ⟨#[]⟩, 0, false, [], [], []⟩ : PacketV) := by
  simp only [Ea] at h6 h15 h63 h71
  unfold C9 H3 Fm Lp; ((simp only [h6, h15, h63, h71, h69, q67, if_true, if_false, or_true, or_false, false_or, true_or, zaa, reduceIte, and_true, and_false, true_and, false_and, F3]; rfl))
 rw [e]
 rfl
 refine Au (nT h69) (Aw (cs := Ed) rfl (Cd (cs' := Ed) s68 Cl (Aj rfl) rfl (Cr rfl) rfl fun H s87 => Av s87 (.here) rfl (Al (Bp s87 ⟨_, rfl, rfl⟩ (Dr (.nl (Dr (.nl (Hi (.nl (.sc (.sc (.nl (.nl (.nl .nil))))))))))) (Ds ⟨A3, (Ds ⟨A3, (Hk ⟨A3, (E8 ⟨A3, ⟨A3, ⟨A3, trivial⟩⟩⟩)⟩)⟩)⟩)) ?_)))
 have e : C9 first B = (⟨0, false, 0, false, 0, ⟨#[]⟩, ⟨#[]⟩, ⟨#[]⟩, 0, false, 0, false, ⟨#[]⟩, ⟨#[]⟩, 0, false, false, ⟨#[]⟩, false, ⟨#[]⟩, 0, false, [], [], []⟩ : PacketV) := by
  simp only [Ea] at h6 h15 h63
  unfold C9 H3 Fm Lp; ((simp only [h6, h15, h63, h69, q67, if_true, if_false, or_true, or_false, false_or, true_or, zaa, reduceIte, and_true, and_false, true_and, false_and, F3]; rfl))
 rw [e]
 rfl
 have dh63 := of_decide_eq_false h63
 refine A6 h63 (Q9 (Bd (c := si (first / 16)) s5 (.here) rfl (Dq (D1 (Ac ((decide ((first / 16) < 12))) (fun h88 => ?_) fun h88 => ?_)))))
 have dh88 := of_decide_eq_true h88
 refine Au h88 ?_
 obtain ⟨wq89, yq89, oq89, q89⟩ : ∃ w y o, Bg B 0 = (w, y, o) := ⟨_, _, _, rfl⟩
 have bq89 := F2 q89
 refine Do s5 rfl (.cons .ro (.cons .sc .nil)) (by have h := Q3 (n + 5) (by omega) B 0 (by omega) (by omega); rw [q89] at h; exact h) rfl (A1 (A1 (A1 C2))) ?_
 rintro _ _ H ⟨_, rfl, ⟨_, rfl, ⟨_, rfl, ⟨rfl, rfl⟩⟩⟩⟩ s90
 simp only [zai] at s90
 refine A9 (v := si wq89) rfl (A9 (v := si yq89) rfl (A9 (v := sb oq89) rfl (Cv (Ac (oq89) (fun h91 => ?_) fun h91 => ?_))))
 refine A6 (nF h91) (gf4 (Cg s90 (.here) rfl rfl fun H s92 => Q9 (Bd (c := si (first / 16)) s92 (.here) rfl (Ce (D1 (Ac ((decide ((first / 16) = 9))) (fun h93 => ?_) fun h93 => ?_))))))
 have dh93 := of_decide_eq_true h93
 refine Au h93 ?_
 have e : C9 first B = Ml (first / 16) wq89 (Gc B (B.size + 1) yq89 []) (Cs (first / 16) B (B.size + 1) yq89 [] []) := by
  simp only [Ea] at h6 h15 h63 h88 h93
  unfold C9 H3 Fm Lp; ((simp only [h6, h15, h63, h88, h93, h91, q89, if_true, if_false, or_true, or_false, false_or, true_or, zaa, reduceIte, and_true, and_false, true_and, false_and, F3]; rfl))
 rw [e]
 have s94 := s92.nl (ty := 57) ⟨_, _, rfl, rfl⟩
 exact Vu n hn (first / 16) wq89 B i1 i3 hB yq89 (by omega) (B.size + 1) _ yq89 [] .nl _ (by omega) (by omega) (by omega) (by (simp only [zax]; omega)) rfl (s94.sel (.cons (.here) (.cons Cl (.cons (.here) .nil))))
 have dh93 := of_decide_eq_false h93
 refine A6 h93 ?_
 have e : C9 first B = Ml (first / 16) wq89 [] (Cs (first / 16) B (B.size + 1) yq89 [] []) := by
  simp only [Ea] at h6 h15 h63 h88 h93
  unfold C9 H3 Fm Lp; ((simp only [h6, h15, h63, h88, h93, h91, q89, if_true, if_false, or_true, or_false, false_or, true_or, zaa, reduceIte, and_true, and_false, true_and, false_and, F3]; done))
 rw [e]
 have s95 := s92.nl (ty := 57) ⟨_, _, rfl, rfl⟩
 have s96 := s95.nl (ty := 56) ⟨_, _, rfl, rfl⟩
 have s97 := s96.nl (ty := 55) ⟨_, _, rfl, rfl⟩
 exact Pi n hn (first / 16) wq89 B i1 i3 hB [] (B.size + 1) _ yq89 [] [] .nl .nl .nl _ (by omega) (by omega) (by omega) (by (simp only [zax]; omega)) rfl rfl rfl (s97.sel (.cons (.here) (.cons Cl (.cons (.here) (.cons Cl (.cons (.here) .nil))))))
 refine Au (nT h91) (Aw (cs := Ed) rfl (Cd (cs' := Ed) s90 Cl (Aj rfl) rfl (Cr rfl) rfl fun H s98 => Av s98 (.here) rfl (Al (Bp s98 ⟨_, rfl, rfl⟩ (Dr (.nl (Dr (.nl (Hi (.nl (.sc (.sc (.nl (.nl (.nl .nil))))))))))) (Ds ⟨A3, (Ds ⟨A3, (Hk ⟨A3, (E8 ⟨A3, ⟨A3, ⟨A3, trivial⟩⟩⟩)⟩)⟩)⟩)) ?_)))
 have e : C9 first B = (⟨0, false, 0, false, 0, ⟨#[]⟩, ⟨#[]⟩, ⟨#[]⟩, 0, false, 0, false, ⟨#[]⟩, ⟨#[]⟩, 0, false, false, ⟨#[]⟩, false, ⟨#[]⟩, 0, false, [], [], []⟩ : PacketV) := by
  simp only [Ea] at h6 h15 h63 h88
  unfold C9 H3 Fm Lp; ((simp only [h6, h15, h63, h88, h91, q89, if_true, if_false, or_true, or_false, false_or, true_or, zaa, reduceIte, and_true, and_false, true_and, false_and, F3]; rfl))
 rw [e]
 rfl
 have dh88 := of_decide_eq_false h88
 refine A6 h88 (Q9 (Bd (c := si (first / 16)) s5 (.here) rfl (Ce (D1 (Ac ((decide ((first / 16) = 9))) (fun h99 => ?_) fun h99 => ?_)))))
 have dh99 := of_decide_eq_true h99
 refine Au h99 ?_
 have e : C9 first B = Ml (first / 16) 0 (Gc B (B.size + 1) 0 []) (Cs (first / 16) B (B.size + 1) 0 [] []) := by
  clear s0 s2 s4 s5
  simp only [Ea] at h6 h15 h63 h88 h99
  unfold C9 H3 Fm Lp; ((simp only [h6, h15, h63, h88, h99, if_true, if_false, or_true, or_false, false_or, true_or, zaa, reduceIte, and_true, and_false, true_and, false_and, F3]; simp [Cn, h6, h15, h63, h88, h99]; omega))
 rw [e]
 have s100 := s5.nl (ty := 57) ⟨_, _, rfl, rfl⟩
 exact Vu n hn (first / 16) 0 B i1 i3 hB 0 (by omega) (B.size + 1) _ 0 [] .nl _ (by omega) (by omega) (by omega) (by omega) rfl (s100.sel (.cons (.here) (.cons Cl (.cons (.here) .nil))))
 have dh99 := of_decide_eq_false h99
 refine A6 h99 ?_
 have e : C9 first B = Ml (first / 16) 0 [] (Cs (first / 16) B (B.size + 1) 0 [] []) := by
  simp only [Ea] at h6 h15 h63 h88 h99
  unfold C9 H3 Fm Lp; ((simp only [h6, h15, h63, h88, h99, if_true, if_false, or_true, or_false, false_or, true_or, zaa, reduceIte, and_true, and_false, true_and, false_and, F3]; done))
 rw [e]
 have s101 := s5.nl (ty := 57) ⟨_, _, rfl, rfl⟩
 have s102 := s101.nl (ty := 56) ⟨_, _, rfl, rfl⟩
 have s103 := s102.nl (ty := 55) ⟨_, _, rfl, rfl⟩
 exact Pi n hn (first / 16) 0 B i1 i3 hB [] (B.size + 1) _ 0 [] [] .nl .nl .nl _ (by omega) (by omega) (by omega) (by (simp only [zax]; omega)) rfl rfl rfl (s103.sel (.cons (.here) (.cons Cl (.cons (.here) (.cons Cl (.cons (.here) .nil))))))
end
section
open Go
def D8 (p : PacketV) (B : ByteArray) (e : Int) : PacketV × Int × Int :=
 if !A7 p || !((Fx p).toList == (B.extract (0 : Int).toNat e.toNat).toList) then (Cn 0, 0, 2) else (p, e, 0)
def D9 (rd : Int → ByteArray → PacketV) (B : ByteArray) (r : Int × Int × Int) : PacketV × Int × Int :=
 if !decide (r.2.2 = 0) then (Cn 0, 0, r.2.2)
 else if decide (340 < r.1) then (Cn 0, 0, 2)
 else if decide (((B.size : Nat) : Int) - r.2.1 < r.1) then (Cn 0, 0, 1)
 else D8 (rd (Ax B 0) (B.extract r.2.1.toNat (r.2.1 + r.1).toNat)) B (r.2.1 + r.1)
def Er (rd : Int → ByteArray → PacketV) (B : ByteArray) : PacketV × Int × Int :=
 if decide (((B.size : Nat) : Int) = 0) then (Cn 0, 0, 1)
 else if !Du (Ax B 0) then (Cn 0, 0, 2)
 else D9 rd B (B6 B 1)
theorem Aij (n : Nat) (hn : 1048576 < n) (B : ByteArray) (hB : B.size ≤ 2097152) : Cb E0 (n + 13) 60 33 [Ae B] = some (.tup [.agg (Ag (Er Dc B).1), .sc (.int .i64 (Er Dc B).2.1), .sc (.int .i64 (Er Dc B).2.2)]) := by
 rw [At, AmF, f33]
 refine B8 (G := (· = some (.tup [.agg (Ag (Er Dc B).1), .sc (.int .i64 (Er Dc B).2.1), .sc (.int .i64 (Er Dc B).2.2)]))) ?_
 try simp only [Fa, E9]
 have s0 : Sep [] [] := B4
 refine Gv s0 fun i1 H s2 => Dd (Ce (Ac ((decide (((B.size : Nat) : Int) = 0))) (fun h3 => ?_) fun h3 => ?_))
 have dh3 := of_decide_eq_true h3
 refine Au h3 (Aw (cs := Ed) rfl (Cd (cs' := Ed) s2 (.here) (Aj rfl) rfl (Cr rfl) rfl fun H s4 => Av s4 (.here) rfl (Al (Bj s4 rfl (.agg ⟨_, rfl, rfl⟩ (Dr (.nl (Dr (.nl (Hi (.nl (.sc (.sc (.nl (.nl (.nl .nil))))))))))) (.sc (.sc .nil))) ⟨(Jd ⟨_, rfl, rfl⟩ (Ds ⟨A3, (Ds ⟨A3, (Hk ⟨A3, (E8 ⟨A3, ⟨A3, ⟨A3, trivial⟩⟩⟩)⟩)⟩)⟩)), (E8 trivial)⟩) ?_)))
 have e : Er Dc B = ((Cn 0), 0, 1) := by
  unfold Er D9 D8; simp only [h3, if_true, if_false, zaa, reduceIte, F3]
 rw [e]
 rfl
 have dh3 := of_decide_eq_false h3
 refine A6 h3 ?_
 have w5 := Dw B 0
 refine Gp (by omega) (by omega) fun _ => Fq (c := su (Ax B 0)) rfl (K4 (by omega) (by omega) (Bm (v := (.bool (Du (Ax B 0)))) s2 rfl (.cons .sc .nil) (AcE (n + 10) (by omega) (Ax B 0) (by omega)) (Cv (Ac ((Du (Ax B 0))) (fun h6 => ?_) fun h6 => ?_))))
 refine A6 (nF h6) ?_
 obtain ⟨nq7, yq7, cq7, q7⟩ : ∃ w y o, B6 B 1 = (w, y, o) := ⟨_, _, _, rfl⟩
 have bq7 := Mi (B := B) (a := 1)
 rw [q7] at bq7
 dsimp only at bq7
 refine Do s2 rfl (.cons .ro (.cons .sc .nil)) (by have h := AkD (n + 10) (by omega) B 1 (by omega) (by omega); rw [q7] at h; exact h) rfl (A1 (A1 (A1 C2))) ?_
 rintro _ _ H ⟨_, rfl, ⟨_, rfl, ⟨_, rfl, ⟨rfl, rfl⟩⟩⟩⟩ s8
 simp only [zai] at s8
 refine A9 (v := si nq7) rfl (A9 (v := si yq7) rfl (A9 (v := si cq7) rfl (My (Ac ((decide (cq7 = 0))) (fun h9 => ?_) fun h9 => ?_))))
 have dh9 := of_decide_eq_true h9
 replace bq7 := bq7 (of_decide_eq_true h9)
 refine A6 (nF h9) (D5 (Ac ((decide (340 < nq7))) (fun h10 => ?_) fun h10 => ?_))
 have dh10 := of_decide_eq_true h10
 refine Au h10 (Aw (cs := Ed) rfl (Cd (cs' := Ed) s8 (.here) (Aj rfl) rfl (Cr rfl) rfl fun H s11 => Av s11 (.here) rfl (Al (Bj s11 rfl (.agg ⟨_, rfl, rfl⟩ (Dr (.nl (Dr (.nl (Hi (.nl (.sc (.sc (.nl (.nl (.nl .nil))))))))))) (.sc (.sc .nil))) ⟨(Jd ⟨_, rfl, rfl⟩ (Ds ⟨A3, (Ds ⟨A3, (Hk ⟨A3, (E8 ⟨A3, ⟨A3, ⟨A3, trivial⟩⟩⟩)⟩)⟩)⟩)), (E8 trivial)⟩) ?_)))
 have e : Er Dc B = ((Cn 0), 0, 2) := by
  unfold Er D9 D8; simp only [h3, h6, h9, h10, q7, if_true, if_false, zaa, reduceIte, F3]
 rw [e]
 rfl
 have dh10 := of_decide_eq_false h10
 refine A6 h10 (Dd (Px (by omega) (by omega) (D5 (Ac ((decide ((((B.size : Nat) : Int) - yq7) < nq7))) (fun h12 => ?_) fun h12 => ?_))))
 have dh12 := of_decide_eq_true h12
 refine Au h12 (Aw (cs := Ed) rfl (Cd (cs' := Ed) s8 (.here) (Aj rfl) rfl (Cr rfl) rfl fun H s13 => Av s13 (.here) rfl (Al (Bj s13 rfl (.agg ⟨_, rfl, rfl⟩ (Dr (.nl (Dr (.nl (Hi (.nl (.sc (.sc (.nl (.nl (.nl .nil))))))))))) (.sc (.sc .nil))) ⟨(Jd ⟨_, rfl, rfl⟩ (Ds ⟨A3, (Ds ⟨A3, (Hk ⟨A3, (E8 ⟨A3, ⟨A3, ⟨A3, trivial⟩⟩⟩)⟩)⟩)⟩)), (E8 trivial)⟩) ?_)))
 have e : Er Dc B = ((Cn 0), 0, 1) := by
  unfold Er D9 D8; simp only [h3, h6, h9, h10, h12, q7, if_true, if_false, zaa, reduceIte, F3]
 rw [e]
 rfl
 have dh12 := of_decide_eq_false h12
 refine A6 h12 ?_
 have w14 := Dw B 0
 refine Gp (by omega) (by omega) fun _ => Fq (c := su (Ax B 0)) rfl (K4 (by omega) (by omega) (Bq (by omega) (by omega) (F7 yq7 (yq7 + nq7) rfl rfl (by omega) (by omega) (by omega) ?_)))
 have z15 := zap (a := B) (b := yq7.toNat) (e := (yq7 + nq7).toNat)
 refine D1 (Gd.bothE ?_ ?_)
 have hR : (B.extract yq7.toNat (yq7 + nq7).toNat).size ≤ 340 := by rw [zap]; omega
 have hbd := Amd (Ax B 0) (B.extract yq7.toNat (yq7 + nq7).toNat) hR
 have hyp := hbd.hyp (by decide)
 refine Lf s8 rfl (.cons .sc (.cons .ro .nil)) (Amh (n + 1) (by omega) (Ax B 0) (B.extract yq7.toNat (yq7 + nq7).toNat) (by omega) (by omega)) ⟨_, rfl, rfl⟩ (Ie _) ?_
 rintro _ _ H ⟨x16, x17, x18, x19, x20, x21, lx16, lx17, lx18, lx19, lx20, lx21, rfl, rfl⟩ s22
 simp only [zai, zaq] at s22
 refine Gv s22 fun i23 H s24 => Cd (cs' := [si ((Dc (Ax B 0) (B.extract yq7.toNat (yq7 + nq7).toNat)).fType), .sc (.bool (Dc (Ax B 0) (B.extract yq7.toNat (yq7 + nq7).toNat)).fDup), si ((Dc (Ax B 0) (B.extract yq7.toNat (yq7 + nq7).toNat)).fQos), .sc (.bool (Dc (Ax B 0) (B.extract yq7.toNat (yq7 + nq7).toNat)).fRetain), si ((Dc (Ax B 0) (B.extract yq7.toNat (yq7 + nq7).toNat)).fId), ss ((Dc (Ax B 0) (B.extract yq7.toNat (yq7 + nq7).toNat)).fTopic), x16, ss ((Dc (Ax B 0) (B.extract yq7.toNat (yq7 + nq7).toNat)).fClient), si ((Dc (Ax B 0) (B.extract yq7.toNat (yq7 + nq7).toNat)).fLevel), .sc (.bool (Dc (Ax B 0) (B.extract yq7.toNat (yq7 + nq7).toNat)).fClean), si ((Dc (Ax B 0) (B.extract yq7.toNat (yq7 + nq7).toNat)).fKeep), .sc (.bool (Dc (Ax B 0) (B.extract yq7.toNat (yq7 + nq7).toNat)).fHasWill), ss ((Dc (Ax B 0) (B.extract yq7.toNat (yq7 + nq7).toNat)).fWTopic), x17, si ((Dc (Ax B 0) (B.extract yq7.toNat (yq7 + nq7).toNat)).fWQos), .sc (.bool (Dc (Ax B 0) (B.extract yq7.toNat (yq7 + nq7).toNat)).fWRetain), .sc (.bool (Dc (Ax B 0) (B.extract yq7.toNat (yq7 + nq7).toNat)).fHasUser), ss ((Dc (Ax B 0) (B.extract yq7.toNat (yq7 + nq7).toNat)).fUser), .sc (.bool (Dc (Ax B 0) (B.extract yq7.toNat (yq7 + nq7).toNat)).fHasPass), x18, si ((Dc (Ax B 0) (B.extract yq7.toNat (yq7 + nq7).toNat)).fCode), .sc (.bool (Dc (Ax B 0) (B.extract yq7.toNat (yq7 + nq7).toNat)).fPresent), x19, x20, x21]) s24 (.here) (Aj (Aa rfl (Aa rfl (Aa rfl (Aa rfl (Aa rfl (Aa rfl (Aa lx16 (Aa rfl (Aa rfl (Aa rfl (Aa rfl (Aa rfl (Aa rfl (Aa lx17 (Aa rfl (Aa rfl (Aa rfl (Aa rfl (Aa rfl (Aa lx18 (Aa rfl (Aa rfl (Aa lx19 (Aa lx20 (Aa lx21 rfl)))))))))))))))))))))))))) rfl (Cr rfl) rfl fun H s25 => Av s25 (.here) rfl ?_
 refine Bm (v := (.bool (A7 (Dc (Ax B 0) (B.extract yq7.toNat (yq7 + nq7).toNat))))) s25 rfl (.agg (vS6 (.cons (.own (by decide) Yw) (vS6 (.cons (.own (by decide) U5) (vS5 (.cons (.own (by decide) Mm) (S8 (.cons (.own (by decide) Ls) (.cons (.own (by decide) Fy) (.cons (.own (by decide) Cl) .nil)))))))))) .nil) (Tj (n + 2) (by omega) (Dc (Ax B 0) (B.extract yq7.toNat (yq7 + nq7).toNat)) hyp) (Cv (Ac ((A7 (Dc (Ax B 0) (B.extract yq7.toNat (yq7 + nq7).toNat)))) (fun h26 => ?_) fun h26 => ?_))
 refine Ao (nF h26) (Av s25 (.here) rfl (Ao (nF h26) (Ao (nF h26) (Ao (nF h26) (Ao (nF h26) (Bq (by omega) (by omega) (Ao (nF h26) (F7 0 (yq7 + nq7) rfl rfl (by omega) (by omega) (by omega) ?_))))))))
 have z27 := zap (a := B) (b := (0 : Int).toNat) (e := (yq7 + nq7).toNat)
 refine Ao (nF h26) (Bo s25 rfl (.agg (vS6 (.cons (.own (by decide) Yw) (vS6 (.cons (.own (by decide) U5) (vS5 (.cons (.own (by decide) Mm) (S8 (.cons (.own (by decide) Ls) (.cons (.own (by decide) Fy) (.cons (.own (by decide) Cl) .nil)))))))))) .nil) (Abo (n + 1) (by omega) (Dc (Ax B 0) (B.extract yq7.toNat (yq7 + nq7).toNat)) hyp (zaA hbd.b1 (by decide)) (zaA hbd.b2 (by decide)) (zaA hbd.b3 (by decide))) (Ca (Fx (Dc (Ax B 0) (B.extract yq7.toNat (yq7 + nq7).toNat)))) fun x28 H lx28 s29 => Ao (nF h26) (Bm (v := (.bool ((Fx (Dc (Ax B 0) (B.extract yq7.toNat (yq7 + nq7).toNat))).toList == (B.extract (0 : Int).toNat (yq7 + nq7).toNat).toList))) s29 rfl (.cons (.own (by decide) (.here)) (.cons .ro .nil)) (Kn (n + 11) _ (Fx (Dc (Ax B 0) (B.extract yq7.toNat (yq7 + nq7).toNat))) (B.extract (0 : Int).toNat (yq7 + nq7).toNat)) (Ao (nF h26) (Cv (D3 (nF h26) (Ac (((Fx (Dc (Ax B 0) (B.extract yq7.toNat (yq7 + nq7).toNat))).toList == (B.extract (0 : Int).toNat (yq7 + nq7).toNat).toList)) (fun h30 => ?_) fun h30 => ?_))))))
 refine A6 (nF h30) (Av s29 Cl rfl (Bq (by omega) (by omega) (Cd (cs' := [si ((Dc (Ax B 0) (B.extract yq7.toNat (yq7 + nq7).toNat)).fType), .sc (.bool (Dc (Ax B 0) (B.extract yq7.toNat (yq7 + nq7).toNat)).fDup), si ((Dc (Ax B 0) (B.extract yq7.toNat (yq7 + nq7).toNat)).fQos), .sc (.bool (Dc (Ax B 0) (B.extract yq7.toNat (yq7 + nq7).toNat)).fRetain), si ((Dc (Ax B 0) (B.extract yq7.toNat (yq7 + nq7).toNat)).fId), ss ((Dc (Ax B 0) (B.extract yq7.toNat (yq7 + nq7).toNat)).fTopic), x16, ss ((Dc (Ax B 0) (B.extract yq7.toNat (yq7 + nq7).toNat)).fClient), si ((Dc (Ax B 0) (B.extract yq7.toNat (yq7 + nq7).toNat)).fLevel), .sc (.bool (Dc (Ax B 0) (B.extract yq7.toNat (yq7 + nq7).toNat)).fClean), si ((Dc (Ax B 0) (B.extract yq7.toNat (yq7 + nq7).toNat)).fKeep), .sc (.bool (Dc (Ax B 0) (B.extract yq7.toNat (yq7 + nq7).toNat)).fHasWill), ss ((Dc (Ax B 0) (B.extract yq7.toNat (yq7 + nq7).toNat)).fWTopic), x17, si ((Dc (Ax B 0) (B.extract yq7.toNat (yq7 + nq7).toNat)).fWQos), .sc (.bool (Dc (Ax B 0) (B.extract yq7.toNat (yq7 + nq7).toNat)).fWRetain), .sc (.bool (Dc (Ax B 0) (B.extract yq7.toNat (yq7 + nq7).toNat)).fHasUser), ss ((Dc (Ax B 0) (B.extract yq7.toNat (yq7 + nq7).toNat)).fUser), .sc (.bool (Dc (Ax B 0) (B.extract yq7.toNat (yq7 + nq7).toNat)).fHasPass), x18, si ((Dc (Ax B 0) (B.extract yq7.toNat (yq7 + nq7).toNat)).fCode), .sc (.bool (Dc (Ax B 0) (B.extract yq7.toNat (yq7 + nq7).toNat)).fPresent), x19, x20, x21]) s29 zP8 (Aj (Aa rfl (Aa rfl (Aa rfl (Aa rfl (Aa rfl (Aa rfl (Aa lx16 (Aa rfl (Aa rfl (Aa rfl (Aa rfl (Aa rfl (Aa rfl (Aa lx17 (Aa rfl (Aa rfl (Aa rfl (Aa rfl (Aa rfl (Aa lx18 (Aa rfl (Aa rfl (Aa lx19 (Aa lx20 (Aa lx21 rfl)))))))))))))))))))))))))) rfl (Cr rfl) rfl fun H s31 => Av s31 (.here) rfl ?_)))
 refine Al (Bj s31 rfl (.agg ⟨_, rfl, rfl⟩ (Dr (.own zP8 (Dr (.own zP7 (Hi (.own Yw (.sc (.sc (.own U5 (.own Mm (.own Ls .nil))))))))))) (.sc (.sc .nil))) ⟨(Jd ⟨_, rfl, rfl⟩ (Ds ⟨(Bh (Ca ((Dc (Ax B 0) (B.extract yq7.toNat (yq7 + nq7).toNat)).fBody)) (by decide)), (Ds ⟨(Bh (Ca ((Dc (Ax B 0) (B.extract yq7.toNat (yq7 + nq7).toNat)).fWBody)) (by decide)), (Hk ⟨(Bh (Ca ((Dc (Ax B 0) (B.extract yq7.toNat (yq7 + nq7).toNat)).fPass)) (by decide)), (E8 ⟨(Bh (Lj ((Dc (Ax B 0) (B.extract yq7.toNat (yq7 + nq7).toNat)).fWants)) (by decide)), ⟨(Bh (Xh ((Dc (Ax B 0) (B.extract yq7.toNat (yq7 + nq7).toNat)).fNames)) (by decide)), ⟨(Bh (Aay ((Dc (Ax B 0) (B.extract yq7.toNat (yq7 + nq7).toNat)).fCodes)) (by decide)), trivial⟩⟩⟩)⟩)⟩)⟩)), (E8 trivial)⟩) ?_
 have e : Er Dc B = ((Dc (Ax B 0) (B.extract yq7.toNat (yq7 + nq7).toNat)), (yq7 + nq7), 0) := by
  unfold Er D9 D8; simp only [h3, h6, h9, h10, h12, h26, h30, q7, if_true, if_false, zaa, reduceIte, F3]
 rw [e]
 rfl
 refine Au (nT h30) (Aw (cs := Ed) rfl (Cd (cs' := Ed) s29 zP8 (Aj rfl) rfl (Cr rfl) rfl fun H s32 => Av s32 (.here) rfl (Al (Bj s32 rfl (.agg ⟨_, rfl, rfl⟩ (Dr (.nl (Dr (.nl (Hi (.nl (.sc (.sc (.nl (.nl (.nl .nil))))))))))) (.sc (.sc .nil))) ⟨(Jd ⟨_, rfl, rfl⟩ (Ds ⟨A3, (Ds ⟨A3, (Hk ⟨A3, (E8 ⟨A3, ⟨A3, ⟨A3, trivial⟩⟩⟩)⟩)⟩)⟩)), (E8 trivial)⟩) ?_)))
 have e : Er Dc B = ((Cn 0), 0, 2) := by
  unfold Er D9 D8; simp only [h3, h6, h9, h10, h12, h26, h30, q7, if_true, if_false, zaa, reduceIte, F3]
 rw [e]
 rfl
 refine Am (nT h26) (Am (nT h26) (Am (nT h26) (Am (nT h26) (Am (nT h26) (Am (nT h26) (Am (nT h26) (Am (nT h26) (Am (nT h26) (D7 (nT h26) (Au rfl (Aw (cs := Ed) rfl (Cd (cs' := Ed) s25 zP7 (Aj rfl) rfl (Cr rfl) rfl fun H s33 => Av s33 (.here) rfl (Al (Bj s33 rfl (.agg ⟨_, rfl, rfl⟩ (Dr (.nl (Dr (.nl (Hi (.nl (.sc (.sc (.nl (.nl (.nl .nil))))))))))) (.sc (.sc .nil))) ⟨(Jd ⟨_, rfl, rfl⟩ (Ds ⟨A3, (Ds ⟨A3, (Hk ⟨A3, (E8 ⟨A3, ⟨A3, ⟨A3, trivial⟩⟩⟩)⟩)⟩)⟩)), (E8 trivial)⟩) ?_)))))))))))))
 have e : Er Dc B = ((Cn 0), 0, 2) := by
  unfold Er D9 D8; simp only [h3, h6, h9, h10, h12, h26, q7, if_true, if_false, zaa, reduceIte, F3]
 rw [e]
 rfl
 refine Gv s8 fun i34 H s35 => ?_
 have hR : (B.extract yq7.toNat (yq7 + nq7).toNat).size ≤ 340 := by rw [zap]; omega
 have hbd := Amd (Ax B 0) (B.extract yq7.toNat (yq7 + nq7).toNat) hR
 have hyp := hbd.hyp (by decide)
 refine Lf s35 rfl (.cons .sc (.cons .ro .nil)) (Amh (n + 1) (by omega) (Ax B 0) (B.extract yq7.toNat (yq7 + nq7).toNat) (by omega) (by omega)) ⟨_, rfl, rfl⟩ (Ie _) ?_
 rintro _ _ H ⟨x36, x37, x38, x39, x40, x41, lx36, lx37, lx38, lx39, lx40, lx41, rfl, rfl⟩ s42
 simp only [zai, zaq] at s42
 refine Cd (cs' := [si ((Dc (Ax B 0) (B.extract yq7.toNat (yq7 + nq7).toNat)).fType), .sc (.bool (Dc (Ax B 0) (B.extract yq7.toNat (yq7 + nq7).toNat)).fDup), si ((Dc (Ax B 0) (B.extract yq7.toNat (yq7 + nq7).toNat)).fQos), .sc (.bool (Dc (Ax B 0) (B.extract yq7.toNat (yq7 + nq7).toNat)).fRetain), si ((Dc (Ax B 0) (B.extract yq7.toNat (yq7 + nq7).toNat)).fId), ss ((Dc (Ax B 0) (B.extract yq7.toNat (yq7 + nq7).toNat)).fTopic), x36, ss ((Dc (Ax B 0) (B.extract yq7.toNat (yq7 + nq7).toNat)).fClient), si ((Dc (Ax B 0) (B.extract yq7.toNat (yq7 + nq7).toNat)).fLevel), .sc (.bool (Dc (Ax B 0) (B.extract yq7.toNat (yq7 + nq7).toNat)).fClean), si ((Dc (Ax B 0) (B.extract yq7.toNat (yq7 + nq7).toNat)).fKeep), .sc (.bool (Dc (Ax B 0) (B.extract yq7.toNat (yq7 + nq7).toNat)).fHasWill), ss ((Dc (Ax B 0) (B.extract yq7.toNat (yq7 + nq7).toNat)).fWTopic), x37, si ((Dc (Ax B 0) (B.extract yq7.toNat (yq7 + nq7).toNat)).fWQos), .sc (.bool (Dc (Ax B 0) (B.extract yq7.toNat (yq7 + nq7).toNat)).fWRetain), .sc (.bool (Dc (Ax B 0) (B.extract yq7.toNat (yq7 + nq7).toNat)).fHasUser), ss ((Dc (Ax B 0) (B.extract yq7.toNat (yq7 + nq7).toNat)).fUser), .sc (.bool (Dc (Ax B 0) (B.extract yq7.toNat (yq7 + nq7).toNat)).fHasPass), x38, si ((Dc (Ax B 0) (B.extract yq7.toNat (yq7 + nq7).toNat)).fCode), .sc (.bool (Dc (Ax B 0) (B.extract yq7.toNat (yq7 + nq7).toNat)).fPresent), x39, x40, x41]) s42 Yw (Aj (Aa rfl (Aa rfl (Aa rfl (Aa rfl (Aa rfl (Aa rfl (Aa lx36 (Aa rfl (Aa rfl (Aa rfl (Aa rfl (Aa rfl (Aa rfl (Aa lx37 (Aa rfl (Aa rfl (Aa rfl (Aa rfl (Aa rfl (Aa lx38 (Aa rfl (Aa rfl (Aa lx39 (Aa lx40 (Aa lx41 rfl)))))))))))))))))))))))))) rfl (Cr rfl) rfl fun H s43 => Av s43 (.here) rfl ?_
 refine Bm (v := (.bool (A7 (Dc (Ax B 0) (B.extract yq7.toNat (yq7 + nq7).toNat))))) s43 rfl (.agg (vS6 (.cons (.own (by decide) Yw) (vS6 (.cons (.own (by decide) U5) (vS5 (.cons (.own (by decide) Mm) (S8 (.cons (.own (by decide) Ls) (.cons (.own (by decide) Fy) (.cons (.own (by decide) Cl) .nil)))))))))) .nil) (Tj (n + 2) (by omega) (Dc (Ax B 0) (B.extract yq7.toNat (yq7 + nq7).toNat)) hyp) (Cv (Ac ((A7 (Dc (Ax B 0) (B.extract yq7.toNat (yq7 + nq7).toNat)))) (fun h44 => ?_) fun h44 => ?_))
 refine Ao (nF h44) (Av s43 (.here) rfl (Ao (nF h44) (Ao (nF h44) (Ao (nF h44) (Ao (nF h44) (Bq (by omega) (by omega) (Ao (nF h44) (F7 0 (yq7 + nq7) rfl rfl (by omega) (by omega) (by omega) ?_))))))))
 have z45 := zap (a := B) (b := (0 : Int).toNat) (e := (yq7 + nq7).toNat)
 refine Ao (nF h44) (Bo s43 rfl (.agg (vS6 (.cons (.own (by decide) Yw) (vS6 (.cons (.own (by decide) U5) (vS5 (.cons (.own (by decide) Mm) (S8 (.cons (.own (by decide) Ls) (.cons (.own (by decide) Fy) (.cons (.own (by decide) Cl) .nil)))))))))) .nil) (Abo (n + 1) (by omega) (Dc (Ax B 0) (B.extract yq7.toNat (yq7 + nq7).toNat)) hyp (zaA hbd.b1 (by decide)) (zaA hbd.b2 (by decide)) (zaA hbd.b3 (by decide))) (Ca (Fx (Dc (Ax B 0) (B.extract yq7.toNat (yq7 + nq7).toNat)))) fun x46 H lx46 s47 => Ao (nF h44) (Bm (v := (.bool ((Fx (Dc (Ax B 0) (B.extract yq7.toNat (yq7 + nq7).toNat))).toList == (B.extract (0 : Int).toNat (yq7 + nq7).toNat).toList))) s47 rfl (.cons (.own (by decide) (.here)) (.cons .ro .nil)) (Kn (n + 11) _ (Fx (Dc (Ax B 0) (B.extract yq7.toNat (yq7 + nq7).toNat))) (B.extract (0 : Int).toNat (yq7 + nq7).toNat)) (Ao (nF h44) (Cv (D3 (nF h44) (Ac (((Fx (Dc (Ax B 0) (B.extract yq7.toNat (yq7 + nq7).toNat))).toList == (B.extract (0 : Int).toNat (yq7 + nq7).toNat).toList)) (fun h48 => ?_) fun h48 => ?_))))))
 refine A6 (nF h48) (Av s47 Cl rfl (Bq (by omega) (by omega) (Cd (cs' := [si ((Dc (Ax B 0) (B.extract yq7.toNat (yq7 + nq7).toNat)).fType), .sc (.bool (Dc (Ax B 0) (B.extract yq7.toNat (yq7 + nq7).toNat)).fDup), si ((Dc (Ax B 0) (B.extract yq7.toNat (yq7 + nq7).toNat)).fQos), .sc (.bool (Dc (Ax B 0) (B.extract yq7.toNat (yq7 + nq7).toNat)).fRetain), si ((Dc (Ax B 0) (B.extract yq7.toNat (yq7 + nq7).toNat)).fId), ss ((Dc (Ax B 0) (B.extract yq7.toNat (yq7 + nq7).toNat)).fTopic), x36, ss ((Dc (Ax B 0) (B.extract yq7.toNat (yq7 + nq7).toNat)).fClient), si ((Dc (Ax B 0) (B.extract yq7.toNat (yq7 + nq7).toNat)).fLevel), .sc (.bool (Dc (Ax B 0) (B.extract yq7.toNat (yq7 + nq7).toNat)).fClean), si ((Dc (Ax B 0) (B.extract yq7.toNat (yq7 + nq7).toNat)).fKeep), .sc (.bool (Dc (Ax B 0) (B.extract yq7.toNat (yq7 + nq7).toNat)).fHasWill), ss ((Dc (Ax B 0) (B.extract yq7.toNat (yq7 + nq7).toNat)).fWTopic), x37, si ((Dc (Ax B 0) (B.extract yq7.toNat (yq7 + nq7).toNat)).fWQos), .sc (.bool (Dc (Ax B 0) (B.extract yq7.toNat (yq7 + nq7).toNat)).fWRetain), .sc (.bool (Dc (Ax B 0) (B.extract yq7.toNat (yq7 + nq7).toNat)).fHasUser), ss ((Dc (Ax B 0) (B.extract yq7.toNat (yq7 + nq7).toNat)).fUser), .sc (.bool (Dc (Ax B 0) (B.extract yq7.toNat (yq7 + nq7).toNat)).fHasPass), x38, si ((Dc (Ax B 0) (B.extract yq7.toNat (yq7 + nq7).toNat)).fCode), .sc (.bool (Dc (Ax B 0) (B.extract yq7.toNat (yq7 + nq7).toNat)).fPresent), x39, x40, x41]) s47 zP8 (Aj (Aa rfl (Aa rfl (Aa rfl (Aa rfl (Aa rfl (Aa rfl (Aa lx36 (Aa rfl (Aa rfl (Aa rfl (Aa rfl (Aa rfl (Aa rfl (Aa lx37 (Aa rfl (Aa rfl (Aa rfl (Aa rfl (Aa rfl (Aa lx38 (Aa rfl (Aa rfl (Aa lx39 (Aa lx40 (Aa lx41 rfl)))))))))))))))))))))))))) rfl (Cr rfl) rfl fun H s49 => Av s49 (.here) rfl ?_)))
 refine Al (Bj s49 rfl (.agg ⟨_, rfl, rfl⟩ (Dr (.own zP8 (Dr (.own zP7 (Hi (.own Yw (.sc (.sc (.own U5 (.own Mm (.own Ls .nil))))))))))) (.sc (.sc .nil))) ⟨(Jd ⟨_, rfl, rfl⟩ (Ds ⟨(Bh (Ca ((Dc (Ax B 0) (B.extract yq7.toNat (yq7 + nq7).toNat)).fBody)) (by decide)), (Ds ⟨(Bh (Ca ((Dc (Ax B 0) (B.extract yq7.toNat (yq7 + nq7).toNat)).fWBody)) (by decide)), (Hk ⟨(Bh (Ca ((Dc (Ax B 0) (B.extract yq7.toNat (yq7 + nq7).toNat)).fPass)) (by decide)), (E8 ⟨(Bh (Lj ((Dc (Ax B 0) (B.extract yq7.toNat (yq7 + nq7).toNat)).fWants)) (by decide)), ⟨(Bh (Xh ((Dc (Ax B 0) (B.extract yq7.toNat (yq7 + nq7).toNat)).fNames)) (by decide)), ⟨(Bh (Aay ((Dc (Ax B 0) (B.extract yq7.toNat (yq7 + nq7).toNat)).fCodes)) (by decide)), trivial⟩⟩⟩)⟩)⟩)⟩)), (E8 trivial)⟩) ?_
 have e : Er Dc B = ((Dc (Ax B 0) (B.extract yq7.toNat (yq7 + nq7).toNat)), (yq7 + nq7), 0) := by
  unfold Er D9 D8; simp only [h3, h6, h9, h10, h12, h44, h48, q7, if_true, if_false, zaa, reduceIte, F3]
 rw [e]
 rfl
 refine Au (nT h48) (Aw (cs := Ed) rfl (Cd (cs' := Ed) s47 zP8 (Aj rfl) rfl (Cr rfl) rfl fun H s50 => Av s50 (.here) rfl (Al (Bj s50 rfl (.agg ⟨_, rfl, rfl⟩ (Dr (.nl (Dr (.nl (Hi (.nl (.sc (.sc (.nl (.nl (.nl .nil))))))))))) (.sc (.sc .nil))) ⟨(Jd ⟨_, rfl, rfl⟩ (Ds ⟨A3, (Ds ⟨A3, (Hk ⟨A3, (E8 ⟨A3, ⟨A3, ⟨A3, trivial⟩⟩⟩)⟩)⟩)⟩)), (E8 trivial)⟩) ?_)))
 have e : Er Dc B = ((Cn 0), 0, 2) := by
  unfold Er D9 D8; simp only [h3, h6, h9, h10, h12, h44, h48, q7, if_true, if_false, zaa, reduceIte, F3]
 rw [e]
 rfl
 refine Am (nT h44) (Am (nT h44) (Am (nT h44) (Am (nT h44) (Am (nT h44) (Am (nT h44) (Am (nT h44) (Am (nT h44) (Am (nT h44) (D7 (nT h44) (Au rfl (Aw (cs := Ed) rfl (Cd (cs' := Ed) s43 zP7 (Aj rfl) rfl (Cr rfl) rfl fun H s51 => Av s51 (.here) rfl (Al (Bj s51 rfl (.agg ⟨_, rfl, rfl⟩ (Dr (.nl (Dr (.nl (Hi (.nl (.sc (.sc (.nl (.nl (.nl .nil))))))))))) (.sc (.sc .nil))) ⟨(Jd ⟨_, rfl, rfl⟩ (Ds ⟨A3, (Ds ⟨A3, (Hk ⟨A3, (E8 ⟨A3, ⟨A3, ⟨A3, trivial⟩⟩⟩)⟩)⟩)⟩)), (E8 trivial)⟩) ?_)))))))))))))
 have e : Er Dc B = ((Cn 0), 0, 2) := by
  unfold Er D9 D8; simp only [h3, h6, h9, h10, h12, h44, q7, if_true, if_false, zaa, reduceIte, F3]
 rw [e]
 rfl
 have dh9 := of_decide_eq_false h9
 refine Au (nT h9) (Aw (cs := Ed) rfl (Cd (cs' := Ed) s8 (.here) (Aj rfl) rfl (Cr rfl) rfl fun H s52 => Av s52 (.here) rfl (Al (Bj s52 rfl (.agg ⟨_, rfl, rfl⟩ (Dr (.nl (Dr (.nl (Hi (.nl (.sc (.sc (.nl (.nl (.nl .nil))))))))))) (.sc (.sc .nil))) ⟨(Jd ⟨_, rfl, rfl⟩ (Ds ⟨A3, (Ds ⟨A3, (Hk ⟨A3, (E8 ⟨A3, ⟨A3, ⟨A3, trivial⟩⟩⟩)⟩)⟩)⟩)), (E8 trivial)⟩) ?_)))
 have e : Er Dc B = ((Cn 0), 0, cq7) := by
  unfold Er D9 D8; simp only [h3, h6, h9, q7, if_true, if_false, zaa, reduceIte, F3]
 rw [e]
 rfl
 refine Au (nT h6) (Aw (cs := Ed) rfl (Cd (cs' := Ed) s2 (.here) (Aj rfl) rfl (Cr rfl) rfl fun H s53 => Av s53 (.here) rfl (Al (Bj s53 rfl (.agg ⟨_, rfl, rfl⟩ (Dr (.nl (Dr (.nl (Hi (.nl (.sc (.sc (.nl (.nl (.nl .nil))))))))))) (.sc (.sc .nil))) ⟨(Jd ⟨_, rfl, rfl⟩ (Ds ⟨A3, (Ds ⟨A3, (Hk ⟨A3, (E8 ⟨A3, ⟨A3, ⟨A3, trivial⟩⟩⟩)⟩)⟩)⟩)), (E8 trivial)⟩) ?_)))
 have e : Er Dc B = ((Cn 0), 0, 2) := by
  unfold Er D9 D8; simp only [h3, h6, if_true, if_false, zaa, reduceIte, F3]
 rw [e]
 rfl
theorem AiO (n : Nat) (hn : 1048576 < n) (B : ByteArray) (hB : B.size ≤ 2097152) : Cb E0 (n + 13) 60 31 [Ae B] = some (.tup [.agg (Ag (Er C9 B).1), .sc (.int .i64 (Er C9 B).2.1), .sc (.int .i64 (Er C9 B).2.2)]) := by
 rw [At, AmD, f31]
 refine B8 (G := (· = some (.tup [.agg (Ag (Er C9 B).1), .sc (.int .i64 (Er C9 B).2.1), .sc (.int .i64 (Er C9 B).2.2)]))) ?_
 try simp only [Fa, E9]
 have s0 : Sep [] [] := B4
 refine Gv s0 fun i1 H s2 => Dd (Ce (Ac ((decide (((B.size : Nat) : Int) = 0))) (fun h3 => ?_) fun h3 => ?_))
 have dh3 := of_decide_eq_true h3
 refine Au h3 (Aw (cs := Ed) rfl (Cd (cs' := Ed) s2 (.here) (Aj rfl) rfl (Cr rfl) rfl fun H s4 => Av s4 (.here) rfl (Al (Bj s4 rfl (.agg ⟨_, rfl, rfl⟩ (Dr (.nl (Dr (.nl (Hi (.nl (.sc (.sc (.nl (.nl (.nl .nil))))))))))) (.sc (.sc .nil))) ⟨(Jd ⟨_, rfl, rfl⟩ (Ds ⟨A3, (Ds ⟨A3, (Hk ⟨A3, (E8 ⟨A3, ⟨A3, ⟨A3, trivial⟩⟩⟩)⟩)⟩)⟩)), (E8 trivial)⟩) ?_)))
 have e : Er C9 B = ((Cn 0), 0, 1) := by
  unfold Er D9 D8; simp only [h3, if_true, if_false, zaa, reduceIte, F3]
 rw [e]
 rfl
 have dh3 := of_decide_eq_false h3
 refine A6 h3 ?_
 have w5 := Dw B 0
 refine Gp (by omega) (by omega) fun _ => Fq (c := .sc (.int .u8 (Ax B 0))) rfl (K4 (by omega) (by omega) (Bm (v := (.bool (Du (Ax B 0)))) s2 rfl (.cons .sc .nil) (by rw [← AhS (f := (Ax B 0)) (by omega) (by omega)]; exact AcV (n + 11) (by omega) (Ax B 0) (by omega)) (Cv (Ac ((Du (Ax B 0))) (fun h6 => ?_) fun h6 => ?_))))
 refine A6 (nF h6) ?_
 obtain ⟨nq7, yq7, cq7, q7⟩ : ∃ w y o, B6 B 1 = (w, y, o) := ⟨_, _, _, rfl⟩
 have bq7 := Mi (B := B) (a := 1)
 rw [q7] at bq7
 dsimp only at bq7
 refine Do s2 rfl (.cons .ro (.cons .sc .nil)) (by have h := Aln (n + 10) (by omega) B 1 (by omega) (by omega); rw [q7] at h; exact h) rfl (A1 (A1 (A1 C2))) ?_
 rintro _ _ H ⟨_, rfl, ⟨_, rfl, ⟨_, rfl, ⟨rfl, rfl⟩⟩⟩⟩ s8
 simp only [zai] at s8
 refine A9 (v := si nq7) rfl (A9 (v := si yq7) rfl (A9 (v := si cq7) rfl (My (Ac ((decide (cq7 = 0))) (fun h9 => ?_) fun h9 => ?_))))
 have dh9 := of_decide_eq_true h9
 replace bq7 := bq7 (of_decide_eq_true h9)
 refine A6 (nF h9) (D5 (Ac ((decide (340 < nq7))) (fun h10 => ?_) fun h10 => ?_))
 have dh10 := of_decide_eq_true h10
 refine Au h10 (Aw (cs := Ed) rfl (Cd (cs' := Ed) s8 (.here) (Aj rfl) rfl (Cr rfl) rfl fun H s11 => Av s11 (.here) rfl (Al (Bj s11 rfl (.agg ⟨_, rfl, rfl⟩ (Dr (.nl (Dr (.nl (Hi (.nl (.sc (.sc (.nl (.nl (.nl .nil))))))))))) (.sc (.sc .nil))) ⟨(Jd ⟨_, rfl, rfl⟩ (Ds ⟨A3, (Ds ⟨A3, (Hk ⟨A3, (E8 ⟨A3, ⟨A3, ⟨A3, trivial⟩⟩⟩)⟩)⟩)⟩)), (E8 trivial)⟩) ?_)))
 have e : Er C9 B = ((Cn 0), 0, 2) := by
  unfold Er D9 D8; simp only [h3, h6, h9, h10, q7, if_true, if_false, zaa, reduceIte, F3]
 rw [e]
 rfl
 have dh10 := of_decide_eq_false h10
 refine A6 h10 (Dd (Px (by omega) (by omega) (D5 (Ac ((decide ((((B.size : Nat) : Int) - yq7) < nq7))) (fun h12 => ?_) fun h12 => ?_))))
 have dh12 := of_decide_eq_true h12
 refine Au h12 (Aw (cs := Ed) rfl (Cd (cs' := Ed) s8 (.here) (Aj rfl) rfl (Cr rfl) rfl fun H s13 => Av s13 (.here) rfl (Al (Bj s13 rfl (.agg ⟨_, rfl, rfl⟩ (Dr (.nl (Dr (.nl (Hi (.nl (.sc (.sc (.nl (.nl (.nl .nil))))))))))) (.sc (.sc .nil))) ⟨(Jd ⟨_, rfl, rfl⟩ (Ds ⟨A3, (Ds ⟨A3, (Hk ⟨A3, (E8 ⟨A3, ⟨A3, ⟨A3, trivial⟩⟩⟩)⟩)⟩)⟩)), (E8 trivial)⟩) ?_)))
 have e : Er C9 B = ((Cn 0), 0, 1) := by
  unfold Er D9 D8; simp only [h3, h6, h9, h10, h12, q7, if_true, if_false, zaa, reduceIte, F3]
 rw [e]
 rfl
 have dh12 := of_decide_eq_false h12
 refine A6 h12 ?_
 have w14 := Dw B 0
 refine Gp (by omega) (by omega) fun _ => Fq (c := su (Ax B 0)) rfl (K4 (by omega) (by omega) (Bq (by omega) (by omega) (F7 yq7 (yq7 + nq7) rfl rfl (by omega) (by omega) (by omega) ?_)))
 have z15 := zap (a := B) (b := yq7.toNat) (e := (yq7 + nq7).toNat)
 refine D1 (Gd.bothE ?_ ?_)
 have hR : (B.extract yq7.toNat (yq7 + nq7).toNat).size ≤ 340 := by rw [zap]; omega
 have hbd := Amg (Ax B 0) (B.extract yq7.toNat (yq7 + nq7).toNat) hR
 have hyp := hbd.hyp (by decide)
 refine Lf s8 rfl (.cons .sc (.cons .ro .nil)) (Al3 (n + 5) (by omega) (Ax B 0) (B.extract yq7.toNat (yq7 + nq7).toNat) (by omega) (by omega)) ⟨_, rfl, rfl⟩ (Ie _) ?_
 rintro _ _ H ⟨x16, x17, x18, x19, x20, x21, lx16, lx17, lx18, lx19, lx20, lx21, rfl, rfl⟩ s22
 simp only [zai, zaq] at s22
 refine Gv s22 fun i23 H s24 => Cd (cs' := [si ((C9 (Ax B 0) (B.extract yq7.toNat (yq7 + nq7).toNat)).fType), .sc (.bool (C9 (Ax B 0) (B.extract yq7.toNat (yq7 + nq7).toNat)).fDup), si ((C9 (Ax B 0) (B.extract yq7.toNat (yq7 + nq7).toNat)).fQos), .sc (.bool (C9 (Ax B 0) (B.extract yq7.toNat (yq7 + nq7).toNat)).fRetain), si ((C9 (Ax B 0) (B.extract yq7.toNat (yq7 + nq7).toNat)).fId), ss ((C9 (Ax B 0) (B.extract yq7.toNat (yq7 + nq7).toNat)).fTopic), x16, ss ((C9 (Ax B 0) (B.extract yq7.toNat (yq7 + nq7).toNat)).fClient), si ((C9 (Ax B 0) (B.extract yq7.toNat (yq7 + nq7).toNat)).fLevel), .sc (.bool (C9 (Ax B 0) (B.extract yq7.toNat (yq7 + nq7).toNat)).fClean), si ((C9 (Ax B 0) (B.extract yq7.toNat (yq7 + nq7).toNat)).fKeep), .sc (.bool (C9 (Ax B 0) (B.extract yq7.toNat (yq7 + nq7).toNat)).fHasWill), ss ((C9 (Ax B 0) (B.extract yq7.toNat (yq7 + nq7).toNat)).fWTopic), x17, si ((C9 (Ax B 0) (B.extract yq7.toNat (yq7 + nq7).toNat)).fWQos), .sc (.bool (C9 (Ax B 0) (B.extract yq7.toNat (yq7 + nq7).toNat)).fWRetain), .sc (.bool (C9 (Ax B 0) (B.extract yq7.toNat (yq7 + nq7).toNat)).fHasUser), ss ((C9 (Ax B 0) (B.extract yq7.toNat (yq7 + nq7).toNat)).fUser), .sc (.bool (C9 (Ax B 0) (B.extract yq7.toNat (yq7 + nq7).toNat)).fHasPass), x18, si ((C9 (Ax B 0) (B.extract yq7.toNat (yq7 + nq7).toNat)).fCode), .sc (.bool (C9 (Ax B 0) (B.extract yq7.toNat (yq7 + nq7).toNat)).fPresent), x19, x20, x21]) s24 (.here) (Aj (Aa rfl (Aa rfl (Aa rfl (Aa rfl (Aa rfl (Aa rfl (Aa lx16 (Aa rfl (Aa rfl (Aa rfl (Aa rfl (Aa rfl (Aa rfl (Aa lx17 (Aa rfl (Aa rfl (Aa rfl (Aa rfl (Aa rfl (Aa lx18 (Aa rfl (Aa rfl (Aa lx19 (Aa lx20 (Aa lx21 rfl)))))))))))))))))))))))))) rfl (Cr rfl) rfl fun H s25 => Av s25 (.here) rfl ?_
 refine Bm (v := (.bool (A7 (C9 (Ax B 0) (B.extract yq7.toNat (yq7 + nq7).toNat))))) s25 rfl (.agg (vS6 (.cons (.own (by decide) Yw) (vS6 (.cons (.own (by decide) U5) (vS5 (.cons (.own (by decide) Mm) (S8 (.cons (.own (by decide) Ls) (.cons (.own (by decide) Fy) (.cons (.own (by decide) Cl) .nil)))))))))) .nil) (T0 (n + 2) (by omega) (C9 (Ax B 0) (B.extract yq7.toNat (yq7 + nq7).toNat)) hyp) (Cv (Ac ((A7 (C9 (Ax B 0) (B.extract yq7.toNat (yq7 + nq7).toNat)))) (fun h26 => ?_) fun h26 => ?_))
 refine Ao (nF h26) (Av s25 (.here) rfl (Ao (nF h26) (Ao (nF h26) (Ao (nF h26) (Ao (nF h26) (Bq (by omega) (by omega) (Ao (nF h26) (F7 0 (yq7 + nq7) rfl rfl (by omega) (by omega) (by omega) ?_))))))))
 have z27 := zap (a := B) (b := (0 : Int).toNat) (e := (yq7 + nq7).toNat)
 refine Ao (nF h26) (Bo s25 rfl (.agg (vS6 (.cons (.own (by decide) Yw) (vS6 (.cons (.own (by decide) U5) (vS5 (.cons (.own (by decide) Mm) (S8 (.cons (.own (by decide) Ls) (.cons (.own (by decide) Fy) (.cons (.own (by decide) Cl) .nil)))))))))) .nil) (AbL (n + 1) (by omega) (C9 (Ax B 0) (B.extract yq7.toNat (yq7 + nq7).toNat)) hyp (zaA hbd.b1 (by decide)) (zaA hbd.b2 (by decide)) (zaA hbd.b3 (by decide))) (Ca (Fx (C9 (Ax B 0) (B.extract yq7.toNat (yq7 + nq7).toNat)))) fun x28 H lx28 s29 => Ao (nF h26) (Bm (v := (.bool ((Fx (C9 (Ax B 0) (B.extract yq7.toNat (yq7 + nq7).toNat))).toList == (B.extract (0 : Int).toNat (yq7 + nq7).toNat).toList))) s29 rfl (.cons (.own (by decide) (.here)) (.cons .ro .nil)) (Aat (n + 11) _ (Fx (C9 (Ax B 0) (B.extract yq7.toNat (yq7 + nq7).toNat))) (B.extract (0 : Int).toNat (yq7 + nq7).toNat)) (Ao (nF h26) (Cv (D3 (nF h26) (Ac (((Fx (C9 (Ax B 0) (B.extract yq7.toNat (yq7 + nq7).toNat))).toList == (B.extract (0 : Int).toNat (yq7 + nq7).toNat).toList)) (fun h30 => ?_) fun h30 => ?_))))))
 refine A6 (nF h30) (Av s29 Cl rfl (Bq (by omega) (by omega) (Cd (cs' := [si ((C9 (Ax B 0) (B.extract yq7.toNat (yq7 + nq7).toNat)).fType), .sc (.bool (C9 (Ax B 0) (B.extract yq7.toNat (yq7 + nq7).toNat)).fDup), si ((C9 (Ax B 0) (B.extract yq7.toNat (yq7 + nq7).toNat)).fQos), .sc (.bool (C9 (Ax B 0) (B.extract yq7.toNat (yq7 + nq7).toNat)).fRetain), si ((C9 (Ax B 0) (B.extract yq7.toNat (yq7 + nq7).toNat)).fId), ss ((C9 (Ax B 0) (B.extract yq7.toNat (yq7 + nq7).toNat)).fTopic), x16, ss ((C9 (Ax B 0) (B.extract yq7.toNat (yq7 + nq7).toNat)).fClient), si ((C9 (Ax B 0) (B.extract yq7.toNat (yq7 + nq7).toNat)).fLevel), .sc (.bool (C9 (Ax B 0) (B.extract yq7.toNat (yq7 + nq7).toNat)).fClean), si ((C9 (Ax B 0) (B.extract yq7.toNat (yq7 + nq7).toNat)).fKeep), .sc (.bool (C9 (Ax B 0) (B.extract yq7.toNat (yq7 + nq7).toNat)).fHasWill), ss ((C9 (Ax B 0) (B.extract yq7.toNat (yq7 + nq7).toNat)).fWTopic), x17, si ((C9 (Ax B 0) (B.extract yq7.toNat (yq7 + nq7).toNat)).fWQos), .sc (.bool (C9 (Ax B 0) (B.extract yq7.toNat (yq7 + nq7).toNat)).fWRetain), .sc (.bool (C9 (Ax B 0) (B.extract yq7.toNat (yq7 + nq7).toNat)).fHasUser), ss ((C9 (Ax B 0) (B.extract yq7.toNat (yq7 + nq7).toNat)).fUser), .sc (.bool (C9 (Ax B 0) (B.extract yq7.toNat (yq7 + nq7).toNat)).fHasPass), x18, si ((C9 (Ax B 0) (B.extract yq7.toNat (yq7 + nq7).toNat)).fCode), .sc (.bool (C9 (Ax B 0) (B.extract yq7.toNat (yq7 + nq7).toNat)).fPresent), x19, x20, x21]) s29 zP8 (Aj (Aa rfl (Aa rfl (Aa rfl (Aa rfl (Aa rfl (Aa rfl (Aa lx16 (Aa rfl (Aa rfl (Aa rfl (Aa rfl (Aa rfl (Aa rfl (Aa lx17 (Aa rfl (Aa rfl (Aa rfl (Aa rfl (Aa rfl (Aa lx18 (Aa rfl (Aa rfl (Aa lx19 (Aa lx20 (Aa lx21 rfl)))))))))))))))))))))))))) rfl (Cr rfl) rfl fun H s31 => Av s31 (.here) rfl ?_)))
 refine Al (Bj s31 rfl (.agg ⟨_, rfl, rfl⟩ (Dr (.own zP8 (Dr (.own zP7 (Hi (.own Yw (.sc (.sc (.own U5 (.own Mm (.own Ls .nil))))))))))) (.sc (.sc .nil))) ⟨(Jd ⟨_, rfl, rfl⟩ (Ds ⟨(Bh (Ca ((C9 (Ax B 0) (B.extract yq7.toNat (yq7 + nq7).toNat)).fBody)) (by decide)), (Ds ⟨(Bh (Ca ((C9 (Ax B 0) (B.extract yq7.toNat (yq7 + nq7).toNat)).fWBody)) (by decide)), (Hk ⟨(Bh (Ca ((C9 (Ax B 0) (B.extract yq7.toNat (yq7 + nq7).toNat)).fPass)) (by decide)), (E8 ⟨(Bh (Lj ((C9 (Ax B 0) (B.extract yq7.toNat (yq7 + nq7).toNat)).fWants)) (by decide)), ⟨(Bh (Xh ((C9 (Ax B 0) (B.extract yq7.toNat (yq7 + nq7).toNat)).fNames)) (by decide)), ⟨(Bh (Aay ((C9 (Ax B 0) (B.extract yq7.toNat (yq7 + nq7).toNat)).fCodes)) (by decide)), trivial⟩⟩⟩)⟩)⟩)⟩)), (E8 trivial)⟩) ?_
 have e : Er C9 B = ((C9 (Ax B 0) (B.extract yq7.toNat (yq7 + nq7).toNat)), (yq7 + nq7), 0) := by
  unfold Er D9 D8; simp only [h3, h6, h9, h10, h12, h26, h30, q7, if_true, if_false, zaa, reduceIte, F3]
 rw [e]
 rfl
 refine Au (nT h30) (Aw (cs := Ed) rfl (Cd (cs' := Ed) s29 zP8 (Aj rfl) rfl (Cr rfl) rfl fun H s32 => Av s32 (.here) rfl (Al (Bj s32 rfl (.agg ⟨_, rfl, rfl⟩ (Dr (.nl (Dr (.nl (Hi (.nl (.sc (.sc (.nl (.nl (.nl .nil))))))))))) (.sc (.sc .nil))) ⟨(Jd ⟨_, rfl, rfl⟩ (Ds ⟨A3, (Ds ⟨A3, (Hk ⟨A3, (E8 ⟨A3, ⟨A3, ⟨A3, trivial⟩⟩⟩)⟩)⟩)⟩)), (E8 trivial)⟩) ?_)))
 have e : Er C9 B = ((Cn 0), 0, 2) := by
  unfold Er D9 D8; simp only [h3, h6, h9, h10, h12, h26, h30, q7, if_true, if_false, zaa, reduceIte, F3]
 rw [e]
 rfl
 refine Am (nT h26) (Am (nT h26) (Am (nT h26) (Am (nT h26) (Am (nT h26) (Am (nT h26) (Am (nT h26) (Am (nT h26) (Am (nT h26) (D7 (nT h26) (Au rfl (Aw (cs := Ed) rfl (Cd (cs' := Ed) s25 zP7 (Aj rfl) rfl (Cr rfl) rfl fun H s33 => Av s33 (.here) rfl (Al (Bj s33 rfl (.agg ⟨_, rfl, rfl⟩ (Dr (.nl (Dr (.nl (Hi (.nl (.sc (.sc (.nl (.nl (.nl .nil))))))))))) (.sc (.sc .nil))) ⟨(Jd ⟨_, rfl, rfl⟩ (Ds ⟨A3, (Ds ⟨A3, (Hk ⟨A3, (E8 ⟨A3, ⟨A3, ⟨A3, trivial⟩⟩⟩)⟩)⟩)⟩)), (E8 trivial)⟩) ?_)))))))))))))
 have e : Er C9 B = ((Cn 0), 0, 2) := by
  unfold Er D9 D8; simp only [h3, h6, h9, h10, h12, h26, q7, if_true, if_false, zaa, reduceIte, F3]
 rw [e]
 rfl
 refine Gv s8 fun i34 H s35 => ?_
 have hR : (B.extract yq7.toNat (yq7 + nq7).toNat).size ≤ 340 := by rw [zap]; omega
 have hbd := Amg (Ax B 0) (B.extract yq7.toNat (yq7 + nq7).toNat) hR
 have hyp := hbd.hyp (by decide)
 refine Lf s35 rfl (.cons .sc (.cons .ro .nil)) (Al3 (n + 5) (by omega) (Ax B 0) (B.extract yq7.toNat (yq7 + nq7).toNat) (by omega) (by omega)) ⟨_, rfl, rfl⟩ (Ie _) ?_
 rintro _ _ H ⟨x36, x37, x38, x39, x40, x41, lx36, lx37, lx38, lx39, lx40, lx41, rfl, rfl⟩ s42
 simp only [zai, zaq] at s42
 refine Cd (cs' := [si ((C9 (Ax B 0) (B.extract yq7.toNat (yq7 + nq7).toNat)).fType), .sc (.bool (C9 (Ax B 0) (B.extract yq7.toNat (yq7 + nq7).toNat)).fDup), si ((C9 (Ax B 0) (B.extract yq7.toNat (yq7 + nq7).toNat)).fQos), .sc (.bool (C9 (Ax B 0) (B.extract yq7.toNat (yq7 + nq7).toNat)).fRetain), si ((C9 (Ax B 0) (B.extract yq7.toNat (yq7 + nq7).toNat)).fId), ss ((C9 (Ax B 0) (B.extract yq7.toNat (yq7 + nq7).toNat)).fTopic), x36, ss ((C9 (Ax B 0) (B.extract yq7.toNat (yq7 + nq7).toNat)).fClient), si ((C9 (Ax B 0) (B.extract yq7.toNat (yq7 + nq7).toNat)).fLevel), .sc (.bool (C9 (Ax B 0) (B.extract yq7.toNat (yq7 + nq7).toNat)).fClean), si ((C9 (Ax B 0) (B.extract yq7.toNat (yq7 + nq7).toNat)).fKeep), .sc (.bool (C9 (Ax B 0) (B.extract yq7.toNat (yq7 + nq7).toNat)).fHasWill), ss ((C9 (Ax B 0) (B.extract yq7.toNat (yq7 + nq7).toNat)).fWTopic), x37, si ((C9 (Ax B 0) (B.extract yq7.toNat (yq7 + nq7).toNat)).fWQos), .sc (.bool (C9 (Ax B 0) (B.extract yq7.toNat (yq7 + nq7).toNat)).fWRetain), .sc (.bool (C9 (Ax B 0) (B.extract yq7.toNat (yq7 + nq7).toNat)).fHasUser), ss ((C9 (Ax B 0) (B.extract yq7.toNat (yq7 + nq7).toNat)).fUser), .sc (.bool (C9 (Ax B 0) (B.extract yq7.toNat (yq7 + nq7).toNat)).fHasPass), x38, si ((C9 (Ax B 0) (B.extract yq7.toNat (yq7 + nq7).toNat)).fCode), .sc (.bool (C9 (Ax B 0) (B.extract yq7.toNat (yq7 + nq7).toNat)).fPresent), x39, x40, x41]) s42 Yw (Aj (Aa rfl (Aa rfl (Aa rfl (Aa rfl (Aa rfl (Aa rfl (Aa lx36 (Aa rfl (Aa rfl (Aa rfl (Aa rfl (Aa rfl (Aa rfl (Aa lx37 (Aa rfl (Aa rfl (Aa rfl (Aa rfl (Aa rfl (Aa lx38 (Aa rfl (Aa rfl (Aa lx39 (Aa lx40 (Aa lx41 rfl)))))))))))))))))))))))))) rfl (Cr rfl) rfl fun H s43 => Av s43 (.here) rfl ?_
 refine Bm (v := (.bool (A7 (C9 (Ax B 0) (B.extract yq7.toNat (yq7 + nq7).toNat))))) s43 rfl (.agg (vS6 (.cons (.own (by decide) Yw) (vS6 (.cons (.own (by decide) U5) (vS5 (.cons (.own (by decide) Mm) (S8 (.cons (.own (by decide) Ls) (.cons (.own (by decide) Fy) (.cons (.own (by decide) Cl) .nil)))))))))) .nil) (T0 (n + 2) (by omega) (C9 (Ax B 0) (B.extract yq7.toNat (yq7 + nq7).toNat)) hyp) (Cv (Ac ((A7 (C9 (Ax B 0) (B.extract yq7.toNat (yq7 + nq7).toNat)))) (fun h44 => ?_) fun h44 => ?_))
 refine Ao (nF h44) (Av s43 (.here) rfl (Ao (nF h44) (Ao (nF h44) (Ao (nF h44) (Ao (nF h44) (Bq (by omega) (by omega) (Ao (nF h44) (F7 0 (yq7 + nq7) rfl rfl (by omega) (by omega) (by omega) ?_))))))))
 have z45 := zap (a := B) (b := (0 : Int).toNat) (e := (yq7 + nq7).toNat)
 refine Ao (nF h44) (Bo s43 rfl (.agg (vS6 (.cons (.own (by decide) Yw) (vS6 (.cons (.own (by decide) U5) (vS5 (.cons (.own (by decide) Mm) (S8 (.cons (.own (by decide) Ls) (.cons (.own (by decide) Fy) (.cons (.own (by decide) Cl) .nil)))))))))) .nil) (AbL (n + 1) (by omega) (C9 (Ax B 0) (B.extract yq7.toNat (yq7 + nq7).toNat)) hyp (zaA hbd.b1 (by decide)) (zaA hbd.b2 (by decide)) (zaA hbd.b3 (by decide))) (Ca (Fx (C9 (Ax B 0) (B.extract yq7.toNat (yq7 + nq7).toNat)))) fun x46 H lx46 s47 => Ao (nF h44) (Bm (v := (.bool ((Fx (C9 (Ax B 0) (B.extract yq7.toNat (yq7 + nq7).toNat))).toList == (B.extract (0 : Int).toNat (yq7 + nq7).toNat).toList))) s47 rfl (.cons (.own (by decide) (.here)) (.cons .ro .nil)) (Aat (n + 11) _ (Fx (C9 (Ax B 0) (B.extract yq7.toNat (yq7 + nq7).toNat))) (B.extract (0 : Int).toNat (yq7 + nq7).toNat)) (Ao (nF h44) (Cv (D3 (nF h44) (Ac (((Fx (C9 (Ax B 0) (B.extract yq7.toNat (yq7 + nq7).toNat))).toList == (B.extract (0 : Int).toNat (yq7 + nq7).toNat).toList)) (fun h48 => ?_) fun h48 => ?_))))))
 refine A6 (nF h48) (Av s47 Cl rfl (Bq (by omega) (by omega) (Cd (cs' := [si ((C9 (Ax B 0) (B.extract yq7.toNat (yq7 + nq7).toNat)).fType), .sc (.bool (C9 (Ax B 0) (B.extract yq7.toNat (yq7 + nq7).toNat)).fDup), si ((C9 (Ax B 0) (B.extract yq7.toNat (yq7 + nq7).toNat)).fQos), .sc (.bool (C9 (Ax B 0) (B.extract yq7.toNat (yq7 + nq7).toNat)).fRetain), si ((C9 (Ax B 0) (B.extract yq7.toNat (yq7 + nq7).toNat)).fId), ss ((C9 (Ax B 0) (B.extract yq7.toNat (yq7 + nq7).toNat)).fTopic), x36, ss ((C9 (Ax B 0) (B.extract yq7.toNat (yq7 + nq7).toNat)).fClient), si ((C9 (Ax B 0) (B.extract yq7.toNat (yq7 + nq7).toNat)).fLevel), .sc (.bool (C9 (Ax B 0) (B.extract yq7.toNat (yq7 + nq7).toNat)).fClean), si ((C9 (Ax B 0) (B.extract yq7.toNat (yq7 + nq7).toNat)).fKeep), .sc (.bool (C9 (Ax B 0) (B.extract yq7.toNat (yq7 + nq7).toNat)).fHasWill), ss ((C9 (Ax B 0) (B.extract yq7.toNat (yq7 + nq7).toNat)).fWTopic), x37, si ((C9 (Ax B 0) (B.extract yq7.toNat (yq7 + nq7).toNat)).fWQos), .sc (.bool (C9 (Ax B 0) (B.extract yq7.toNat (yq7 + nq7).toNat)).fWRetain), .sc (.bool (C9 (Ax B 0) (B.extract yq7.toNat (yq7 + nq7).toNat)).fHasUser), ss ((C9 (Ax B 0) (B.extract yq7.toNat (yq7 + nq7).toNat)).fUser), .sc (.bool (C9 (Ax B 0) (B.extract yq7.toNat (yq7 + nq7).toNat)).fHasPass), x38, si ((C9 (Ax B 0) (B.extract yq7.toNat (yq7 + nq7).toNat)).fCode), .sc (.bool (C9 (Ax B 0) (B.extract yq7.toNat (yq7 + nq7).toNat)).fPresent), x39, x40, x41]) s47 zP8 (Aj (Aa rfl (Aa rfl (Aa rfl (Aa rfl (Aa rfl (Aa rfl (Aa lx36 (Aa rfl (Aa rfl (Aa rfl (Aa rfl (Aa rfl (Aa rfl (Aa lx37 (Aa rfl (Aa rfl (Aa rfl (Aa rfl (Aa rfl (Aa lx38 (Aa rfl (Aa rfl (Aa lx39 (Aa lx40 (Aa lx41 rfl)))))))))))))))))))))))))) rfl (Cr rfl) rfl fun H s49 => Av s49 (.here) rfl ?_)))
 refine Al (Bj s49 rfl (.agg ⟨_, rfl, rfl⟩ (Dr (.own zP8 (Dr (.own zP7 (Hi (.own Yw (.sc (.sc (.own U5 (.own Mm (.own Ls .nil))))))))))) (.sc (.sc .nil))) ⟨(Jd ⟨_, rfl, rfl⟩ (Ds ⟨(Bh (Ca ((C9 (Ax B 0) (B.extract yq7.toNat (yq7 + nq7).toNat)).fBody)) (by decide)), (Ds ⟨(Bh (Ca ((C9 (Ax B 0) (B.extract yq7.toNat (yq7 + nq7).toNat)).fWBody)) (by decide)), (Hk ⟨(Bh (Ca ((C9 (Ax B 0) (B.extract yq7.toNat (yq7 + nq7).toNat)).fPass)) (by decide)), (E8 ⟨(Bh (Lj ((C9 (Ax B 0) (B.extract yq7.toNat (yq7 + nq7).toNat)).fWants)) (by decide)), ⟨(Bh (Xh ((C9 (Ax B 0) (B.extract yq7.toNat (yq7 + nq7).toNat)).fNames)) (by decide)), ⟨(Bh (Aay ((C9 (Ax B 0) (B.extract yq7.toNat (yq7 + nq7).toNat)).fCodes)) (by decide)), trivial⟩⟩⟩)⟩)⟩)⟩)), (E8 trivial)⟩) ?_
 have e : Er C9 B = ((C9 (Ax B 0) (B.extract yq7.toNat (yq7 + nq7).toNat)), (yq7 + nq7), 0) := by
  unfold Er D9 D8; simp only [h3, h6, h9, h10, h12, h44, h48, q7, if_true, if_false, zaa, reduceIte, F3]
 rw [e]
 rfl
 refine Au (nT h48) (Aw (cs := Ed) rfl (Cd (cs' := Ed) s47 zP8 (Aj rfl) rfl (Cr rfl) rfl fun H s50 => Av s50 (.here) rfl (Al (Bj s50 rfl (.agg ⟨_, rfl, rfl⟩ (Dr (.nl (Dr (.nl (Hi (.nl (.sc (.sc (.nl (.nl (.nl .nil))))))))))) (.sc (.sc .nil))) ⟨(Jd ⟨_, rfl, rfl⟩ (Ds ⟨A3, (Ds ⟨A3, (Hk ⟨A3, (E8 ⟨A3, ⟨A3, ⟨A3, trivial⟩⟩⟩)⟩)⟩)⟩)), (E8 trivial)⟩) ?_)))
 have e : Er C9 B = ((Cn 0), 0, 2) := by
  unfold Er D9 D8; simp only [h3, h6, h9, h10, h12, h44, h48, q7, if_true, if_false, zaa, reduceIte, F3]
 rw [e]
 rfl
 refine Am (nT h44) (Am (nT h44) (Am (nT h44) (Am (nT h44) (Am (nT h44) (Am (nT h44) (Am (nT h44) (Am (nT h44) (Am (nT h44) (D7 (nT h44) (Au rfl (Aw (cs := Ed) rfl (Cd (cs' := Ed) s43 zP7 (Aj rfl) rfl (Cr rfl) rfl fun H s51 => Av s51 (.here) rfl (Al (Bj s51 rfl (.agg ⟨_, rfl, rfl⟩ (Dr (.nl (Dr (.nl (Hi (.nl (.sc (.sc (.nl (.nl (.nl .nil))))))))))) (.sc (.sc .nil))) ⟨(Jd ⟨_, rfl, rfl⟩ (Ds ⟨A3, (Ds ⟨A3, (Hk ⟨A3, (E8 ⟨A3, ⟨A3, ⟨A3, trivial⟩⟩⟩)⟩)⟩)⟩)), (E8 trivial)⟩) ?_)))))))))))))
 have e : Er C9 B = ((Cn 0), 0, 2) := by
  unfold Er D9 D8; simp only [h3, h6, h9, h10, h12, h44, q7, if_true, if_false, zaa, reduceIte, F3]
 rw [e]
 rfl
 have dh9 := of_decide_eq_false h9
 refine Au (nT h9) (Aw (cs := Ed) rfl (Cd (cs' := Ed) s8 (.here) (Aj rfl) rfl (Cr rfl) rfl fun H s52 => Av s52 (.here) rfl (Al (Bj s52 rfl (.agg ⟨_, rfl, rfl⟩ (Dr (.nl (Dr (.nl (Hi (.nl (.sc (.sc (.nl (.nl (.nl .nil))))))))))) (.sc (.sc .nil))) ⟨(Jd ⟨_, rfl, rfl⟩ (Ds ⟨A3, (Ds ⟨A3, (Hk ⟨A3, (E8 ⟨A3, ⟨A3, ⟨A3, trivial⟩⟩⟩)⟩)⟩)⟩)), (E8 trivial)⟩) ?_)))
 have e : Er C9 B = ((Cn 0), 0, cq7) := by
  unfold Er D9 D8; simp only [h3, h6, h9, q7, if_true, if_false, zaa, reduceIte, F3]
 rw [e]
 rfl
 refine Au (nT h6) (Aw (cs := Ed) rfl (Cd (cs' := Ed) s2 (.here) (Aj rfl) rfl (Cr rfl) rfl fun H s53 => Av s53 (.here) rfl (Al (Bj s53 rfl (.agg ⟨_, rfl, rfl⟩ (Dr (.nl (Dr (.nl (Hi (.nl (.sc (.sc (.nl (.nl (.nl .nil))))))))))) (.sc (.sc .nil))) ⟨(Jd ⟨_, rfl, rfl⟩ (Ds ⟨A3, (Ds ⟨A3, (Hk ⟨A3, (E8 ⟨A3, ⟨A3, ⟨A3, trivial⟩⟩⟩)⟩)⟩)⟩)), (E8 trivial)⟩) ?_)))
 have e : Er C9 B = ((Cn 0), 0, 2) := by
  unfold Er D9 D8; simp only [h3, h6, if_true, if_false, zaa, reduceIte, F3]
 rw [e]
 rfl
end
section
open Go
theorem AkI {p : PacketV} (h : A7 p = true) (h1 : 4 ≤ p.fType) (h2 : p.fType ≤ 11) : 1 ≤ p.fId ∧ p.fId ≤ 65535 := by
 obtain ⟨_, _, hk⟩ := Fk h
 unfold Fw at hk
 rw [if_neg (by omega), if_neg (by omega), if_neg (by omega)] at hk
 by_cases h4 : p.fType = 4 ∨ p.fType = 5 ∨ p.fType = 6 ∨ p.fType = 7 ∨ p.fType = 11
 rwa [if_pos h4, G0] at hk
 rw [if_neg h4, if_pos (by omega)] at hk
 simp only [zag, G0] at hk
 exact hk.1
theorem Ro {p : PacketV} (h : A7 p = true) (h1 : p.fType = 8 ∨ p.fType = 9 ∨ p.fType = 10) : (∀ w ∈ p.fWants, Bv w.fFilter = true ∧ 0 ≤ w.fQos ∧ w.fQos < 256) ∧ (∀ w ∈ p.fNames, Bv w = true) ∧ (∀ c ∈ p.fCodes, 0 ≤ c ∧ c < 256) ∧ p.fWants.length + p.fNames.length + p.fCodes.length ≤ 4 := by
 obtain ⟨_, _, hk⟩ := Fk h
 unfold Fw at hk
 rw [if_neg (by omega), if_neg (by omega), if_neg (by omega), if_neg (by omega), if_pos h1] at hk
 unfold Ku Jb J3 Ge at hk
 simp only [zag, G0, za9] at hk
 obtain ⟨_, k1, k2, k3, k4⟩ := hk
 refine ⟨fun w hw => ?_, fun w hw => Ue (k2 w hw), fun c hc => ?_, by omega⟩
 have := k1 w hw
 unfold C4 at this
 rw [zag, G0] at this
 exact ⟨Ue this.1, by omega, by omega⟩
 have := k3 c hc
 unfold Cw at this
 rw [zaK, G0, decide_eq_true_eq] at this
 omega
theorem AdI {p : PacketV} (h : A7 p = true) (h1 : 4 ≤ p.fType) (h2 : p.fType ≤ 11) : p = { Cn p.fType with fId := p.fId, fWants := p.fWants, fCodes := p.fCodes, fNames := p.fNames } := by
 obtain ⟨_, hn, _⟩ := Fk h
 obtain ⟨_, _, _, _, _, k6, k7, k8⟩ := Kr h
 unfold Db at hn
 rw [if_neg (by omega), if_neg (by omega), if_neg (by omega)] at hn
 split at hn
 rw [k6 (by omega), k7 (by omega), k8 (by omega)]
 exact hn
 split at hn
 rw [k7 (by omega), k8 (by omega)]
 exact hn
 split at hn
 rw [k6 (by omega), k8 (by omega)]
 exact hn
 split at hn
 rw [k6 (by omega), k7 (by omega)]
 exact hn
 omega
theorem AcS {p : PacketV} (h : A7 p = true) (h1 : 4 ≤ p.fType) (h2 : p.fType ≤ 11) : Dc (Ci p) (B7 p) = p ∧ C9 (Ci p) (B7 p) = p := by
 have hid := AkI h h1 h2
 have ht := (Sa h).2
 have hz := AdI h h1 h2
 obtain ⟨_, _, _, _, _, k6, k7, k8⟩ := Kr h
 have er : B7 p = Hs p (Ai bs0 p.fId) := by
  unfold B7
  rw [if_neg (by omega), if_neg (by omega), if_neg (by omega), if_neg (by omega)]
 have hbl : bl (B7 p) = M3 p.fId ++ ((p.fWants.map Kv).flatten ++ ((p.fCodes.map fun c => u8 (c % 256)) ++ (p.fNames.map Gm).flatten)) ∧ ∀ f a, f = p.fWants.length + p.fNames.length + p.fCodes.length + 1 → Sf (B7 p) a ((p.fWants.map Kv).flatten ++ ((p.fCodes.map fun c => u8 (c % 256)) ++ (p.fNames.map Gm).flatten)) → (∀ g, f ≤ g → B3 p.fType (B7 p) g (a, false) [] [] [] = (p.fWants, p.fCodes, p.fNames)) ∧ (∀ g, f ≤ g → Cs p.fType (B7 p) g a [] [] = some (p.fWants, p.fNames)) ∧ ∀ g, f ≤ g → (if p.fType = 9 then Gc (B7 p) g a [] else []) = p.fCodes := by
  have hb0 : bl (Ai bs0 p.fId) = M3 p.fId := by
   rw [R0]
   rfl
  by_cases h8 : p.fType = 8 ∨ p.fType = 9 ∨ p.fType = 10
  obtain ⟨l1, l2, l3, l4⟩ := Ro h h8
  refine ⟨?_, fun f a hf s => ?_⟩
  rw [er]
  unfold Hs
  rw [Vs _ _ l2, Vr, Vt _ _ fun w hw => (l1 w hw).1, hb0]
  simp only [zaf]
  rcases h8 with h8 | h8 | h8
  rw [k7 (by omega), k8 (by omega)] at s ⊢
  simp only [zaO, zbA, zam] at s
  rw [h8]
  refine ⟨fun g hg => ?_, fun g hg => ?_, fun g hg => by rw [if_neg (by decide)]⟩
  exact Apm p.fWants [] g a s l1 (by simp only [zax]; omega) (by omega)
  exact Apo p.fWants [] g a s l1 (by omega)
  rw [k6 (by omega), k8 (by omega)] at s ⊢
  simp only [zaO, zbA, zam, zai] at s
  rw [h8]
  refine ⟨fun g hg => ?_, fun g hg => ?_, fun g hg => ?_⟩
  exact Apn p.fCodes [] g a s l3 (by simp only [zax]; omega) (by omega)
  obtain ⟨g, rfl⟩ : ∃ k, g = k + 1 := ⟨g - 1, by omega⟩
  exact Sz (.inr (by decide))
  rw [if_pos rfl]
  exact rdC p.fCodes [] g a s l3 (by omega)
  rw [k6 (by omega), k7 (by omega)] at s ⊢
  simp only [zaO, zbA, zam, zai] at s
  rw [h8]
  refine ⟨fun g hg => ?_, fun g hg => ?_, fun g hg => by rw [if_neg (by decide)]⟩
  exact Ame p.fNames [] g a s l2 (by simp only [zax]; omega) (by omega)
  exact Amf p.fNames [] g a s l2 (by omega)
  have e6 := k6 (by omega)
  have e7 := k7 (by omega)
  have e8 := k8 (by omega)
  refine ⟨?_, fun f a hf s => ?_⟩
  rw [er, AbO e6 e7 e8, hb0, e6, e7, e8]
  simp
  rw [e6, e7, e8] at s ⊢
  simp only [zaO, zbA, zam] at s
  refine ⟨fun g hg => ?_, fun g hg => ?_, fun g hg => by rw [if_neg (by omega)]⟩
  obtain ⟨g, rfl⟩ : ∃ k, g = k + 1 := ⟨g - 1, by omega⟩
  exact Vh s
  obtain ⟨g, rfl⟩ : ∃ k, g = k + 1 := ⟨g - 1, by omega⟩
  exact Sz (.inr (by omega))
 obtain ⟨hb, hl⟩ := hbl
 have s0 := X6 _ hb
 have e0 := X7 s0 (by omega) (by omega)
 obtain ⟨k0, s1⟩ := Q1 s0 (by omega) (by omega)
 obtain ⟨q1, q2, q3⟩ := hl _ _ rfl s1
 have hsz : p.fWants.length + p.fNames.length + p.fCodes.length + 1 ≤ (B7 p).size + 1 ∧ p.fWants.length + p.fNames.length + p.fCodes.length + 1 ≤ 8 := by
  by_cases h8 : p.fType = 8 ∨ p.fType = 9 ∨ p.fType = 10
  obtain ⟨l1, l2, l3, l4⟩ := Ro h h8
  have hl := s1.len
  have f1 : ∀ l : List WantV, l.length ≤ ((l.map Kv).flatten).length := fun l => by
   induction l with
   | nil => simp
   | cons w l ih =>
    rw [zat, za3, zae]
    have : 1 ≤ (Kv w).length := by simp [Kv]
    simp only [zan]
    omega
  have f2 : ∀ l : List ByteArray, l.length ≤ ((l.map Gm).flatten).length := fun l => by
   induction l with
   | nil => simp
   | cons w l ih =>
    rw [zat, za3, zae]
    have : 1 ≤ (Gm w).length := by simp [Gm, M3]
    simp only [zan]
    omega
  have g1 := f1 p.fWants
  have g2 := f2 p.fNames
  simp only [zae, zbQ] at hl
  omega
  rw [k6 (by omega), k7 (by omega), k8 (by omega)]
  simp
 constructor
 unfold Dc
 dsimp only
 rw [ht, if_neg (by omega), if_neg (by omega), if_neg (by omega), if_neg (by omega), e0]
 dsimp only
 rw [q1 8 hsz.2]
 exact hz.symm
 unfold C9
 rw [ht, if_neg (by omega), if_neg (by omega), if_neg (by omega), if_pos (by omega), k0]
 unfold Fm
 dsimp only
 rw [if_neg (by simp), q3 _ hsz.1, q2 _ hsz.1]
 exact hz.symm
theorem AnO {p : PacketV} (h : A7 p = true) : Dc (Ci p) (B7 p) = p ∧ C9 (Ci p) (B7 p) = p := by
 have ht := (Il h).ty
 have hf := (Sa h).2
 by_cases h1 : p.fType = 1
 have e : B7 p = Ep p := by unfold B7; rw [if_pos h1]
 rw [e]
 unfold Dc C9
 dsimp only
 rw [hf, h1, if_pos rfl, if_pos rfl]
 exact Alf h h1
 by_cases h2 : p.fType = 2
 have e : B7 p = Ay (Ay bs0 (A0 p.fPresent 1 % 256)) (p.fCode % 256) := by unfold B7; rw [if_neg h1, if_pos h2]
 obtain ⟨a, b, c⟩ := AnM h h2 e
 unfold Dc C9
 dsimp only
 rw [hf, h2, if_neg (by decide), if_pos rfl, if_neg (by decide), if_pos ⟨rfl, b⟩]
 exact ⟨a, c⟩
 by_cases h3 : p.fType = 3
 have e : B7 p = Gf p := by unfold B7; rw [if_neg h1, if_neg h2, if_pos h3]
 rw [e]
 exact AnN h h3
 by_cases h4 : p.fType ≤ 11
 exact AcS h (by omega) h4
 have e : B7 p = bs0 := by unfold B7; rw [if_neg h1, if_neg h2, if_neg h3, if_pos (by omega)]
 have hz : p = Cn p.fType := by
  obtain ⟨_, hn, _⟩ := Fk h
  unfold Db at hn
  rw [if_neg h1, if_neg h2, if_neg h3, if_neg (by omega), if_neg (by omega), if_neg (by omega), if_neg (by omega)] at hn
  exact hn
 unfold Dc C9
 dsimp only
 rw [hf, e, if_neg h1, if_neg h2, if_neg h3, if_pos (by omega), if_neg h1, if_neg (by omega), if_neg h3, if_neg (by omega)]
 unfold Fm
 dsimp only
 rw [if_neg (by simp), if_neg (by omega), Sz (.inr (by omega))]
 exact ⟨hz.symm, hz.symm⟩
theorem AkM {B : ByteArray} {a m : Int} (ha : 0 ≤ a) (hm : 0 ≤ m ∧ m < 128) (hb : Ax B a = m) (hs : a < ((B.size : Nat) : Int)) : B6 B a = (m, a + 1, 0) := by
 unfold B6
 rw [if_neg (by omega), De, Int.add_zero, if_neg (by omega), hb, if_pos hm.2, if_neg (by omega), Pg hm.1 (by omega)]
 have e : bits .or .i64 0 (m % 128 * 2 ^ (7 * (0 : Int)).toNat) = m := by
  rw [show m % 128 * 2 ^ (7 * (0 : Int)).toNat = m by simp; omega, Vg 7 0 m (by decide) (by decide) (by decide) (by omega) (by omega) (by omega)]
  omega
 rw [e]
theorem AkN {B : ByteArray} {a m : Int} (ha : 0 ≤ a) (hm : 128 ≤ m ∧ m < 16384) (hb : Ax B a = m % 128 + 128) (hb2 : Ax B (a + 1) = m / 128) (hs : a + 1 < ((B.size : Nat) : Int)) : B6 B a = (m, a + 2, 0) := by
 unfold B6
 rw [if_neg (by omega), De, Int.add_zero, if_neg (by omega), hb, if_neg (by omega), Pg (by omega) (by omega)]
 have e : bits .or .i64 0 ((m % 128 + 128) % 128 * 2 ^ (7 * (0 : Int)).toNat) = m % 128 := by
  rw [show (m % 128 + 128) % 128 * 2 ^ (7 * (0 : Int)).toNat = m % 128 by simp, Vg 7 0 (m % 128) (by decide) (by decide) (by decide) (by omega) (by omega) (by omega)]
  omega
 rw [e, Int.zero_add, De, if_neg (by omega), hb2, if_pos (by omega), if_neg (by omega), Pg (by omega) (by omega)]
 have e2 : bits .or .i64 (m % 128) (m / 128 % 128 * 2 ^ (7 * (1 : Int)).toNat) = m := by
  rw [show m / 128 % 128 * 2 ^ (7 * (1 : Int)).toNat = m / 128 * 128 by
   have : m / 128 % 128 = m / 128 := by omega
   rw [this]
   rfl, AnI 7 (m / 128 * 128) (m % 128) (by omega) (by omega) (by omega) (by omega) (by omega) (by omega)]
  omega
 rw [e2, Int.add_assoc]
 rfl
theorem Abu (B : ByteArray) (a : Int) : ∀ (f : Nat) (i z : Int), (De B a f i z).2.2 = 0 → (De B a f i z).2.1 ≤ a + i + f
 | 0, i, z, h => by simp [De] at h
 | f + 1, i, z, h => by
  rw [De] at h ⊢
  split at h
  simp at h
  rename_i h2
  rw [if_neg h2]
  split at h
  rename_i h3
  rw [if_pos h3]
  split at h
  simp at h
  rename_i h4
  rw [if_neg h4]
  show a + i + 1 ≤ _
  omega
  rename_i h3
  rw [if_neg h3]
  have := Abu B a f (i + 1) _ h
  omega
theorem Ru {B : ByteArray} {a n x : Int} (h : B6 B a = (n, x, 0)) : x ≤ a + 4 := by
 unfold B6 at h
 split at h
 cases h
 have := Abu B a 4 0 0 (by rw [h])
 rw [h] at this
 simpa using this
theorem Yz {b : ByteArray} {m : Int} (h0 : 0 ≤ m) (h1 : m < 16384) : bl (C0 b m) = bl b ++ (if m < 128 then [u8 m] else [u8 (m % 128 + 128), u8 (m / 128)]) := by
 unfold C0
 rw [if_pos (by rw [G0]; omega)]
 unfold K5
 split
 unfold K5
 rw [if_neg (by omega), if_neg (by omega), I6, I6, zaf, show (m % 128 + 128) % 256 = m % 128 + 128 by omega, show m / 128 % 256 = m / 128 by omega]
 rfl
 rw [if_pos (by omega), I6, show m % 256 = m by omega]
theorem AbC (p : PacketV) : (B7 p).size ≤ (Is p).size := by
 unfold Is
 rw [zah]
 omega
theorem frame {p : PacketV} (h : A7 p = true) {B : ByteArray} {m : Int} (hm : m = (((B7 p).size : Nat) : Int)) (hm2 : m < 16384) {r : List UInt8} (hB : bl B = bl (Is p) ++ r) : Ax B 0 = Ci p ∧ ∃ k, B6 B 1 = (m, k, 0) ∧ k + m = (((Is p).size : Nat) : Int) ∧ (1 ≤ k ∧ k + m ≤ ((B.size : Nat) : Int)) ∧ B.extract k.toNat (k + m).toNat = B7 p := by
 obtain ⟨hf, _⟩ := Sa h
 have hsz : (Is p).size + r.length = B.size := by
  rw [← G1 B, hB, zae, G1]
 have e : bl (Is p) = u8 (Ci p) :: ((if m < 128 then [u8 m] else [u8 (m % 128 + 128), u8 (m / 128)]) ++ bl (B7 p)) := by
  unfold Is
  rw [Z6, ← hm, Yz (by omega) hm2, I6, show Ci p % 256 = Ci p by omega]
  simp only [zaf]
  rfl
 have s0 := X6 B hB
 rw [e] at s0
 obtain ⟨b0, _, s1⟩ := Sf.head s0
 rw [Ln hf.1 hf.2] at b0
 have el := congrArg List.length e
 rw [G1] at el
 refine ⟨b0, ?_⟩
 have cut : ∀ (k : Int) , Sf B k (bl (B7 p) ++ r) → B.extract k.toNat (k + m).toNat = B7 p := fun k s => by
  apply Acd
  rw [Z7, s.2.2]
  have := s.1
  rw [show (k + m).toNat - k.toNat = (bl (B7 p)).length by rw [G1]; omega, List.take_left]
 by_cases h1 : m < 128
 rw [if_pos h1] at s1 el
 obtain ⟨b1, l1, s2⟩ := Sf.head s1
 rw [Ln (by omega) (by omega)] at b1
 simp only [zan, zae, zax, G1] at el
 exact ⟨2, AkM (by omega) (by omega) b1 l1, by omega, by omega, cut 2 s2⟩
 rw [if_neg h1] at s1 el
 obtain ⟨b1, l1, s2⟩ := Sf.head s1
 obtain ⟨b2, l2, s3⟩ := Sf.head s2
 rw [Ln (by omega) (by omega)] at b1 b2
 simp only [zan, zae, zax, G1] at el
 exact ⟨3, AkN (by omega) (by omega) b1 b2 l2, by omega, by omega, cut 3 s3⟩
theorem AiE {p : PacketV} (h : A7 p = true) : Fx p = Is p := by
 unfold Fx
 rw [if_pos h]
theorem Ak8 {B : ByteArray} {n a : Int} (hg : B6 B 1 = (n, a, 0)) (hn : 0 ≤ n ∧ n ≤ 340) (ha : 1 ≤ a) (hs : a + n ≤ ((B.size : Nat) : Int)) {p : PacketV} (h : A7 p = true) (hp : ((Fx p).toList == (B.extract (0 : Int).toNat (a + n).toNat).toList) = true) : Dc (Ax B 0) (B.extract a.toNat (a + n).toNat) = p ∧ C9 (Ax B 0) (B.extract a.toNat (a + n).toNat) = p := by
 have e := Ph hp
 rw [AiE h] at e
 have hat := Ru hg
 have e2 : bl (Is p) = (bl B).take (a + n).toNat := by
  rw [e, Z7]
  simp
 have hsz : (Is p).size = (a + n).toNat := by
  rw [← G1, e2, zbc, G1]
  omega
 have hle := AbC p
 have hB : bl B = bl (Is p) ++ (bl B).drop (a + n).toNat := by
  rw [e2, zaV]
 obtain ⟨b0, k, g, g2, g3, g4⟩ := frame h rfl (by omega) hB
 rw [hg] at g
 cases g
 rw [b0, g4]
 exact AnO h
theorem An7 (B : ByteArray) : Er C9 B = Er Dc B := by
 unfold Er
 split
 rfl
 split
 rfl
 obtain ⟨n, a, c, e⟩ : ∃ n a c, B6 B 1 = (n, a, c) := ⟨_, _, _, rfl⟩
 have hb := Mi (B := B) (a := 1)
 rw [e] at hb ⊢
 dsimp only at hb
 unfold D9
 dsimp only
 split
 rfl
 rename_i hc
 have hc : c = 0 := by simpa using hc
 subst hc
 split
 rfl
 rename_i hn
 simp only [decide_eq_true_eq, Int.not_lt] at hn
 split
 rfl
 rename_i hs
 simp only [decide_eq_true_eq, Int.not_lt] at hs
 have hb := hb rfl
 have key : ∀ p, A7 p = true → ((Fx p).toList == (B.extract (0 : Int).toNat (a + n).toNat).toList) = true → _ := fun p h hp => Ak8 e (by omega) (by omega) (by omega) h hp
 unfold D8
 generalize hI : Dc (Ax B 0) (B.extract a.toNat (a + n).toNat) = x at key ⊢
 generalize hS : C9 (Ax B 0) (B.extract a.toNat (a + n).toNat) = y at key ⊢
 by_cases g1 : A7 x = true ∧ ((Fx x).toList == (B.extract (0 : Int).toNat (a + n).toNat).toList) = true
 have := (key x g1.1 g1.2).2
 rw [this]
 by_cases g2 : A7 y = true ∧ ((Fx y).toList == (B.extract (0 : Int).toNat (a + n).toNat).toList) = true
 have := (key y g2.1 g2.2).1
 rw [this]
 rw [if_pos, if_pos]
 simp only [zaK, Bool.not_eq_true', ← Bool.not_eq_true]
 by_cases k : A7 x = true
 exact .inr fun hq => g1 ⟨k, hq⟩
 exact .inl k
 simp only [zaK, Bool.not_eq_true', ← Bool.not_eq_true]
 by_cases k : A7 y = true
 exact .inr fun hq => g2 ⟨k, hq⟩
 exact .inl k
abbrev Z1 (B : ByteArray) : PacketV × Int × Int := Er Dc B
def Ad (B : ByteArray) : PacketV := (Z1 B).1
def Kt (B : ByteArray) : Int := (Z1 B).2.1
def G6 (B : ByteArray) : Int := (Z1 B).2.2
theorem AbK (n : Nat) (hn : 1048576 < n) (x0 : ByteArray) (b0 : x0.size ≤ 2097152) : Cb E0 (n + 13) 60 31 [Ae x0] = some (.tup [.agg (Ag (Ad x0)), .sc (.int .i64 (Kt x0)), .sc (.int .i64 (G6 x0))]) := by
 have h := AiO n hn x0 b0
 rw [An7] at h
 exact h
theorem Abn (n : Nat) (hn : 1048576 < n) (x0 : ByteArray) (b0 : x0.size ≤ 2097152) : Cb E0 (n + 13) 60 33 [Ae x0] = some (.tup [.agg (Ag (Ad x0)), .sc (.int .i64 (Kt x0)), .sc (.int .i64 (G6 x0))]) := Aij n hn x0 b0
end
section
open Go
theorem AbU : ∀ l : List WantV, Pa It l ≤ ((l.map Kv).flatten).length
 | [] => zay _
 | w :: l => by
  have := AbU l
  have e : It w = w.fFilter.size + 0 := rfl
  rw [Pa, zat, za3, zae, e]
  have : (Kv w).length = w.fFilter.size + 3 := by simp [Kv, Gm, M3, G1]; try omega
  omega
theorem Aby : ∀ l : List ByteArray, Pa zbx l ≤ ((l.map Gm).flatten).length
 | [] => zay _
 | w :: l => by
  have := Aby l
  rw [Pa, zat, za3, zae]
  have : (Gm w).length = w.size + 2 := by simp [Gm, M3, G1]; try omega
  omega
theorem Xx (c : Bool) (l : List UInt8) (k : Nat) (h : c = true → k ≤ l.length) (h0 : c = false → k = 0) : k ≤ (H9 c l).length := by
 cases c
 rw [h0 rfl]; exact zay _
 exact h rfl
theorem R2 (s : ByteArray) : (Gm s).length = s.size + 2 := by simp [Gm, M3, G1]; try omega
theorem Al0 {p : PacketV} (h : A7 p = true) : Cf p ≤ (B7 p).size := by
 have ht := (Il h).ty
 by_cases h1 : p.fType = 1
 have e : B7 p = Ep p := by unfold B7; rw [if_pos h1]
 obtain ⟨⟨c1, c2, c3, c4⟩, _⟩ := Rf h h1
 obtain ⟨z0, z1, z2, z3⟩ := Aab h h1
 have el := congrArg List.length (Adl c1 c2 c3 c4)
 rw [G1, ← e] at el
 have p1 := Xx p.fHasWill (Gm p.fWTopic ++ Gm p.fWBody) (p.fWTopic.size + p.fWBody.size) (fun _ => by rw [zae, R2, R2]; omega) (fun k => by rw [(z1 k).1, (z1 k).2.1]; rfl)
 have p2 := Xx p.fHasUser (Gm p.fUser) p.fUser.size (fun _ => by rw [R2]; omega) (fun k => by rw [(z2 k).1]; rfl)
 have p3 := Xx p.fHasPass (Gm p.fPass) p.fPass.size (fun _ => by rw [R2]; omega) (fun k => by rw [z3 k]; rfl)
 simp only [zae, zan, R2] at el
 have : Cf p = p.fClient.size + (p.fWTopic.size + (p.fWBody.size + (p.fUser.size + p.fPass.size))) := by
  rw [z0]
  simp [Cf, Cn, Pa, Az]
  try omega
 omega
 by_cases h2 : p.fType = 2
 have : Cf p = 0 := by
  obtain ⟨_, hn, _⟩ := Fk h
  unfold Db at hn
  rw [if_neg h1, if_pos h2] at hn
  rw [hn]
  rfl
 omega
 by_cases h3 : p.fType = 3
 have e : B7 p = Gf p := by unfold B7; rw [if_neg h1, if_neg h2, if_pos h3]
 obtain ⟨_, hn, hk⟩ := Fk h
 unfold Fw at hk
 rw [if_neg (by omega), if_neg (by omega), if_pos h3] at hk
 simp only [zag] at hk
 have hT := Rt hk.2.1
 have : Cf p = p.fTopic.size + p.fBody.size := by
  have e2 := congrArg Cf hn
  unfold Db at e2
  rw [if_neg h1, if_neg h2, if_pos h3] at e2
  split at e2 <;> (rw [e2]; simp [Cf, Cn, Pa, Az])
 rw [e]
 unfold Gf Ah
 rw [if_pos hT, zah]
 split
 rw [An, zah]
 omega
 rw [zah]
 omega
 by_cases h4 : p.fType ≤ 11
 have hz := AdI h (by omega) h4
 obtain ⟨_, _, _, _, _, k6, k7, k8⟩ := Kr h
 have w : Cf p = Pa It p.fWants + (Pa zbx p.fNames + p.fCodes.length) := by
  rw [hz]
  simp [Cf, Cn, Az]
 by_cases h8 : p.fType = 8 ∨ p.fType = 9 ∨ p.fType = 10
 obtain ⟨l1, l2, l3, l4⟩ := Ro h h8
 have er : B7 p = Hs p (Ai bs0 p.fId) := by
  unfold B7
  rw [if_neg (by omega), if_neg (by omega), if_neg (by omega), if_neg (by omega)]
 have el : bl (B7 p) = bl (Ai bs0 p.fId) ++ (p.fWants.map Kv).flatten ++ (p.fCodes.map fun c => u8 (c % 256)) ++ (p.fNames.map Gm).flatten := by
  rw [er]
  unfold Hs
  rw [Vs _ _ l2, Vr, Vt _ _ fun w hw => (l1 w hw).1]
 have el := congrArg List.length el
 rw [G1] at el
 simp only [zae, zbQ] at el
 have a1 := AbU p.fWants
 have a2 := Aby p.fNames
 omega
 rw [w, k6 (by omega), k7 (by omega), k8 (by omega)]
 exact zay _
 have : Cf p = 0 := by
  obtain ⟨_, hn, _⟩ := Fk h
  unfold Db at hn
  rw [if_neg h1, if_neg h2, if_neg h3, if_neg (by omega), if_neg (by omega), if_neg (by omega), if_neg (by omega)] at hn
  rw [hn]
  rfl
 omega
theorem Aid {B : ByteArray} (h : G6 B = 0) : ∃ n a, B6 B 1 = (n, a, 0) ∧ (0 ≤ n ∧ n ≤ 340) ∧ 1 ≤ a ∧ a + n ≤ ((B.size : Nat) : Int) ∧ Kt B = a + n ∧ A7 (Ad B) = true ∧ Fx (Ad B) = B.extract (0 : Int).toNat (a + n).toNat := by
 unfold G6 Kt Ad Z1 Er at *
 split at h
 cases h
 rename_i g1
 rw [if_neg g1]
 split at h
 cases h
 rename_i g2
 rw [if_neg g2]
 obtain ⟨n, a, c, e⟩ : ∃ n a c, B6 B 1 = (n, a, c) := ⟨_, _, _, rfl⟩
 have hb := Mi (B := B) (a := 1)
 rw [e] at hb h ⊢
 dsimp only at hb
 unfold D9 at h ⊢
 dsimp only at h ⊢
 split at h
 rename_i g3
 dsimp only at h
 rw [h] at g3
 cases g3
 rename_i g3
 rw [if_neg g3]
 have hc : c = 0 := by simpa using g3
 subst hc
 split at h
 cases h
 rename_i g4
 rw [if_neg g4]
 simp only [decide_eq_true_eq, Int.not_lt] at g4
 split at h
 cases h
 rename_i g5
 rw [if_neg g5]
 simp only [decide_eq_true_eq, Int.not_lt] at g5
 have hb := hb rfl
 unfold D8 at h ⊢
 split at h
 cases h
 rename_i g6
 rw [if_neg g6]
 simp only [zaK, Bool.not_eq_true', not_or, Bool.not_eq_false] at g6
 exact ⟨n, a, rfl, ⟨by omega, by omega⟩, by omega, by omega, rfl, g6.1, Ph g6.2⟩
theorem Vc {B : ByteArray} (h : G6 B = 0) : (2 ≤ Kt B ∧ Kt B ≤ ((B.size : Nat) : Int) ∧ Kt B ≤ 345) ∧ (((2 + Cf (Ad B) : Nat)) : Int) ≤ Kt B := by
 obtain ⟨n, a, e, hn, ha, hs, hN, hk, hp⟩ := Aid h
 have hw := Al0 hk
 rw [AiE hk] at hp
 have hz := congrArg zbx hp
 have hat := Ru e
 have hle := AbC (Ad B)
 rw [zap] at hz
 have hr : (B7 (Ad B)).size + 2 ≤ (Is (Ad B)).size := by
  unfold Is
  rw [zah]
  have g := congrArg List.length (Yz (b := Ay bs0 (Ci (Ad B) % 256)) (m := (((B7 (Ad B)).size : Nat) : Int)) (by omega) (by omega))
  rw [G1, zae, G1, Aq] at g
  have g2 : 1 ≤ (if (((B7 (Ad B)).size : Nat) : Int) < 128 then [u8 (((B7 (Ad B)).size : Nat) : Int)] else [u8 ((((B7 (Ad B)).size : Nat) : Int) % 128 + 128), u8 ((((B7 (Ad B)).size : Nat) : Int) / 128)]).length := by
   split <;> simp
  omega
 omega
theorem Aic (B : ByteArray) : G6 B = 0 ∨ G6 B = 1 ∨ G6 B = 2 := by
 have hl : ∀ (a : Int) (f : Nat) (i z : Int), (De B a f i z).2.2 = 0 ∨ (De B a f i z).2.2 = 1 ∨ (De B a f i z).2.2 = 2 := fun a f => by
  induction f with
  | zero => intro i z; exact .inr (.inr rfl)
  | succ f ih =>
   intro i z
   rw [De]
   (repeat' split) <;> first | exact .inl rfl | exact .inr (.inl rfl) | exact .inr (.inr rfl) | exact ih _ _
 have hg : (B6 B 1).2.2 = 0 ∨ (B6 B 1).2.2 = 1 ∨ (B6 B 1).2.2 = 2 := by
  unfold B6
  split
  exact .inr (.inr rfl)
  exact hl _ _ _ _
 unfold G6 Z1 Er D9 D8
 (repeat' split) <;> first | exact .inl rfl | exact .inr (.inl rfl) | exact .inr (.inr rfl) | exact hg
theorem W4 (B : ByteArray) (a : Int) : ∀ (f : Nat) (i z : Int), 0 ≤ i → (De B a f i z).2.2 = 1 → ((B.size : Nat) : Int) ≤ a + i + f
 | 0, i, z, _, h => by cases h
 | f + 1, i, z, hi, h => by
  rw [De] at h
  split at h
  omega
  split at h
  split at h <;> cases h
  have := W4 B a f (i + 1) _ (by omega) h
  omega
theorem AaC (B : ByteArray) (a : Int) (ha : 0 ≤ a) (h : (B6 B a).2.2 = 1) : ((B.size : Nat) : Int) ≤ a + 4 := by
 unfold B6 at h
 split at h
 cases h
 have := W4 B a 4 0 0 (by omega) h
 omega
theorem Abk {B : ByteArray} (h : G6 B = 1) : B.size ≤ 345 := by
 unfold G6 Z1 Er at h
 split at h
 rename_i g
 simp only [decide_eq_true_eq] at g
 omega
 split at h
 cases h
 obtain ⟨n, a, c, e⟩ : ∃ n a c, B6 B 1 = (n, a, c) := ⟨_, _, _, rfl⟩
 have hw := AaC B 1 (by omega)
 have hb := Mi (B := B) (a := 1)
 rw [e] at h hw hb
 dsimp only at hw hb
 unfold D9 at h
 dsimp only at h
 split at h
 have := hw h
 omega
 rename_i g3
 have hc : c = 0 := by simpa using g3
 subst hc
 have hat := Ru e
 split at h
 cases h
 rename_i g4
 simp only [decide_eq_true_eq, Int.not_lt] at g4
 split at h
 rename_i g5
 simp only [decide_eq_true_eq] at g5
 omega
 unfold D8 at h
 split at h <;> cases h
def Rw (B : ByteArray) : Nat → Int → List PacketV → List PacketV × Int × Int
 | 0, a, l => (l, 0, a)
 | f + 1, a, l =>
  if a < ((B.size : Nat) : Int) then
   (if G6 (B.extract a.toNat ((B.size : Nat) : Int).toNat) = 0 then Rw B f (a + Kt (B.extract a.toNat ((B.size : Nat) : Int).toNat)) (l ++ [Ad (B.extract a.toNat ((B.size : Nat) : Int).toNat)]) else (l, G6 (B.extract a.toNat ((B.size : Nat) : Int).toNat), a))
  else (l, 0, a)
theorem Pm (B : ByteArray) {a : Int} (h : 0 ≤ a ∧ a ≤ ((B.size : Nat) : Int)) : (((B.extract a.toNat ((B.size : Nat) : Int).toNat).size : Nat) : Int) = ((B.size : Nat) : Int) - a := by
 rw [zap]
 omega
theorem AbW {α : Type} (w : α → Nat) : ∀ (l : List α) (x : α), Pa w (l ++ [x]) = Pa w l + (1 + w x)
 | [], x => by simp [Pa]
 | y :: l, x => by
  rw [zaq, Pa, Pa, AbW w l x]
  omega
theorem AiF (B : ByteArray) : ∀ (f : Nat) (a : Int) (l : List PacketV), (0 ≤ a ∧ a ≤ ((B.size : Nat) : Int)) → 345 * ((Pa Cf l : Nat) : Int) ≤ 344 * a → 345 * Pa Cf (Rw B f a l).1 ≤ 344 * B.size
 | 0, a, l, h, hl => by
  show 345 * Pa Cf l ≤ 344 * B.size
  omega
 | f + 1, a, l, h, hl => by
  rw [Rw]
  split
  split
  rename_i g
  have h2 := Vc g
  rw [Pm B h] at h2
  refine AiF B f _ _ (by omega) ?_
  rw [AbW]
  omega
  show 345 * Pa Cf l ≤ 344 * B.size
  omega
  show 345 * Pa Cf l ≤ 344 * B.size
  omega
theorem Aa6 (B : ByteArray) : ∀ (f : Nat) (a : Int) (l : List PacketV), (0 ≤ a ∧ a ≤ ((B.size : Nat) : Int)) → ((B.size : Nat) : Int) - a < 2 * f → (0 ≤ (Rw B f a l).2.2 ∧ (Rw B f a l).2.2 ≤ ((B.size : Nat) : Int)) ∧ ((Rw B f a l).2.1 = 2 ∨ ((B.size : Nat) : Int) - (Rw B f a l).2.2 ≤ 345)
 | 0, a, l, h, hf => by
  exfalso
  omega
 | f + 1, a, l, h, hf => by
  rw [Rw]
  split
  split
  rename_i g
  have h2 := Vc g
  rw [Pm B h] at h2
  exact Aa6 B f _ _ (by omega) (by omega)
  rename_i g
  refine ⟨h, ?_⟩
  rcases Aic (B.extract a.toNat ((B.size : Nat) : Int).toNat) with k | k | k
  exact absurd k g
  have := Abk k
  have := Pm B h
  right
  show ((B.size : Nat) : Int) - a ≤ 345
  omega
  exact .inl k
  refine ⟨h, .inr ?_⟩
  show ((B.size : Nat) : Int) - a ≤ 345
  omega
def AfL (B : ByteArray) : List PacketV × Int × Int := Rw B (B.size / 2 + 1) 0 []
abbrev Yh (B : ByteArray) : List PacketV := (AfL B).1
abbrev AiW (B : ByteArray) : Int := (AfL B).2.1
abbrev Yi (B : ByteArray) : Int := (AfL B).2.2
theorem Alv (B : ByteArray) : 345 * Pa Cf (Yh B) ≤ 344 * B.size := AiF B _ 0 [] (by omega) (by simp [Pa])
end
section
open Go
theorem AdG (n : Nat) (hn : 1048576 < n) (B : ByteArray) (hB : B.size ≤ 2097152) : ∀ (f m : Nat) (a : Int) (l : List PacketV) (xl : AV) (H : Ab), f ≤ m → ((B.size : Nat) : Int) - a < 2 * f → (0 ≤ a ∧ a ≤ ((B.size : Nat) : Int)) → ((l.length : Nat) : Int) ≤ a → A2 xl = true → Sep H [.own xl 33 (Bl Ag l)] → Gd (· = some (.tup [Bl Ag (Rw B f a l).1, .sc (.int .i64 (Rw B f a l).2.1), .sc (.int .i64 (Rw B f a l).2.2)])) (Tg (PR (n + 13) AV) (n + 13) (fun x H => A4 Ak E0.tp 93 H x) m (Ae B) (xl) (.sc (.int .i64 a)) H)
 | 0, m, a, l, xl, H, hm, hM, h0, h1, lxl, s0 => by
  exfalso
  omega
 | f + 1, m + 1, a, l, xl, H, hm, hM, h0, h1, lxl, s0 => by
  rw [Tg]
  try simp only [Fa, E9]
  refine Dd (Dq (Ac ((decide (a < ((B.size : Nat) : Int)))) (fun h1 => ?_) fun h1 => ?_))
  have dh1 := of_decide_eq_true h1
  refine Au h1 (F7 a ((B.size : Nat) : Int) rfl rfl (by omega) (by omega) (by omega) ?_)
  have z2 := zap (a := B) (b := a.toNat) (e := ((B.size : Nat) : Int).toNat)
  refine Do s0 rfl (.cons .ro .nil) (Abn n (by omega) (B.extract a.toNat ((B.size : Nat) : Int).toNat) (by rw [zap]; omega)) rfl (Vd ⟨_, rfl, rfl⟩ (Ie _) (A1 (A1 C2))) ?_
  rintro _ _ H ⟨_, _, _, _, rfl, rfl, ⟨x3, x4, x5, x6, x7, x8, lx3, lx4, lx5, lx6, lx7, lx8, rfl, rfl⟩, ⟨_, rfl, ⟨_, rfl, ⟨rfl, rfl⟩⟩⟩⟩ s9
  simp only [zai, zaq] at s9
  refine A9 (v := .agg [.sc (.int .i64 ((Ad (B.extract a.toNat ((B.size : Nat) : Int).toNat)).fType)), .sc (.bool (Ad (B.extract a.toNat ((B.size : Nat) : Int).toNat)).fDup), .sc (.int .i64 ((Ad (B.extract a.toNat ((B.size : Nat) : Int).toNat)).fQos)), .sc (.bool (Ad (B.extract a.toNat ((B.size : Nat) : Int).toNat)).fRetain), .sc (.int .i64 ((Ad (B.extract a.toNat ((B.size : Nat) : Int).toNat)).fId)), .sc (.string ((Ad (B.extract a.toNat ((B.size : Nat) : Int).toNat)).fTopic)), x3, .sc (.string ((Ad (B.extract a.toNat ((B.size : Nat) : Int).toNat)).fClient)), .sc (.int .i64 ((Ad (B.extract a.toNat ((B.size : Nat) : Int).toNat)).fLevel)), .sc (.bool (Ad (B.extract a.toNat ((B.size : Nat) : Int).toNat)).fClean), .sc (.int .i64 ((Ad (B.extract a.toNat ((B.size : Nat) : Int).toNat)).fKeep)), .sc (.bool (Ad (B.extract a.toNat ((B.size : Nat) : Int).toNat)).fHasWill), .sc (.string ((Ad (B.extract a.toNat ((B.size : Nat) : Int).toNat)).fWTopic)), x4, .sc (.int .i64 ((Ad (B.extract a.toNat ((B.size : Nat) : Int).toNat)).fWQos)), .sc (.bool (Ad (B.extract a.toNat ((B.size : Nat) : Int).toNat)).fWRetain), .sc (.bool (Ad (B.extract a.toNat ((B.size : Nat) : Int).toNat)).fHasUser), .sc (.string ((Ad (B.extract a.toNat ((B.size : Nat) : Int).toNat)).fUser)), .sc (.bool (Ad (B.extract a.toNat ((B.size : Nat) : Int).toNat)).fHasPass), x5, .sc (.int .i64 ((Ad (B.extract a.toNat ((B.size : Nat) : Int).toNat)).fCode)), .sc (.bool (Ad (B.extract a.toNat ((B.size : Nat) : Int).toNat)).fPresent), x6, x7, x8]) rfl (A9 (v := si (Kt (B.extract a.toNat ((B.size : Nat) : Int).toNat))) rfl (A9 (v := si (G6 (B.extract a.toNat ((B.size : Nat) : Int).toNat))) rfl (Gv s9 fun i10 H s11 => ?_)))
  refine Cd (cs' := [.sc (.int .i64 ((Ad (B.extract a.toNat ((B.size : Nat) : Int).toNat)).fType)), .sc (.bool (Ad (B.extract a.toNat ((B.size : Nat) : Int).toNat)).fDup), .sc (.int .i64 ((Ad (B.extract a.toNat ((B.size : Nat) : Int).toNat)).fQos)), .sc (.bool (Ad (B.extract a.toNat ((B.size : Nat) : Int).toNat)).fRetain), .sc (.int .i64 ((Ad (B.extract a.toNat ((B.size : Nat) : Int).toNat)).fId)), .sc (.string ((Ad (B.extract a.toNat ((B.size : Nat) : Int).toNat)).fTopic)), x3, .sc (.string ((Ad (B.extract a.toNat ((B.size : Nat) : Int).toNat)).fClient)), .sc (.int .i64 ((Ad (B.extract a.toNat ((B.size : Nat) : Int).toNat)).fLevel)), .sc (.bool (Ad (B.extract a.toNat ((B.size : Nat) : Int).toNat)).fClean), .sc (.int .i64 ((Ad (B.extract a.toNat ((B.size : Nat) : Int).toNat)).fKeep)), .sc (.bool (Ad (B.extract a.toNat ((B.size : Nat) : Int).toNat)).fHasWill), .sc (.string ((Ad (B.extract a.toNat ((B.size : Nat) : Int).toNat)).fWTopic)), x4, .sc (.int .i64 ((Ad (B.extract a.toNat ((B.size : Nat) : Int).toNat)).fWQos)), .sc (.bool (Ad (B.extract a.toNat ((B.size : Nat) : Int).toNat)).fWRetain), .sc (.bool (Ad (B.extract a.toNat ((B.size : Nat) : Int).toNat)).fHasUser), .sc (.string ((Ad (B.extract a.toNat ((B.size : Nat) : Int).toNat)).fUser)), .sc (.bool (Ad (B.extract a.toNat ((B.size : Nat) : Int).toNat)).fHasPass), x5, .sc (.int .i64 ((Ad (B.extract a.toNat ((B.size : Nat) : Int).toNat)).fCode)), .sc (.bool (Ad (B.extract a.toNat ((B.size : Nat) : Int).toNat)).fPresent), x6, x7, x8]) s11 (.here) (Aj (Aa rfl (Aa rfl (Aa rfl (Aa rfl (Aa rfl (Aa rfl (Aa lx3 (Aa rfl (Aa rfl (Aa rfl (Aa rfl (Aa rfl (Aa rfl (Aa lx4 (Aa rfl (Aa rfl (Aa rfl (Aa rfl (Aa rfl (Aa lx5 (Aa rfl (Aa rfl (Aa lx6 (Aa lx7 (Aa lx8 rfl)))))))))))))))))))))))))) rfl (Cr rfl) rfl fun H s12 => My (Ac ((decide ((G6 (B.extract a.toNat ((B.size : Nat) : Int).toNat)) = 0))) (fun h13 => ?_) fun h13 => ?_)
  have dh13 := of_decide_eq_true h13
  have hk := Vc dh13
  rw [Pm B h0] at hk
  refine A6 (nF h13) (Av s12 (.here) rfl ?_)
  refine Aw (cs := [.sc (.int .i64 ((Ad (B.extract a.toNat ((B.size : Nat) : Int).toNat)).fType)), .sc (.bool (Ad (B.extract a.toNat ((B.size : Nat) : Int).toNat)).fDup), .sc (.int .i64 ((Ad (B.extract a.toNat ((B.size : Nat) : Int).toNat)).fQos)), .sc (.bool (Ad (B.extract a.toNat ((B.size : Nat) : Int).toNat)).fRetain), .sc (.int .i64 ((Ad (B.extract a.toNat ((B.size : Nat) : Int).toNat)).fId)), .sc (.string ((Ad (B.extract a.toNat ((B.size : Nat) : Int).toNat)).fTopic)), x3, .sc (.string ((Ad (B.extract a.toNat ((B.size : Nat) : Int).toNat)).fClient)), .sc (.int .i64 ((Ad (B.extract a.toNat ((B.size : Nat) : Int).toNat)).fLevel)), .sc (.bool (Ad (B.extract a.toNat ((B.size : Nat) : Int).toNat)).fClean), .sc (.int .i64 ((Ad (B.extract a.toNat ((B.size : Nat) : Int).toNat)).fKeep)), .sc (.bool (Ad (B.extract a.toNat ((B.size : Nat) : Int).toNat)).fHasWill), .sc (.string ((Ad (B.extract a.toNat ((B.size : Nat) : Int).toNat)).fWTopic)), x4, .sc (.int .i64 ((Ad (B.extract a.toNat ((B.size : Nat) : Int).toNat)).fWQos)), .sc (.bool (Ad (B.extract a.toNat ((B.size : Nat) : Int).toNat)).fWRetain), .sc (.bool (Ad (B.extract a.toNat ((B.size : Nat) : Int).toNat)).fHasUser), .sc (.string ((Ad (B.extract a.toNat ((B.size : Nat) : Int).toNat)).fUser)), .sc (.bool (Ad (B.extract a.toNat ((B.size : Nat) : Int).toNat)).fHasPass), x5, .sc (.int .i64 ((Ad (B.extract a.toNat ((B.size : Nat) : Int).toNat)).fCode)), .sc (.bool (Ad (B.extract a.toNat ((B.size : Nat) : Int).toNat)).fPresent), x6, x7, x8]) (Gh (z' := [.sc (.int .i64 ((Ad (B.extract a.toNat ((B.size : Nat) : Int).toNat)).fType)), .sc (.bool (Ad (B.extract a.toNat ((B.size : Nat) : Int).toNat)).fDup), .sc (.int .i64 ((Ad (B.extract a.toNat ((B.size : Nat) : Int).toNat)).fQos)), .sc (.bool (Ad (B.extract a.toNat ((B.size : Nat) : Int).toNat)).fRetain), .sc (.int .i64 ((Ad (B.extract a.toNat ((B.size : Nat) : Int).toNat)).fId)), .sc (.string ((Ad (B.extract a.toNat ((B.size : Nat) : Int).toNat)).fTopic)), x3, .sc (.string ((Ad (B.extract a.toNat ((B.size : Nat) : Int).toNat)).fClient)), .sc (.int .i64 ((Ad (B.extract a.toNat ((B.size : Nat) : Int).toNat)).fLevel)), .sc (.bool (Ad (B.extract a.toNat ((B.size : Nat) : Int).toNat)).fClean), .sc (.int .i64 ((Ad (B.extract a.toNat ((B.size : Nat) : Int).toNat)).fKeep)), .sc (.bool (Ad (B.extract a.toNat ((B.size : Nat) : Int).toNat)).fHasWill), .sc (.string ((Ad (B.extract a.toNat ((B.size : Nat) : Int).toNat)).fWTopic)), x4, .sc (.int .i64 ((Ad (B.extract a.toNat ((B.size : Nat) : Int).toNat)).fWQos)), .sc (.bool (Ad (B.extract a.toNat ((B.size : Nat) : Int).toNat)).fWRetain), .sc (.bool (Ad (B.extract a.toNat ((B.size : Nat) : Int).toNat)).fHasUser), .sc (.string ((Ad (B.extract a.toNat ((B.size : Nat) : Int).toNat)).fUser)), .sc (.bool (Ad (B.extract a.toNat ((B.size : Nat) : Int).toNat)).fHasPass), x5, .sc (.int .i64 ((Ad (B.extract a.toNat ((B.size : Nat) : Int).toNat)).fCode)), .sc (.bool (Ad (B.extract a.toNat ((B.size : Nat) : Int).toNat)).fPresent), x6, x7, x8]) (Aj (Aa rfl (Aa rfl (Aa rfl (Aa rfl (Aa rfl (Aa rfl (Aa lx3 (Aa rfl (Aa rfl (Aa rfl (Aa rfl (Aa rfl (Aa rfl (Aa lx4 (Aa rfl (Aa rfl (Aa rfl (Aa rfl (Aa rfl (Aa lx5 (Aa rfl (Aa rfl (Aa lx6 (Aa lx7 (Aa lx8 rfl)))))))))))))))))))))))))) rfl (Cr rfl) rfl (rfl)) ?_
  refine Bt s12 fun i14 H s15 => ?_
  refine AdB (cty := [3, 4, 3, 4, 3, 9, 22, 9, 3, 4, 3, 4, 9, 22, 3, 4, 4, 9, 4, 22, 3, 4, 55, 56, 57]) (e := (⟨(Ad (B.extract a.toNat ((B.size : Nat) : Int).toNat)).fType, (Ad (B.extract a.toNat ((B.size : Nat) : Int).toNat)).fDup, (Ad (B.extract a.toNat ((B.size : Nat) : Int).toNat)).fQos, (Ad (B.extract a.toNat ((B.size : Nat) : Int).toNat)).fRetain, (Ad (B.extract a.toNat ((B.size : Nat) : Int).toNat)).fId, (Ad (B.extract a.toNat ((B.size : Nat) : Int).toNat)).fTopic, (Ad (B.extract a.toNat ((B.size : Nat) : Int).toNat)).fBody, (Ad (B.extract a.toNat ((B.size : Nat) : Int).toNat)).fClient, (Ad (B.extract a.toNat ((B.size : Nat) : Int).toNat)).fLevel, (Ad (B.extract a.toNat ((B.size : Nat) : Int).toNat)).fClean, (Ad (B.extract a.toNat ((B.size : Nat) : Int).toNat)).fKeep, (Ad (B.extract a.toNat ((B.size : Nat) : Int).toNat)).fHasWill, (Ad (B.extract a.toNat ((B.size : Nat) : Int).toNat)).fWTopic, (Ad (B.extract a.toNat ((B.size : Nat) : Int).toNat)).fWBody, (Ad (B.extract a.toNat ((B.size : Nat) : Int).toNat)).fWQos, (Ad (B.extract a.toNat ((B.size : Nat) : Int).toNat)).fWRetain, (Ad (B.extract a.toNat ((B.size : Nat) : Int).toNat)).fHasUser, (Ad (B.extract a.toNat ((B.size : Nat) : Int).toNat)).fUser, (Ad (B.extract a.toNat ((B.size : Nat) : Int).toNat)).fHasPass, (Ad (B.extract a.toNat ((B.size : Nat) : Int).toNat)).fPass, (Ad (B.extract a.toNat ((B.size : Nat) : Int).toNat)).fCode, (Ad (B.extract a.toNat ((B.size : Nat) : Int).toNat)).fPresent, ((Ad (B.extract a.toNat ((B.size : Nat) : Int).toNat)).fWants), (Ad (B.extract a.toNat ((B.size : Nat) : Int).toNat)).fNames, (Ad (B.extract a.toNat ((B.size : Nat) : Int).toNat)).fCodes⟩ : PacketV)) (k := 6) s15 ⟨_, _, rfl, rfl, rfl, rfl⟩ zP8 (.here) rfl (Aa rfl (Aa rfl (Aa rfl (Aa rfl (Aa rfl (Aa rfl (Aa lx3 (Aa rfl (Aa rfl (Aa rfl (Aa rfl (Aa rfl (Aa rfl (Aa lx4 (Aa rfl (Aa rfl (Aa rfl (Aa rfl (Aa rfl (Aa lx5 (Aa rfl (Aa rfl (Aa lx6 (Aa lx7 (Aa lx8 rfl))))))))))))))))))))))))) (Dr (.own Yw (Dr (.own U5 (Hi (.own Mm (.sc (.sc (.own Ls (.own Fy (.own Cl .nil))))))))))) (Ds ⟨(Af6 ((Ad (B.extract a.toNat ((B.size : Nat) : Int).toNat)).fBody)), (Ds ⟨(Af6 ((Ad (B.extract a.toNat ((B.size : Nat) : Int).toNat)).fWBody)), (Hk ⟨(Af6 ((Ad (B.extract a.toNat ((B.size : Nat) : Int).toNat)).fPass)), (E8 ⟨(Ab4 ((Ad (B.extract a.toNat ((B.size : Nat) : Int).toNat)).fWants)), ⟨(Api ((Ad (B.extract a.toNat ((B.size : Nat) : Int).toNat)).fNames)), ⟨(Aph ((Ad (B.extract a.toNat ((B.size : Nat) : Int).toNat)).fCodes)), trivial⟩⟩⟩)⟩)⟩)⟩) rfl (by omega) Gi rfl rfl rfl rfl (Ca ((Ad (B.extract a.toNat ((B.size : Nat) : Int).toNat)).fBody)) fun x16 H lx16 s17 => ?_
  refine Bq (by omega) (by omega) ?_
  have e : Rw B (f + 1) a l = Rw B f (a + (Kt (B.extract a.toNat ((B.size : Nat) : Int).toNat))) (l ++ [Ad (B.extract a.toNat ((B.size : Nat) : Int).toNat)]) := by
   simp only [Ea] at h1 h13
   rw [Rw, if_pos h1, if_pos h13]
  rw [e]
  have s18 := s17.forget (.here)
  exact AdG n hn B hB f m (a + (Kt (B.extract a.toNat ((B.size : Nat) : Int).toNat))) (l ++ [Ad (B.extract a.toNat ((B.size : Nat) : Int).toNat)]) x16 _ (by omega) (by omega) (by omega) (by simp only [zae, zas]; omega) lx16 (s18.sel (.cons (.here) .nil))
  have dh13 := of_decide_eq_false h13
  refine Au (nT h13) (Al (Bj s12 rfl (.own zP7 (.sc (.sc .nil))) ⟨(Bh (Jk l) (by decide)), (E8 trivial)⟩) ?_)
  have e : Rw B (f + 1) a l = (l, (G6 (B.extract a.toNat ((B.size : Nat) : Int).toNat)), a) := by
   simp only [Ea] at h1 h13
   rw [Rw, if_pos h1, if_neg h13]
  ·rw [e]
   first | done | rfl
  have dh1 := of_decide_eq_false h1
  refine A6 h1 (Al (Bj s0 rfl (.own (.here) (.sc (.sc .nil))) ⟨(Bh (Jk l) (by decide)), (E8 trivial)⟩) ?_)
  have e : Rw B (f + 1) a l = (l, 0, a) := by
   simp only [Ea] at h1
   rw [Rw, if_neg h1]
  ·rw [e]
   first | done | rfl
theorem AkF (n : Nat) (hn : 1048576 < n) (B : ByteArray) (hB : B.size ≤ 2097152) : Cb E0 (n + 14) 93 76 [Ae B] = some (.tup [Bl Ag (Yh B), .sc (.int .i64 (AiW B)), .sc (.int .i64 (Yi B))]) := by
 rw [At, Anl, f76]
 refine B8 (G := (· = some (.tup [Bl Ag (Yh B), si (AiW B), si (Yi B)]))) ?_
 try simp only [Fa, E9]
 have s0 : Sep [] [] := B4
 have s1 := s0.nl (ty := 33) ⟨_, _, rfl, rfl⟩
 exact AdG n hn B hB (B.size / 2 + 1) _ 0 [] .nl _ (by omega) (by omega) (by omega) (by simp) rfl s1
end
section
open Go
def Ga (x : G9) : Bool := decide (((x.fHeld.size : Nat) : Int) = 0) || (!x.fBad && decide (G6 x.fHeld = 1))
theorem Aii (n : Nat) (hn : 1048576 < n) (x : G9) (b0 : x.fHeld.size ≤ 1048576) : Cb E0 (n + 14) 4 30 [.agg (Bf x)] = some (.sc (.bool (Ga x))) := by
 rw [At, AmC, f30]
 refine B8 (G := (· = some (sb (Ga x)))) ?_
 try simp only [Fa, E9]
 have s0 : Sep [] [] := B4
 refine Ka s0 (Ez (G2 _)) fun i1 H s2 => C6 (o' := 0) rfl (Bd (c := Ae x.fHeld) s2 (.here) rfl (Do s2 rfl (.cons .ro .nil) (Abn n (by omega) x.fHeld (by omega)) rfl (Vd ⟨_, rfl, rfl⟩ (Ie _) (A1 (A1 C2))) ?_))
 rintro _ _ H ⟨_, _, _, _, rfl, rfl, ⟨x3, x4, x5, x6, x7, x8, lx3, lx4, lx5, lx6, lx7, lx8, rfl, rfl⟩, ⟨_, rfl, ⟨_, rfl, ⟨rfl, rfl⟩⟩⟩⟩ s9
 simp only [zai, zaq] at s9
 refine A9 (v := .agg [si ((Ad x.fHeld).fType), .sc (.bool (Ad x.fHeld).fDup), si ((Ad x.fHeld).fQos), .sc (.bool (Ad x.fHeld).fRetain), si ((Ad x.fHeld).fId), ss ((Ad x.fHeld).fTopic), x3, ss ((Ad x.fHeld).fClient), si ((Ad x.fHeld).fLevel), .sc (.bool (Ad x.fHeld).fClean), si ((Ad x.fHeld).fKeep), .sc (.bool (Ad x.fHeld).fHasWill), ss ((Ad x.fHeld).fWTopic), x4, si ((Ad x.fHeld).fWQos), .sc (.bool (Ad x.fHeld).fWRetain), .sc (.bool (Ad x.fHeld).fHasUser), ss ((Ad x.fHeld).fUser), .sc (.bool (Ad x.fHeld).fHasPass), x5, si ((Ad x.fHeld).fCode), .sc (.bool (Ad x.fHeld).fPresent), x6, x7, x8]) rfl (A9 (v := si (Kt x.fHeld)) rfl (A9 (v := si (G6 x.fHeld)) rfl (Gv s9 fun i10 H s11 => Cd (cs' := [si ((Ad x.fHeld).fType), .sc (.bool (Ad x.fHeld).fDup), si ((Ad x.fHeld).fQos), .sc (.bool (Ad x.fHeld).fRetain), si ((Ad x.fHeld).fId), ss ((Ad x.fHeld).fTopic), x3, ss ((Ad x.fHeld).fClient), si ((Ad x.fHeld).fLevel), .sc (.bool (Ad x.fHeld).fClean), si ((Ad x.fHeld).fKeep), .sc (.bool (Ad x.fHeld).fHasWill), ss ((Ad x.fHeld).fWTopic), x4, si ((Ad x.fHeld).fWQos), .sc (.bool (Ad x.fHeld).fWRetain), .sc (.bool (Ad x.fHeld).fHasUser), ss ((Ad x.fHeld).fUser), .sc (.bool (Ad x.fHeld).fHasPass), x5, si ((Ad x.fHeld).fCode), .sc (.bool (Ad x.fHeld).fPresent), x6, x7, x8]) s11 (.here) (Aj (Aa rfl (Aa rfl (Aa rfl (Aa rfl (Aa rfl (Aa rfl (Aa lx3 (Aa rfl (Aa rfl (Aa rfl (Aa rfl (Aa rfl (Aa rfl (Aa lx4 (Aa rfl (Aa rfl (Aa rfl (Aa rfl (Aa rfl (Aa lx5 (Aa rfl (Aa rfl (Aa lx6 (Aa lx7 (Aa lx8 rfl)))))))))))))))))))))))))) rfl (Cr rfl) rfl fun H s12 => C6 (o' := 0) rfl (Bd (c := Ae x.fHeld) s12 zP7 rfl (Dd (Ce (Ac ((decide (((x.fHeld.size : Nat) : Int) = 0))) (fun h13 => ?_) fun h13 => ?_)))))))
 have dh13 := of_decide_eq_true h13
 refine Am h13 (Am h13 (Am h13 (Am h13 (Hw (Hw (Am h13 (D7 h13 (Al rfl ?_))))))))
 have e : Ga x = true := by
  unfold Ga; simp only [h13, zaU, za7, zau, zaw, za2, za4, za6, zaL]; first | done | rfl | (simp [zbR]; done)
 ·rw [e]
  first | done | rfl
 have dh13 := of_decide_eq_false h13
 refine Ao h13 (C6 (o' := 1) rfl (Ao h13 (Bd (c := sb x.fBad) s12 zP7 rfl (Ao h13 (Cv (Ao h13 (Ac (x.fBad) (fun h14 => ?_) fun h14 => ?_)))))))
 refine Am (nF h14) (Am (nF h14) (Ao h13 (D3 (nF h14) (D3 h13 (Al rfl ?_)))))
 have e : Ga x = false := by
  unfold Ga; simp only [h13, h14, zaU, za7, zau, zaw, za2, za4, za6, zaL]; first | done | rfl | (simp [zbR]; done)
 ·rw [e]
  first | done | rfl
 refine Ao (nT h14) (Ao (nT h14) (Ce (Ao h13 (D7 (nT h14) (D3 h13 (Al rfl ?_))))))
 have e : Ga x = (decide ((G6 x.fHeld) = 1)) := by
  unfold Ga; simp only [h13, h14, zaU, za7, zau, zaw, za2, za4, za6, zaL]; first | done | rfl | (simp [zbR]; done)
 ·rw [e]
  first | done | rfl
theorem AiN (n : Nat) (hn : 1048576 < n) (x : G9) (b0 : x.fHeld.size ≤ 1048576) : Cb E0 (n + 14) 4 29 [.agg (Bf x)] = some (.sc (.bool (Ga x))) := by
 rw [At, AmB, f29]
 refine B8 (G := (· = some (sb (Ga x)))) ?_
 try simp only [Fa, E9]
 have s0 : Sep [] [] := B4
 refine Ka s0 (Ez (G2 _)) fun i1 H s2 => C6 (o' := 0) rfl (Bd (c := Ae x.fHeld) s2 (.here) rfl (Dd (Ce (Ac ((decide (((x.fHeld.size : Nat) : Int) = 0))) (fun h3 => ?_) fun h3 => ?_))))
 have dh3 := of_decide_eq_true h3
 refine Au h3 (Al rfl ?_)
 have e : Ga x = true := by
  unfold Ga; simp only [h3, zaU, za7, zau, zaw, za2, za4, za6, zaL]; first | done | rfl | (simp [zbR]; done)
 ·rw [e]
  first | done | rfl
 have dh3 := of_decide_eq_false h3
 refine A6 h3 (C6 (o' := 0) rfl (Bd (c := Ae x.fHeld) s2 (.here) rfl (Do s2 rfl (.cons .ro .nil) (AbK n (by omega) x.fHeld (by omega)) rfl (Vd ⟨_, rfl, rfl⟩ (Ie _) (A1 (A1 C2))) ?_)))
 rintro _ _ H ⟨_, _, _, _, rfl, rfl, ⟨x4, x5, x6, x7, x8, x9, lx4, lx5, lx6, lx7, lx8, lx9, rfl, rfl⟩, ⟨_, rfl, ⟨_, rfl, ⟨rfl, rfl⟩⟩⟩⟩ s10
 simp only [zai, zaq] at s10
 refine A9 (v := .agg [si ((Ad x.fHeld).fType), .sc (.bool (Ad x.fHeld).fDup), si ((Ad x.fHeld).fQos), .sc (.bool (Ad x.fHeld).fRetain), si ((Ad x.fHeld).fId), ss ((Ad x.fHeld).fTopic), x4, ss ((Ad x.fHeld).fClient), si ((Ad x.fHeld).fLevel), .sc (.bool (Ad x.fHeld).fClean), si ((Ad x.fHeld).fKeep), .sc (.bool (Ad x.fHeld).fHasWill), ss ((Ad x.fHeld).fWTopic), x5, si ((Ad x.fHeld).fWQos), .sc (.bool (Ad x.fHeld).fWRetain), .sc (.bool (Ad x.fHeld).fHasUser), ss ((Ad x.fHeld).fUser), .sc (.bool (Ad x.fHeld).fHasPass), x6, si ((Ad x.fHeld).fCode), .sc (.bool (Ad x.fHeld).fPresent), x7, x8, x9]) rfl (A9 (v := si (Kt x.fHeld)) rfl (A9 (v := si (G6 x.fHeld)) rfl (Gv s10 fun i11 H s12 => Cd (cs' := [si ((Ad x.fHeld).fType), .sc (.bool (Ad x.fHeld).fDup), si ((Ad x.fHeld).fQos), .sc (.bool (Ad x.fHeld).fRetain), si ((Ad x.fHeld).fId), ss ((Ad x.fHeld).fTopic), x4, ss ((Ad x.fHeld).fClient), si ((Ad x.fHeld).fLevel), .sc (.bool (Ad x.fHeld).fClean), si ((Ad x.fHeld).fKeep), .sc (.bool (Ad x.fHeld).fHasWill), ss ((Ad x.fHeld).fWTopic), x5, si ((Ad x.fHeld).fWQos), .sc (.bool (Ad x.fHeld).fWRetain), .sc (.bool (Ad x.fHeld).fHasUser), ss ((Ad x.fHeld).fUser), .sc (.bool (Ad x.fHeld).fHasPass), x6, si ((Ad x.fHeld).fCode), .sc (.bool (Ad x.fHeld).fPresent), x7, x8, x9]) s12 (.here) (Aj (Aa rfl (Aa rfl (Aa rfl (Aa rfl (Aa rfl (Aa rfl (Aa lx4 (Aa rfl (Aa rfl (Aa rfl (Aa rfl (Aa rfl (Aa rfl (Aa lx5 (Aa rfl (Aa rfl (Aa rfl (Aa rfl (Aa rfl (Aa lx6 (Aa rfl (Aa rfl (Aa lx7 (Aa lx8 (Aa lx9 rfl)))))))))))))))))))))))))) rfl (Cr rfl) rfl fun H s13 => Ce (Ac ((decide ((G6 x.fHeld) = 1))) (fun h14 => ?_) fun h14 => ?_))))
 have dh14 := of_decide_eq_true h14
 refine Ao h14 (C6 (o' := 1) rfl (Ao h14 (Bd (c := sb x.fBad) s13 zP7 rfl (Ao h14 (Cv (D7 h14 (Al rfl ?_)))))))
 have e : Ga x = (!x.fBad) := by
  unfold Ga; simp only [h3, h14, zaU, za7, zau, zaw, za2, za4, za6, zaL]; first | done | rfl | (simp [zbR]; done)
 ·rw [e]
  first | done | rfl
 have dh14 := of_decide_eq_false h14
 refine Am h14 (Am h14 (Am h14 (D3 h14 (Al rfl ?_))))
 have e : Ga x = false := by
  unfold Ga; simp only [h3, h14, zaU, za7, zau, zaw, za2, za4, za6, zaL]; first | done | rfl | (simp [zbR]; done)
 ·rw [e]
  first | done | rfl
end
section
open Go
section
variable {β : Type} {n : Nat} {H : Ab} {L L' L1 L2 : List Ck} {G : Option β → Prop} {K : AV → Option β} {KH : KO β}
theorem AdW {cty : List Nat} {m a b : Nat} (ha : a ≤ b) (hb : b ≤ m) : (zak m cty).flatten = (zak a cty).flatten ++ ((zak (b - a) cty).flatten ++ (zak (m - b) cty).flatten) := by
 rw [show m = a + ((b - a) + (m - b)) by omega, ← zbo, ← zbo, zbd, zbd]
 congr 4
 omega
def AnZ (w : Nat) (x : AV) (a b : Nat) (y : AV) : Prop := (x = .nl ∧ y = .nl) ∨ ∃ id off m, x = .sl id off m w ∧ y = .sl id (off + a * w) (b - a) w
theorem Aia {sz m ty a b : Nat} {cty : List Nat} {x : AV} {cells : List AV} {ys : List (AV × Nat × AV)} {lo hi : Option AV} (hs : Sep H L) (hty : ∃ i j, Ak ty = some i ∧ Ak i.elem = some j ∧ j.size = sz ∧ j.cty = cty) (hp : Pk L (.shs x ty (.ro m cells) ys) L1)
  (hlo : K2 lo 0 = some ((a : Nat) : Int)) (hhi : K2 hi m = some ((b : Nat) : Int)) (hab : a ≤ b) (hb : b ≤ m) (hc : cty.length = sz)
  (h : ∀ y, A2 y = true → AnZ sz x a b y → Sep H (.shs x ty (.ro m cells) ((y, ty, .ro (b - a) ((cells.drop (a * sz)).take ((b - a) * sz))) :: ys) :: L1) → Gd G (K y)) : Gd G (Mf sz x lo hi fun t => K t) := by
 obtain ⟨ti, tj, e1, e2, rfl, rfl⟩ := hty
 obtain ⟨I, ⟨J, R, rfl, ⟨⟨hlf, hok, e⟩, hys⟩, h2⟩, h3⟩ := hs.pick hp
 have hcl : cells.length = m * tj.size ∧ Fv (Hq Ak E0.tp 5) (zak m tj.cty).flatten cells := by
  obtain ⟨i', j', q1, q2, q3, q4⟩ := hok
  rw [e1] at q1
  cases q1
  rw [e2] at q2
  cases q2
  exact ⟨q3, q4⟩
 have hrl : ∀ k, ((zak k tj.cty).flatten).length = k * tj.size := fun k => by simp [hc]
 have hm1 : a * tj.size ≤ b * tj.size := Nat.mul_le_mul_right _ hab
 have hm2 : b * tj.size ≤ m * tj.size := Nat.mul_le_mul_right _ hb
 have hm3 : (b - a) * tj.size = b * tj.size - a * tj.size := Nat.sub_mul ..
 have hokP : Hq Ak E0.tp 6 ty (.ro (b - a) ((cells.drop (a * tj.size)).take ((b - a) * tj.size))) := by
  refine ⟨ti, tj, e1, e2, ?_, ?_⟩
  rw [zbc, zbB, hcl.1]
  omega
  have q := hcl.2
  rw [AdW hab hb] at q
  have q2 := (Rp (Rp q).2).1
  rw [hrl, hrl] at q2
  exact q2
 have fin : ∀ y JP, A2 y = true → AnZ tj.size x a b y → Cz Ak E0.tp H 6 ty y = some (.ro (b - a) ((cells.drop (a * tj.size)).take ((b - a) * tj.size)), JP) → (∀ i ∈ JP, i ∈ J) → Gd G (K y) := by
  intro y JP hy1 hq hy hJ
  refine h y hy1 hq ⟨J ++ R, ⟨J, R, rfl, ⟨⟨hlf, hok, e⟩, fun q hq => ?_⟩, h2⟩, h3⟩
  rcases zb9.1 hq with rfl | hq
  exact ⟨hokP, JP, hy, hJ⟩
  exact hys q hq
 rcases Qy e1 e2 e with ⟨rfl, rfl, rfl, rfl⟩ | ⟨id, off, raw, J', bb, rfl, rfl, hbb, hlv, ha, h4, h5⟩
 have hb0 : b = 0 := by omega
 have ha0 : a = 0 := by omega
 subst hb0
 subst ha0
 refine Dp (b := K .nl) ?_ (fin .nl [] rfl (.inl ⟨rfl, rfl⟩) (by simp [Cz]) (by simp))
 have hl0 : Jn .nl = some 0 := rfl
 simp only [Mf, hl0, hlo, hhi, zad]
 rfl
 obtain ⟨hl, b', hb', _, hle, hcs⟩ := I9 h4
 rw [hbb] at hb'
 cases hb'
 rw [AdW hab hb] at h5
 obtain ⟨I1, I2, g1, g2, g3, g4⟩ := Rq h5 (by rw [hrl, hl]; omega)
 obtain ⟨I3, I4, k1, k2, k3, k4⟩ := Rq g2 (by rw [hrl, zbB, hrl, hl]; omega)
 rw [hrl, hrl] at k1
 refine Dp (b := K (.sl id (off + a * tj.size) (b - a) tj.size)) ?_ (fin _ (id :: I3) rfl (.inr ⟨id, off, m, rfl, rfl⟩) ?_ ?_)
 have hl0 : Jn (.sl id off m tj.size) = some m := rfl
 simp only [Mf, hl0, hlo, hhi, zad, if_true]
 rw [if_pos (by omega)]
 congr 2
 omega
 rw [I8]
 have hap : Jj H id = true := by simp only [Jj, hbb]; exact ha
 have hrd : As H id (off + a * tj.size) ((b - a) * tj.size) = some ((raw.drop (a * tj.size)).take ((b - a) * tj.size)) := by
  simp only [As, hbb, hlv, if_true]
  rw [if_pos (by omega), hcs, List.drop_take, List.take_take, zbq, Nat.min_eq_left (by omega)]
 simp only [e1, e2, zad, if_true, hap, hrd, k1]
 intro i hi
 rcases zb9.1 hi with rfl | hi
 exact za1
 exact zav _ (g4 i (k3 i hi))
end
end
section
open Go
section
variable {β : Type} {n : Nat} {H : Ab} {L L' L1 L2 : List Ck} {G : Option β → Prop} {K : AV → Option β} {KH : KO β}
theorem Qq {ty : Nat} {a b : Int} {x : AV} {B : ByteArray} {ys : List (AV × Nat × AV)} {lo hi : Option AV} (hs : Sep H L) (hty : ∃ i j, Ak ty = some i ∧ Ak i.elem = some j ∧ j.size = 1 ∧ j.cty = [5]) (hp : Pk L (.shs x ty (Ae B) ys) L1)
  (hlo : K2 lo 0 = some a) (hhi : K2 hi (B.size : Nat) = some b) (h0 : 0 ≤ a) (hab : a ≤ b) (hb : b ≤ (B.size : Nat))
  (h : ∀ y, A2 y = true → Sep H (.shs x ty (Ae B) ((y, ty, Ae (B.extract a.toNat b.toNat)) :: ys) :: L1) → Gd G (K y)) : Gd G (Mf 1 x lo hi fun t => K t) := by
 obtain ⟨a', rfl⟩ : ∃ a' : Nat, a = a' := ⟨a.toNat, by omega⟩
 obtain ⟨b', rfl⟩ : ∃ b' : Nat, b = b' := ⟨b.toNat, by omega⟩
 refine Aia (cells := Ba B) hs hty hp hlo hhi (by omega) (by omega) rfl fun y hy hq hs' => h y hy ?_
 rw [zbg, zbg, Y0 B (by omega) (by omega)]
 simpa only [zby] using hs'
theorem Zy {sz m ty tx k : Nat} {cty : List Nat} {x y t : AV} {cb : List AV} {ys : List (AV × Nat × AV)} (hty : ∃ i j, Ak ty = some i ∧ Ak i.elem = some j ∧ j.size = sz ∧ j.cty = cty) (hp : Pk L (.shs x tx t ys) L2) (hk : ys[k]? = some (y, ty, .ro m cb)) (hf : cb.all M9 = true) : Src H L sz cty y m cb L := fun I h => by
 obtain ⟨i, j, e1, e2, rfl, rfl⟩ := hty
 obtain ⟨J, R, ⟨_, hys⟩, h2, h3⟩ := hp.sepI h
 obtain ⟨_, J', h1, _⟩ := hys _ (List.mem_of_getElem? hk)
 rcases Qy e1 e2 h1 with ⟨rfl, rfl, rfl, rfl⟩ | ⟨id, off, raw, J', b, rfl, rfl, hb, hlv, ha, h4, h5⟩
 exact ⟨[], [], I, [], rfl, rfl, rfl, by simp, by simp [Di], h, by simp⟩
 have hl := (I9 h4).1
 have key : ∀ {ts : List Nat} {xs cells : List AV} {I : List Nat}, Di (Cz Ak E0.tp H 5) ts xs = some (cells, I) → cells.all M9 = true → xs = cells ∧ I = [] := by
  intro ts xs
  induction xs generalizing ts with
  | nil =>
   intro cells I h _
   obtain ⟨_, e⟩ := Iw h
   cases e
   exact ⟨rfl, rfl⟩
  | cons x xs ih =>
   intro cells I h hs
   cases ts with
   | nil => simp [Di] at h
   | cons t ts =>
    obtain ⟨a, b, h1, h2, e⟩ := Gj h
    cases e
    rw [zaz, zag] at hs
    obtain ⟨rfl, e2⟩ := ih h2 hs.2
    have hx : x = a.1 ∧ a.2 = [] := by
     obtain ⟨a1, a2⟩ := a
     cases a1 with
     | sc v =>
      have := Xo h1
      subst this
      have : (AV.sc v, ([] : List Nat)) = (.sc v, a2) := Option.some.inj h1
      cases this
      exact ⟨rfl, rfl⟩
     | _ => simp [M9] at hs
    refine ⟨by rw [hx.1], by rw [hx.2, e2]; rfl⟩
 obtain ⟨rfl, rfl⟩ := key h5 hf
 refine ⟨raw, [], I, [], rfl, ?_, Tl hf, hl, h5, h, by simp⟩
 show (if j.size = j.size then As H id off (m * j.size) else none) = _
 rw [if_pos rfl, h4]
end
end
section
open Go
inductive MF where
 | str
 | int
 | bool
 | byt
 | skip
 | sub (fs : List MF)
def Ix (n : Nat) (fs : List MF) : List MF := (zak n fs).flatten
theorem Jl (n : Nat) (fs : List MF) : Ix (n + 1) fs = fs ++ Ix n fs := by rw [Ix, zbn, za3, Ix]
theorem AbD (n : Nat) (fs : List MF) : (Ix n fs).length = n * fs.length := by simp [Ix]
def Acm (k : Nat) (out : ByteArray) : ByteArray := if h : k = 0 then out else Acm (k / 10) (⟨#[UInt8.ofNat (48 + k % 10)]⟩ ++ out)
termination_by k
decreasing_by omega
def Af5 (k : Int) : ByteArray := ⟨#[109]⟩ ++ (if k ≤ 0 then ⟨#[48]⟩ else Acm k.toNat ⟨#[]⟩)
mutual
def H4 (f : MF) (k : Int) : AV → AV × Int
 | .sc v =>
  match f with
  | .str => (.sc (.string (Af5 k)), k + 1)
  | .int => (.sc (.int .i64 k), k + 1)
  | .bool => (.sc (.bool (k.tmod 3 == 0)), k + 1)
  | .byt => (.sc (.int .u8 (IntKind.u8.wrap k)), k + 1)
  | _ => (.sc v, k)
 | .ro n cells =>
  match f with
  | .sub fs => (.ro n (Fz (Ix n fs) k cells).1, (Fz (Ix n fs) k cells).2)
  | _ => (.ro n cells, k)
 | x => (x, k)
def Fz (fs : List MF) (k : Int) : List AV → List AV × Int
 | [] => ([], k)
 | c :: cs => ((H4 (fs.headD .skip) k c).1 :: (Fz fs.tail (H4 (fs.headD .skip) k c).2 cs).1, (Fz fs.tail (H4 (fs.headD .skip) k c).2 cs).2)
end
mutual
def F4 (f : MF) : AV → Nat
 | .sc v =>
  match f with
  | .skip => 0
  | .sub _ => 0
  | _ => 1
 | .ro n cells =>
  match f with
  | .sub fs => E4 (Ix n fs) cells
  | _ => 0
 | _ => 0
def E4 (fs : List MF) : List AV → Nat
 | [] => 0
 | c :: cs => F4 (fs.headD .skip) c + E4 fs.tail cs
end
mutual
def wfF (f : MF) : AV → Prop
 | .sc v =>
  match f, v with
  | .str, .string _ => True
  | .int, .int .i64 _ => True
  | .bool, .bool _ => True
  | .byt, .int .u8 _ => True
  | .skip, v => Mz v = true
  | _, _ => False
 | .ro n cells =>
  match f with
  | .sub fs => n ≤ 1048576 ∧ cells.length = n * fs.length ∧ N6 (Ix n fs) cells
  | _ => False
 | _ => False
def N6 (fs : List MF) : List AV → Prop
 | [] => fs = []
 | c :: cs => fs ≠ [] ∧ wfF (fs.headD .skip) c ∧ N6 fs.tail cs
end
mutual
def G3 : AV → Nat
 | .ro _ cells => 1 + En cells
 | .agg cs => En cs
 | .tup cs => En cs
 | _ => 0
def En : List AV → Nat
 | [] => 0
 | c :: cs => G3 c + En cs
end
section lists
theorem Xb (f : MF) (fs : List MF) (k : Int) (c : AV) (cs : List AV) : Fz (f :: fs) k (c :: cs) = ((H4 f k c).1 :: (Fz fs (H4 f k c).2 cs).1, (Fz fs (H4 f k c).2 cs).2) := rfl
theorem Mc : ∀ (A B : List MF) (k : Int) (X Y : List AV), A.length = X.length → Fz (A ++ B) k (X ++ Y) = ((Fz A k X).1 ++ (Fz B (Fz A k X).2 Y).1, (Fz B (Fz A k X).2 Y).2)
 | [], B, k, [], Y, _ => by simp [Fz]
 | f :: A, B, k, x :: X, Y, h => by
  have ih := Mc A B (H4 f k x).2 X Y (by simpa using h)
  rw [zaq, zaq, Xb, Xb, ih]
  rfl
theorem Jh : ∀ (A B : List MF) (X Y : List AV), A.length = X.length → E4 (A ++ B) (X ++ Y) = E4 A X + E4 B Y
 | [], B, [], Y, _ => by simp [E4]
 | f :: A, B, x :: X, Y, h => by
  have ih := Jh A B X Y (by simpa using h)
  show F4 f x + E4 (A ++ B) (X ++ Y) = F4 f x + E4 A X + E4 B Y
  rw [ih, zaH]
theorem wfL_cons {f : MF} {fs : List MF} {c : AV} {cs : List AV} : N6 (f :: fs) (c :: cs) ↔ wfF f c ∧ N6 fs cs := by
 show (f :: fs ≠ [] ∧ wfF f c ∧ N6 fs cs) ↔ _
 simp
theorem M2 : ∀ {fs : List MF} {cs : List AV}, N6 fs cs → fs.length = cs.length
 | fs, [], h => by
  have : fs = [] := h
  rw [this]
  rfl
 | [], _ :: _, h => absurd rfl h.1
 | f :: fs, c :: cs, h => by
  have := M2 (wfL_cons.1 h).2
  simp [this]
theorem Kg : ∀ {A B : List MF} {X Y : List AV}, A.length = X.length → (N6 (A ++ B) (X ++ Y) ↔ N6 A X ∧ N6 B Y)
 | [], B, [], Y, _ => by
  show _ ↔ (([] : List MF) = [] ∧ _)
  simp
 | f :: A, B, x :: X, Y, h => by
  have ih := Kg (A := A) (B := B) (X := X) (Y := Y) (by simpa using h)
  rw [zaq, zaq, wfL_cons, wfL_cons, ih, and_assoc]
mutual
theorem Ox : ∀ (x : AV) (f : MF) (k : Int), (H4 f k x).2 = k + F4 f x
 | .sc v, f, k => by cases f <;> simp [H4, F4]
 | .ro n cells, f, k => by
  cases f <;> first | (simp [H4, F4]; done) | exact M0 cells _ k
 | .agg cs, f, k => by simp [H4, F4]
 | .tup cs, f, k => by simp [H4, F4]
 | .any, f, k => by simp [H4, F4]
 | .nl, f, k => by simp [H4, F4]
 | .sl .., f, k => by simp [H4, F4]
 | .ptr .., f, k => by simp [H4, F4]
 | .rp .., f, k => by simp [H4, F4]
 | .fn .., f, k => by simp [H4, F4]
theorem M0 : ∀ (cs : List AV) (fs : List MF) (k : Int), (Fz fs k cs).2 = k + E4 fs cs
 | [], fs, k => by simp [Fz, E4]
 | c :: cs, fs, k => by
  show (Fz fs.tail (H4 (fs.headD .skip) k c).2 cs).2 = k + ((F4 (fs.headD .skip) c + E4 fs.tail cs : Nat) : Int)
  rw [M0 cs, Ox c]
  omega
end
theorem Qv : ∀ (cs : List AV) (fs : List MF) (k : Int), (Fz fs k cs).1.length = cs.length
 | [], fs, k => by simp [Fz]
 | c :: cs, fs, k => by
  show (Fz fs.tail _ cs).1.length + 1 = cs.length + 1
  rw [Qv cs]
mutual
theorem Mb : ∀ (x : AV) (f : MF) (k : Int), G3 (H4 f k x).1 = G3 x
 | .sc v, f, k => by cases f <;> rfl
 | .ro n cells, f, k => by
  cases f <;> first | rfl | (show 1 + En _ = 1 + En _; rw [Md cells])
 | .agg cs, f, k => by simp [H4]
 | .tup cs, f, k => by simp [H4]
 | .any, f, k => by simp [H4]
 | .nl, f, k => by simp [H4]
 | .sl .., f, k => by simp [H4]
 | .ptr .., f, k => by simp [H4]
 | .rp .., f, k => by simp [H4]
 | .fn .., f, k => by simp [H4]
theorem Md : ∀ (cs : List AV) (fs : List MF) (k : Int), En (Fz fs k cs).1 = En cs
 | [], fs, k => by simp [Fz]
 | c :: cs, fs, k => by
  show G3 (H4 (fs.headD .skip) k c).1 + En (Fz fs.tail _ cs).1 = G3 c + En cs
  rw [Mb c, Md cs]
end
mutual
theorem I7 {ti : Nat → Option TI} {tp : Nat → Option (List Nat)} : ∀ (x : AV) (N ty : Nat), (Bk ti tp N ty x).2.length = G3 x
 | .sc v, N, ty => rfl
 | .ro n cells, N, ty => by
  simp only [Bk, zan, G3, D2 cells, zbM]
 | .agg cs, N, ty => D2 cs _ _
 | .tup cs, N, ty => D2 cs _ _
 | .any, N, ty => rfl
 | .nl, N, ty => rfl
 | .sl .., N, ty => rfl
 | .ptr .., N, ty => rfl
 | .rp .., N, ty => rfl
 | .fn .., N, ty => rfl
theorem D2 {ti : Nat → Option TI} {tp : Nat → Option (List Nat)} : ∀ (cs : List AV) (N : Nat) (ts : List Nat), (Ap ti tp N ts cs).2.length = En cs
 | [], N, ts => rfl
 | c :: cs, N, ts => by
  simp only [Ap, zae, En, I7 c, D2 cs]
end
theorem Hh : ∀ (X Y : List AV), En (X ++ Y) = En X + En Y
 | [], Y => by simp [En]
 | c :: X, Y => by
  show G3 c + En (X ++ Y) = G3 c + En X + En Y
  rw [Hh X Y, zaH]
theorem Sk {ti : Nat → Option TI} {tp : Nat → Option (List Nat)} (TP TS : List Nat) (t : Nat) (P S : List AV) (c : AV) (N : Nat) (h : TP.length = P.length) :
  Ap ti tp N (TP ++ t :: TS) (P ++ c :: S) = ((Ap ti tp N TP P).1 ++ (Bk ti tp (N + En P) t c).1 :: (Ap ti tp (N + En P + G3 c) TS S).1, (Ap ti tp N TP P).2 ++ ((Bk ti tp (N + En P) t c).2 ++ (Ap ti tp (N + En P + G3 c) TS S).2)) := by
 rw [Ig TP P (t :: TS) (c :: S) N h, D2]
 have e : Ap ti tp (N + En P) (t :: TS) (c :: S) = ((Bk ti tp (N + En P) t c).1 :: (Ap ti tp (N + En P + G3 c) TS S).1, (Bk ti tp (N + En P) t c).2 ++ (Ap ti tp (N + En P + G3 c) TS S).2) := by
  rw [Ap, I7]
  rfl
 rw [e]
end lists
section steps
variable {β : Type} {n : Nat} {r : Option β}
noncomputable def SB (N : Nat) (T : List Nat) (cells : List AV) : List Iu := ⟨(Ap Ak E0.tp (N + 1) T cells).1, true, true⟩ :: (Ap Ak E0.tp (N + 1) T cells).2
theorem Qt {ty len : Nat} {cells : List AV} {i j : TI} (h1 : Ak ty = some i) (h2 : Ak i.elem = some j) (N : Nat) : Bk Ak E0.tp N ty (.ro len cells) = (.sl N 0 len j.size, SB N (zak len j.cty).flatten cells) := by
 simp only [Bk, h1, zad, h2, zaG]
 rfl
theorem S1 {A C : Ab} {TP TS : List Nat} {t p : Nat} {P S : List AV} {v0 v : Value} (hT : TP.length = P.length) (hv : Mz v = true) (hp : p = P.length) (K : Ab → Option β) :
  Ej 1 (.ptr A.length p) (.sc v) (A ++ (SB A.length (TP ++ t :: TS) (P ++ .sc v0 :: S) ++ C)) K = K (A ++ (SB A.length (TP ++ t :: TS) (P ++ .sc v :: S) ++ C)) := by
 have hc : Ev (.sc v) = some [.sc v] := by simp only [Ev, A2, hv, if_true]
 have hl : (Ap Ak E0.tp (A.length + 1) TP P).1.length = P.length := Hv _ _ _
 simp only [SB, Sk TP TS t P S _ _ hT, F8, G3, zaq]
 rw [Zz 1 A.length p (.sc v) _ _ _ _ (Ti A _ _) hc rfl (by simp [hl, hp]) rfl, AiJ]
 have := Rs (Ap Ak E0.tp (A.length + 1) TP P).1 [.sc v0] (Ap Ak E0.tp (A.length + 1 + En P + 0) TS S).1 [.sc v] rfl
 simp only [List.singleton_append, hl] at this
 rw [hp, this]
theorem All {A C : Ab} {TP TS : List Nat} {t p : Nat} {P S : List AV} {c : AV} (hT : TP.length = P.length) (hp : p = P.length) (K : AV → Option β) :
  Bx false 1 (.ptr A.length p) (A ++ (SB A.length (TP ++ t :: TS) (P ++ c :: S) ++ C)) K = K (Bk Ak E0.tp (A.length + 1 + En P) t c).1 := by
 have hl : (Ap Ak E0.tp (A.length + 1) TP P).1.length = P.length := Hv _ _ _
 simp only [SB, Sk TP TS t P S _ _ hT, zaq]
 refine ldF ?_ K
 have : p + 1 ≤ ((Ap Ak E0.tp (A.length + 1) TP P).1 ++ (Bk Ak E0.tp (A.length + 1 + En P) t c).1 :: (Ap Ak E0.tp (A.length + 1 + En P + G3 c) TS S).1).length := by simp [hl, hp]
 simp only [As, Ti, if_true, this]
 rw [hp, ← hl, za5 (zao _), zaW]
 rfl
def Al2 (n f ty : Nat) (t t' : AV) (k k' : Int) : Prop := ∀ (β : Type) (A C : Ab) (K : KO β) (r : Option β),
 (∀ X, K (.sc (.int .i64 k')) (A ++ ((Bk Ak E0.tp A.length ty t').2 ++ (C ++ X))) = r) → Dy E0 n β f [(Bk Ak E0.tp A.length ty t).1, .sc (.int .i64 k)] (A ++ ((Bk Ak E0.tp A.length ty t).2 ++ C)) K = r
theorem AaH {ty : Nat} {f : FuncId} {args : List AV} {H : Ab} {K : KO β} (hh : E0.hm f = true) (hx : E0.ext f = none) : (PR n β).call ty (.fn f [] []) args H K = Dy E0 n β f args H K := by
 show Ms E0 (Dy E0 n) ty f ([] ++ args ++ []) H K = _
 simp only [Ms, hx, hh, zai, zam, if_true]
theorem AnD {A C : Ab} {TP TS : List Nat} {t p ty g : Nat} {P S : List AV} {c c' : AV} {k k' : Int} {K : KO β} (hT : TP.length = P.length) (hp : p = P.length) (hh : E0.hm g = true) (hx : E0.ext g = none) (hmk : Al2 n g t c c' k k') (hs : ∀ M, (Bk Ak E0.tp M t c').1 = (Bk Ak E0.tp M t c).1) (hn : G3 c' = G3 c)
  (h : ∀ X, K (.sc (.int .i64 k')) (A ++ (SB A.length (TP ++ t :: TS) (P ++ c' :: S) ++ (C ++ X))) = r) :
  (Bx false 1 (.ptr A.length p) (A ++ (SB A.length (TP ++ t :: TS) (P ++ c :: S) ++ C)) fun v => (PR n β).call ty (.fn g [] []) [v, .sc (.int .i64 k)] (A ++ (SB A.length (TP ++ t :: TS) (P ++ c :: S) ++ C)) K) = r := by
 rw [All hT hp, AaH hh hx]
 have e : ∀ (d : AV) (D : Ab), A ++ (SB A.length (TP ++ t :: TS) (P ++ d :: S) ++ D) = (A ++ ⟨(Ap Ak E0.tp (A.length + 1) TP P).1 ++ (Bk Ak E0.tp (A.length + 1 + En P) t d).1 :: (Ap Ak E0.tp (A.length + 1 + En P + G3 d) TS S).1, true, true⟩ :: (Ap Ak E0.tp (A.length + 1) TP P).2) ++ ((Bk Ak E0.tp (A.length + 1 + En P) t d).2 ++ ((Ap Ak E0.tp (A.length + 1 + En P + G3 d) TS S).2 ++ D)) := by
  intro d D
  simp only [SB, Sk TP TS t P S _ _ hT, zaq, zaf]
 have hN : ∀ b : Iu, (A ++ b :: (Ap Ak E0.tp (A.length + 1) TP P).2).length = A.length + 1 + En P := by
  intro b
  rw [zae, zan, D2]
  omega
 rw [e c C]
 have key := hmk β (A ++ ⟨(Ap Ak E0.tp (A.length + 1) TP P).1 ++ (Bk Ak E0.tp (A.length + 1 + En P) t c).1 :: (Ap Ak E0.tp (A.length + 1 + En P + G3 c) TS S).1, true, true⟩ :: (Ap Ak E0.tp (A.length + 1) TP P).2) ((Ap Ak E0.tp (A.length + 1 + En P + G3 c) TS S).2 ++ C) K r
 rw [hN] at key
 refine key fun X => ?_
 have h2 := h X
 rw [e c' (C ++ X), hs, hn] at h2
 simp only [zaf, zaq] at h2 ⊢
 exact h2
end steps
structure FD where
 f : MF
 path : List Nat
 g : FuncId
def Rx (n tS g : Nat) : Prop := Ek g = false ∧ ∀ k : Int, 0 ≤ k → k ≤ 4611686018427387904 → Cb E0 n tS g [.sc (.int .i64 k)] = some (.sc (.string (Af5 k)))
def M4 (n g ty : Nat) (fs : List MF) : Prop := E0.hm g = true ∧ E0.ext g = none ∧ (∃ i j, Ak ty = some i ∧ Ak i.elem = some j) ∧ ∀ (len : Nat) (cells : List AV) (k : Int), wfF (.sub fs) (.ro len cells) → 0 ≤ k → k + F4 (.sub fs) (.ro len cells) ≤ 4611686018427387904 →
 Al2 n g ty (.ro len cells) (H4 (.sub fs) k (.ro len cells)).1 k (H4 (.sub fs) k (.ro len cells)).2
def N9 (n g : Nat) (fs : List MF) : Prop := Ek g = false ∧ ∀ (ty len : Nat) (cells : List AV) (k : Int), wfF (.sub fs) (.ro len cells) → 0 ≤ k → k + F4 (.sub fs) (.ro len cells) ≤ 4611686018427387904 →
 Cb E0 n ty g [(H4 (.sub fs) k (.ro len cells)).1, .sc (.int .i64 k)] = some (.sc (.int .i64 (H4 (.sub fs) k (.ro len cells)).2))
def Aqd (n t g : Nat) : MF → Prop
 | .sub fs => M4 n g t fs
 | _ => True
def Aqc (n g : Nat) : MF → Prop
 | .sub fs => N9 n g fs
 | _ => True
def AfN (n : Nat) : Nat → List FD → List Nat → Prop
 | off, fd :: r, t :: ts => fd.path.sum = off ∧ Aqd n t fd.g fd.f ∧ AfN n (off + 1) r ts
 | _, [], [] => True
 | _, _, _ => False
def Ajh (n : Nat) : Nat → List FD → Prop
 | off, fd :: r => fd.path.sum = off ∧ Aqc n fd.g fd.f ∧ Ajh n (off + 1) r
 | _, [] => True
section fns
variable {β : Type}
def Ew (p : Pr β) : List Nat → AV → (AV → Option β) → Option β
 | [], x, K => K x
 | o :: r, x, K => p.fadr o x fun t => Ew p r t K
def L6 (p : Pr β) (tS tI gT w : Nat) (a i : AV) : List FD → AV → Ab → (KO β) → Option β
 | [], k, H, K => K k H
 | ⟨.str, path, _⟩ :: r, k, H, K => p.call tS (.fn gT [] []) [k] H fun s H => p.iadr w a i fun t => Ew p path t fun t => p.store 1 t s H fun H => p.bin .add k (.sc (.int .i64 1)) fun k => L6 p tS tI gT w a i r k H K
 | ⟨.int, path, _⟩ :: r, k, H, K => p.iadr w a i fun t => Ew p path t fun t => p.store 1 t k H fun H => p.bin .add k (.sc (.int .i64 1)) fun k => L6 p tS tI gT w a i r k H K
 | ⟨.bool, path, _⟩ :: r, k, H, K => p.bin .rem k (.sc (.int .i64 3)) fun q => p.bin .eql q (.sc (.int .i64 0)) fun b => p.iadr w a i fun t => Ew p path t fun t => p.store 1 t b H fun H => p.bin .add k (.sc (.int .i64 1)) fun k => L6 p tS tI gT w a i r k H K
 | ⟨.byt, path, _⟩ :: r, k, H, K => p.cvI .u8 k fun c => p.iadr w a i fun t => Ew p path t fun t => p.store 1 t c H fun H => p.bin .add k (.sc (.int .i64 1)) fun k => L6 p tS tI gT w a i r k H K
 | ⟨.sub _, path, g⟩ :: r, k, H, K => p.iadr w a i fun t => Ew p path t fun t => p.load false 1 t H fun v => p.call tI (.fn g [] []) [v, k] H fun k H => L6 p tS tI gT w a i r k H K
 | ⟨.skip, _, _⟩ :: r, k, H, K => L6 p tS tI gT w a i r k H K
def L5 (p : Pr β) (tS tI gT w : Nat) (a i : AV) (F : Ab → Option β) : List FD → AV → Ab → (KO β) → Option β
 | [], k, H, K => K k H
 | ⟨.str, path, _⟩ :: r, k, H, K => p.iadr w a i fun t => Ew p path t fun t => p.load false 1 t H fun v => p.call tS (.fn gT [] []) [k] H fun s H => p.bin .neq v s fun b => p.cond b (F H) (p.bin .add k (.sc (.int .i64 1)) fun k => L5 p tS tI gT w a i F r k H K)
 | ⟨.int, path, _⟩ :: r, k, H, K => p.iadr w a i fun t => Ew p path t fun t => p.load false 1 t H fun v => p.bin .neq v k fun b => p.cond b (F H) (p.bin .add k (.sc (.int .i64 1)) fun k => L5 p tS tI gT w a i F r k H K)
 | ⟨.bool, path, _⟩ :: r, k, H, K => p.iadr w a i fun t => Ew p path t fun t => p.load false 1 t H fun v => p.bin .rem k (.sc (.int .i64 3)) fun q => p.bin .eql q (.sc (.int .i64 0)) fun e => p.binB .neq v e fun b => p.cond b (F H) (p.bin .add k (.sc (.int .i64 1)) fun k => L5 p tS tI gT w a i F r k H K)
 | ⟨.byt, path, _⟩ :: r, k, H, K => p.iadr w a i fun t => Ew p path t fun t => p.load false 1 t H fun v => p.cvI .u8 k fun c => p.bin .neq v c fun b => p.cond b (F H) (p.bin .add k (.sc (.int .i64 1)) fun k => L5 p tS tI gT w a i F r k H K)
 | ⟨.sub _, path, g⟩ :: r, k, H, K => p.iadr w a i fun t => Ew p path t fun t => p.load false 1 t H fun v => p.call tI (.fn g [] []) [v, k] H fun k H => p.bin .lss k (.sc (.int .i64 0)) fun b => p.cond b (F H) (L5 p tS tI gT w a i F r k H K)
 | ⟨.skip, _, _⟩ :: r, k, H, K => L5 p tS tI gT w a i F r k H K
variable {n : Nat} {res : Option β}
theorem Lt : ∀ (path : List Nat) (id off : Nat) (K : AV → Option β), Ew (PR n β) path (.ptr id off) K = K (.ptr id (off + path.sum))
 | [], id, off, K => rfl
 | o :: r, id, off, K => by
  show Ew (PR n β) r (.ptr id (off + o)) K = _
  rw [Lt r, List.sum_cons, zaH]
theorem Abh : ∀ (path : List Nat) (cells : List AV) (K : AV → Option β), Ew (PR n β) path (.rp cells) K = K (.rp (cells.drop path.sum))
 | [], cells, K => by simp [Ew]
 | o :: r, cells, K => by
  show Ew (PR n β) r (.rp (cells.drop o)) K = _
  rw [Abh r, List.sum_cons, zbq]
theorem AaJ (k : Int) (K : AV → Option β) (h0 : 0 ≤ k) (h1 : k ≤ 4611686018427387904) : Bz .add (.sc (.int .i64 k)) (.sc (.int .i64 1)) K = K (.sc (.int .i64 (k + 1))) := by
 show K (.sc (.int .i64 (IntKind.i64.wrap (k + 1)))) = _
 rw [Ic _ (by omega) (by omega)]
theorem AaT {tS gT : Nat} (h : Rx n tS gT) {k : Int} (h0 : 0 ≤ k) (h1 : k ≤ 4611686018427387904) (H : Ab) (K : KO β) : (PR n β).call tS (.fn gT [] []) [.sc (.int .i64 k)] H K = K (.sc (.string (Af5 k))) H := by
 rw [Ha (vs := [.sc (.int .i64 k)]) h.1 rfl (h.2 k h0 h1), F8, zam]
theorem AfX {tS tI gT w len i : Nat} (hT : Rx n tS gT) (hi : i < len) : ∀ (todo : List FD) (off : Nat) (Q R S : List AV) (TP tR TS : List Nat) (k : Int) (A C : Ab) (K : KO β),
  AfN n off todo tR → TP.length = Q.length → Q.length = i * w + off → N6 (todo.map FD.f) R → 0 ≤ k → k + E4 (todo.map FD.f) R ≤ 4611686018427387904 →
  (∀ X, K (.sc (.int .i64 (Fz (todo.map FD.f) k R).2)) (A ++ (SB A.length (TP ++ (tR ++ TS)) (Q ++ ((Fz (todo.map FD.f) k R).1 ++ S)) ++ (C ++ X))) = res) →
  L6 (PR n β) tS tI gT w (.sl A.length 0 len w) (.sc (.int .i64 i)) todo (.sc (.int .i64 k)) (A ++ (SB A.length (TP ++ (tR ++ TS)) (Q ++ (R ++ S)) ++ C)) K = res
 | [], off, Q, R, S, TP, tR, TS, k, A, C, K, hf, ht, hq, hw, h0, h1, h => by
  cases R with
  | nil =>
   have := h []
   simp only [zam] at this
   exact this
  | cons c R => exact absurd rfl hw.1
 | fd :: todo, off, Q, R, S, TP, tR, TS, k, A, C, K, hf, ht, hq, hw, h0, h1, h => by
  cases R with
  | nil => exact absurd (show fd.f :: todo.map FD.f = [] from hw) (by simp)
  | cons c R =>
  cases tR with
  | nil => exact hf.elim
  | cons t tR =>
  obtain ⟨hpath, hsub, hrest⟩ := hf
  obtain ⟨hwc, hwR⟩ := wfL_cons.1 hw
  have hpl : ∀ K' : AV → Option β, (Dj w (.sl A.length 0 len w) (.sc (.int .i64 i)) fun t => Ew (PR n β) fd.path t K') = K' (.ptr A.length Q.length) := fun K' => by
   rw [Aar w _ _ _ _ _ hi, Lt, hpath, hq, za0]
  have hcnt : E4 ((fd :: todo).map FD.f) (c :: R) = F4 fd.f c + E4 (todo.map FD.f) R := rfl
  have hmk : Fz ((fd :: todo).map FD.f) k (c :: R) = ((H4 fd.f k c).1 :: (Fz (todo.map FD.f) (H4 fd.f k c).2 R).1, (Fz (todo.map FD.f) (H4 fd.f k c).2 R).2) := rfl
  rw [hcnt] at h1
  rw [hmk] at h
  have e1 : ∀ (x : AV) (Y : List AV), Q ++ (x :: Y ++ S) = Q ++ x :: (Y ++ S) := fun x Y => rfl
  have e2 : ∀ (x : AV) (Y : List AV), Q ++ x :: (Y ++ S) = (Q ++ [x]) ++ (Y ++ S) := fun x Y => by simp
  have e3 : TP ++ (t :: tR ++ TS) = (TP ++ [t]) ++ (tR ++ TS) := by simp
  have e4 : TP ++ (t :: tR ++ TS) = TP ++ t :: (tR ++ TS) := rfl
  have go : ∀ (c' : AV) (k' : Int) (C : Ab) (K : KO β), 0 ≤ k' → k' + E4 (todo.map FD.f) R ≤ 4611686018427387904 →
    (∀ X, K (.sc (.int .i64 (Fz (todo.map FD.f) k' R).2)) (A ++ (SB A.length (TP ++ (t :: tR ++ TS)) (Q ++ (c' :: (Fz (todo.map FD.f) k' R).1 ++ S)) ++ (C ++ X))) = res) →
    L6 (PR n β) tS tI gT w (.sl A.length 0 len w) (.sc (.int .i64 i)) todo (.sc (.int .i64 k')) (A ++ (SB A.length (TP ++ (t :: tR ++ TS)) (Q ++ c' :: (R ++ S)) ++ C)) K = res := by
   intro c' k' C K h0' h1' h'
   have := AfX (tI := tI) (w := w) hT hi todo (off + 1) (Q ++ [c']) R S (TP ++ [t]) tR TS k' A C K hrest (by simp [ht]) (by simp [hq]; omega) hwR h0' h1' (fun X => by
    have := h' X
    rw [e1, e2, e3] at this
    exact this)
   rw [e3, e2]
   exact this
  obtain ⟨f, path, g⟩ := fd
  cases f with
  | skip =>
   have hc : ∃ v, c = .sc v := by
    cases c <;> first | exact ⟨_, rfl⟩ | exact hwc.elim
   obtain ⟨v, rfl⟩ := hc
   exact go (.sc v) k C K h0 (by simpa [F4] using h1) h
  | sub fs =>
   have hc : ∃ m cells, c = .ro m cells := by
    cases c with
    | ro m cells => exact ⟨m, cells, rfl⟩
    | sc v => exact hwc.elim
    | _ => exact hwc.elim
   obtain ⟨m, cells, rfl⟩ := hc
   obtain ⟨hh, hx, ⟨j1, j2, hj1, hj2⟩, hmk'⟩ := hsub
   have hk' := Ox (.ro m cells) (.sub fs) k
   have h1 : k + (F4 (.sub fs) (.ro m cells) + E4 (todo.map FD.f) R : Nat) ≤ 4611686018427387904 := h1
   show (Dj w (.sl A.length 0 len w) (.sc (.int .i64 i)) fun t => Ew (PR n β) path t fun t => Bx false 1 t _ fun v => (PR n β).call tI (.fn g [] []) [v, .sc (.int .i64 k)] _ fun k H => L6 (PR n β) tS tI gT w _ _ todo k H K) = res
   rw [hpl]
   rw [e4, e1]
   refine AnD ht rfl hh hx (hmk' m cells k hwc h0 (by omega)) (fun M => ?_) (Mb _ _ _) fun X => ?_
   ·rw [Qt hj1 hj2]
    show (Bk Ak E0.tp M t (.ro m _)).1 = _
    rw [Qt hj1 hj2]
   ·refine go _ _ (C ++ X) K (by omega) (by omega) fun Y => ?_
    rw [zaf]
    exact h (X ++ Y)
  | str =>
   have hc : ∃ s, c = .sc (.string s) := by
    cases c with
    | sc v => cases v <;> first | exact ⟨_, rfl⟩ | exact hwc.elim
    | _ => exact hwc.elim
   obtain ⟨v, rfl⟩ := hc
   have h1 : k + (1 + E4 (todo.map FD.f) R : Nat) ≤ 4611686018427387904 := h1
   show (PR n β).call tS (.fn gT [] []) [.sc (.int .i64 k)] _ (fun s H => Dj w (.sl A.length 0 len w) (.sc (.int .i64 i)) fun t => Ew (PR n β) path t fun t => Ej 1 t s H fun H => Bz .add (.sc (.int .i64 k)) (.sc (.int .i64 1)) fun k => L6 (PR n β) tS tI gT w _ _ todo k H K) = res
   rw [AaT hT h0 (by omega)]
   simp only [hpl]
   rw [e4, e1, S1 ht rfl rfl, AaJ _ _ h0 (by omega)]
   exact go _ _ C K (by omega) (by omega) h
  | int =>
   have hc : ∃ z, c = .sc (.int .i64 z) := by
    cases c with
    | sc v => cases v with
     | int kd z => cases kd <;> first | exact ⟨_, rfl⟩ | exact hwc.elim
     | _ => exact hwc.elim
    | _ => exact hwc.elim
   obtain ⟨v, rfl⟩ := hc
   have h1 : k + (1 + E4 (todo.map FD.f) R : Nat) ≤ 4611686018427387904 := h1
   show (Dj w (.sl A.length 0 len w) (.sc (.int .i64 i)) fun t => Ew (PR n β) path t fun t => Ej 1 t (.sc (.int .i64 k)) _ fun H => Bz .add (.sc (.int .i64 k)) (.sc (.int .i64 1)) fun k => L6 (PR n β) tS tI gT w _ _ todo k H K) = res
   rw [hpl]
   rw [e4, e1, S1 ht rfl rfl, AaJ _ _ h0 (by omega)]
   exact go _ _ C K (by omega) (by omega) h
  | bool =>
   have hc : ∃ b, c = .sc (.bool b) := by
    cases c with
    | sc v => cases v <;> first | exact ⟨_, rfl⟩ | exact hwc.elim
    | _ => exact hwc.elim
   obtain ⟨v, rfl⟩ := hc
   have h1 : k + (1 + E4 (todo.map FD.f) R : Nat) ≤ 4611686018427387904 := h1
   show (Dj w (.sl A.length 0 len w) (.sc (.int .i64 i)) fun t => Ew (PR n β) path t fun t => Ej 1 t (.sc (.bool (k.tmod 3 == 0))) _ fun H => Bz .add (.sc (.int .i64 k)) (.sc (.int .i64 1)) fun k => L6 (PR n β) tS tI gT w _ _ todo k H K) = res
   rw [hpl]
   rw [e4, e1, S1 ht rfl rfl, AaJ _ _ h0 (by omega)]
   exact go _ _ C K (by omega) (by omega) h
  | byt =>
   have hc : ∃ z, c = .sc (.int .u8 z) := by
    cases c with
    | sc v => cases v with
     | int kd z => cases kd <;> first | exact ⟨_, rfl⟩ | exact hwc.elim
     | _ => exact hwc.elim
    | _ => exact hwc.elim
   obtain ⟨v, rfl⟩ := hc
   have h1 : k + (1 + E4 (todo.map FD.f) R : Nat) ≤ 4611686018427387904 := h1
   show (Dj w (.sl A.length 0 len w) (.sc (.int .i64 i)) fun t => Ew (PR n β) path t fun t => Ej 1 t (.sc (.int .u8 (IntKind.u8.wrap k))) _ fun H => Bz .add (.sc (.int .i64 k)) (.sc (.int .i64 1)) fun k => L6 (PR n β) tS tI gT w _ _ todo k H K) = res
   rw [hpl]
   rw [e4, e1, S1 ht rfl rfl, AaJ _ _ h0 (by omega)]
   exact go _ _ C K (by omega) (by omega) h
end fns
end
section
open Go
variable {β : Type} {n : Nat} {res : Option β}
theorem AaG {n : Nat} : ∀ {off : Nat} {fds : List FD} {ts : List Nat}, AfN n off fds ts → fds.length = ts.length
 | _, [], [], _ => rfl
 | _, _ :: _, _ :: _, h => by simp [AaG h.2.2]
 | _, [], _ :: _, h => h.elim
 | _, _ :: _, [], h => h.elim
theorem Ait (id off m w : Nat) (k : AV → Option β) : Ik (.sl id off m w) k = k (.sc (.int .i64 m)) := rfl
theorem Aiy {tS tI gT w len : Nat} {cty : List Nat} {fds : List FD} (hT : Rx n tS gT) (hf : AfN n 0 fds cty) (hw : fds.length = w) (hlen : len ≤ 1048576) (L : Nat → AV → AV → KO β) (kk : KO β)
  (hL : ∀ m a k i H, L (m + 1) a k i H = Ik a fun t8 => Bz .lss i t8 fun t9 => C8 t9 (L6 (PR n β) tS tI gT w a i fds k H fun k' H => Bz .add i (.sc (.int .i64 1)) fun i' => L m a k' i' H) (kk k H)) :
  ∀ (r i m : Nat) (P S : List AV) (TP : List Nat) (k : Int) (A C : Ab), P.length = i * w → TP.length = P.length → i + r = len → r < m → N6 (Ix r (fds.map FD.f)) S → 0 ≤ k → k + E4 (Ix r (fds.map FD.f)) S ≤ 4611686018427387904 →
   (∀ X, kk (.sc (.int .i64 (Fz (Ix r (fds.map FD.f)) k S).2)) (A ++ (SB A.length (TP ++ (zak r cty).flatten) (P ++ (Fz (Ix r (fds.map FD.f)) k S).1) ++ (C ++ X))) = res) →
   L m (.sl A.length 0 len w) (.sc (.int .i64 k)) (.sc (.int .i64 i)) (A ++ (SB A.length (TP ++ (zak r cty).flatten) (P ++ S) ++ C)) = res
 | 0, i, m + 1, P, S, TP, k, A, C, hP, hTP, hr, hm, hwf, h0, h1, h => by
  have hS : S = [] := by
   have := M2 hwf
   simp [Ix] at this
   exact zar this.symm
  subst hS
  obtain rfl : i = len := by omega
  rw [hL]
  rw [Ait, Hg, C1, if_neg (by simp)]
  have := h []
  simp only [zam, Fz] at this ⊢
  exact this
 | r + 1, i, m + 1, P, S, TP, k, A, C, hP, hTP, hr, hm, hwf, h0, h1, h => by
  have hi : i < len := by omega
  have hml : (fds.map FD.f).length = w := by simp [hw]
  have hSl : S.length = (r + 1) * w := by
   have := M2 hwf
   rw [AbD, hml] at this
   exact this.symm
  obtain ⟨R, S', rfl, hRl⟩ : ∃ R S', S = R ++ S' ∧ R.length = w := ⟨S.take w, S.drop w, (zaV w S).symm, by rw [zbc, hSl, zb3]; omega⟩
  rw [Jl] at hwf h1 h
  have hl : (fds.map FD.f).length = R.length := by rw [hml, hRl]
  obtain ⟨hwR, hwS⟩ := (Kg hl).1 hwf
  rw [Jh _ _ _ _ hl] at h1
  rw [Mc _ _ _ _ _ hl] at h
  have hkc := M0 R (fds.map FD.f) k
  have hRl' := Qv R (fds.map FD.f) k
  have hcl : cty.length = w := by rw [← AaG hf, hw]
  rw [zbn, za3] at h ⊢
  rw [hL]
  rw [Ait, Hg, C1, if_pos (by simpa using hi)]
  refine AfX (w := w) (tI := tI) hT hi fds 0 P R S' TP cty (zak r cty).flatten k A C _ hf hTP (by rw [hP, zaR]) hwR h0 (by omega) fun X => ?_
  rw [Hf _ _ (by omega)]
  have ih := Aiy hT hf hw hlen L kk hL r (i + 1) m (P ++ (Fz (fds.map FD.f) k R).1) S' (TP ++ cty) (Fz (fds.map FD.f) k R).2 A (C ++ X) (by rw [zae, hP, hRl', hRl, zb3]) (by rw [zae, zae, hTP, hcl, hRl', hRl]) (by omega) (by omega) hwS (by omega) (by omega) (fun Y => by
   have := h (X ++ Y)
   simp only [zaf] at this ⊢
   exact this)
  simp only [zaf] at ih ⊢
  exact ih
theorem So {tS tI gT w f tyS : Nat} {cty : List Nat} {fds : List FD} (hh : E0.hm f = true) (hx : E0.ext f = none) (hT : Rx n tS gT) (hf : AfN n 0 fds cty) (hw : fds.length = w) (hty : ∃ i j, Ak tyS = some i ∧ Ak i.elem = some j ∧ j.size = w ∧ j.cty = cty) (hn : 1048576 < n)
  (L : (β : Type) → (KO β) → Nat → AV → AV → KO β)
  (hL : ∀ β kk m a k i H, L β kk (m + 1) a k i H = Ik a fun t8 => Bz .lss i t8 fun t9 => C8 t9 (L6 (PR n β) tS tI gT w a i fds k H fun k' H => Bz .add i (.sc (.int .i64 1)) fun i' => L β kk m a k' i' H) (kk k H))
  (hF : ∀ β a b H kk, Dy E0 (n + 1) β f [a, b] H kk = L β kk n a b (.sc (.int .i64 0)) H) : M4 (n + 1) f tyS (fds.map FD.f) := by
 obtain ⟨ti, tj, h1, h2, h3, h4⟩ := hty
 refine ⟨hh, hx, ⟨ti, tj, h1, h2⟩, fun len cells k hwf h0 hb => ?_⟩
 intro β A C K r h
 obtain ⟨hlen, hcl, hwl⟩ := (show len ≤ 1048576 ∧ cells.length = len * (fds.map FD.f).length ∧ N6 (Ix len (fds.map FD.f)) cells from hwf)
 rw [hF, Qt h1 h2, h3, h4]
 have hmk : H4 (.sub (fds.map FD.f)) k (.ro len cells) = (.ro len (Fz (Ix len (fds.map FD.f)) k cells).1, (Fz (Ix len (fds.map FD.f)) k cells).2) := rfl
 rw [hmk] at h
 simp only [Qt h1 h2, h3, h4] at h
 exact Aiy (n := n) (cty := cty) hT hf hw hlen (L β K) K (hL β K) len 0 n [] cells [] k A C (by simp) rfl (by omega) (by omega) hwl h0 hb h
theorem AfW {tS tI gT w len i : Nat} {F : Ab → Option β} (hT : Rx n tS gT) (hi : i < len) (cells : List AV) (hw0 : i * w < cells.length) : ∀ (todo : List FD) (off : Nat) (Q R S : List AV) (k : Int) (H : Ab) (K : KO β),
  Ajh n off todo → Q.length = i * w + off → N6 (todo.map FD.f) R → 0 ≤ k → k + E4 (todo.map FD.f) R ≤ 4611686018427387904 → cells = Q ++ ((Fz (todo.map FD.f) k R).1 ++ S) →
  (∀ X, K (.sc (.int .i64 (Fz (todo.map FD.f) k R).2)) (H ++ X) = res) →
  L5 (PR n β) tS tI gT w (.ro len cells) (.sc (.int .i64 i)) F todo (.sc (.int .i64 k)) H K = res
 | [], off, Q, R, S, k, H, K, hf, hq, hw, h0, h1, hc, h => by
  cases R with
  | nil =>
   have := h []
   rw [zam] at this
   exact this
  | cons c R => exact absurd rfl hw.1
 | fd :: todo, off, Q, R, S, k, H, K, hf, hq, hw, h0, h1, hc, h => by
  cases R with
  | nil => exact absurd (show fd.f :: todo.map FD.f = [] from hw) (by simp)
  | cons c R =>
  obtain ⟨hpath, hsub, hrest⟩ := hf
  obtain ⟨hwc, hwR⟩ := wfL_cons.1 hw
  have hmk : Fz ((fd :: todo).map FD.f) k (c :: R) = ((H4 fd.f k c).1 :: (Fz (todo.map FD.f) (H4 fd.f k c).2 R).1, (Fz (todo.map FD.f) (H4 fd.f k c).2 R).2) := rfl
  rw [hmk] at h hc
  have hcells : cells = Q ++ (H4 fd.f k c).1 :: ((Fz (todo.map FD.f) (H4 fd.f k c).2 R).1 ++ S) := hc
  have hpl : ∀ K' : AV → Option β, (Dj w (.ro len cells) (.sc (.int .i64 i)) fun t => Ew (PR n β) fd.path t fun t => Bx false 1 t H K') = K' (H4 fd.f k c).1 := fun K' => by
   rw [Ot w _ _ i _ hi hw0, Abh, hpath, zbq, ← hq]
   conv => lhs; rw [hcells]
   rw [za5 (zao _), zaW, zai, P2]
  have go : ∀ (H' : Ab), (∀ X, K (.sc (.int .i64 (Fz (todo.map FD.f) (H4 fd.f k c).2 R).2)) (H' ++ X) = res) → 0 ≤ (H4 fd.f k c).2 → (H4 fd.f k c).2 + E4 (todo.map FD.f) R ≤ 4611686018427387904 →
    L5 (PR n β) tS tI gT w (.ro len cells) (.sc (.int .i64 i)) F todo (.sc (.int .i64 (H4 fd.f k c).2)) H' K = res := by
   intro H' h' g0 g1
   exact AfW hT hi cells hw0 todo (off + 1) (Q ++ [(H4 fd.f k c).1]) R S (H4 fd.f k c).2 H' K hrest (by simp [hq]; omega) hwR g0 g1 (by rw [hcells]; simp) h'
  have hcnt := Ox c fd.f k
  have h1 : k + (F4 fd.f c + E4 (todo.map FD.f) R : Nat) ≤ 4611686018427387904 := h1
  obtain ⟨f, path, g⟩ := fd
  simp only at hcnt h1 hpl go h
  cases f with
  | skip =>
   have hc : ∃ v, c = .sc v := by
    cases c <;> first | exact ⟨_, rfl⟩ | exact hwc.elim
   obtain ⟨v, rfl⟩ := hc
   exact go H h h0 (by simpa [F4, H4] using h1)
  | sub fs =>
   have hc : ∃ m cells, c = .ro m cells := by
    cases c with
    | ro m cells => exact ⟨m, cells, rfl⟩
    | sc v => exact hwc.elim
    | _ => exact hwc.elim
   obtain ⟨m, cs, rfl⟩ := hc
   obtain ⟨hh, hhe⟩ := hsub
   show (Dj w (.ro len cells) (.sc (.int .i64 i)) fun t => Ew (PR n β) path t fun t => Bx false 1 t H fun v => (PR n β).call tI (.fn g [] []) [v, .sc (.int .i64 k)] H fun k H => Bz .lss k (.sc (.int .i64 0)) fun b => C8 b (F H) (L5 (PR n β) tS tI gT w _ _ F todo k H K)) = res
   rw [hpl, Ha (vs := [(H4 (.sub fs) k (.ro m cs)).1, .sc (.int .i64 k)]) hh rfl (hhe tI m cs k hwc h0 (by omega)), F8, zam]
   simp only
   rw [Ns, C1, if_neg (by simp; omega)]
   exact go H h (by omega) (by omega)
  | str =>
   have hc : ∃ s, c = .sc (.string s) := by
    cases c with
    | sc v => cases v <;> first | exact ⟨_, rfl⟩ | exact hwc.elim
    | _ => exact hwc.elim
   obtain ⟨v, rfl⟩ := hc
   have h1 : k + (1 + E4 (todo.map FD.f) R : Nat) ≤ 4611686018427387904 := h1
   have hpl' : ∀ K' : AV → Option β, (Dj w (.ro len cells) (.sc (.int .i64 i)) fun t => Ew (PR n β) path t fun t => Bx false 1 t H K') = K' (.sc (.string (Af5 k))) := hpl
   show (Dj w (.ro len cells) (.sc (.int .i64 i)) fun t => Ew (PR n β) path t fun t => Bx false 1 t H fun v => (PR n β).call tS (.fn gT [] []) [.sc (.int .i64 k)] H fun s H => Bz .neq v s fun b => C8 b (F H) (Bz .add (.sc (.int .i64 k)) (.sc (.int .i64 1)) fun k => L5 (PR n β) tS tI gT w _ _ F todo k H K)) = res
   rw [hpl', AaT hT h0 (by omega), ApX]
   simp only [beq_self_eq_true, zau]
   rw [C1, if_neg (by simp), AaJ _ _ h0 (by omega)]
   exact go H h (by show 0 ≤ k + 1; omega) (by show k + 1 + _ ≤ _; omega)
  | int =>
   have hc : ∃ z, c = .sc (.int .i64 z) := by
    cases c with
    | sc v => cases v with
     | int kd z => cases kd <;> first | exact ⟨_, rfl⟩ | exact hwc.elim
     | _ => exact hwc.elim
    | _ => exact hwc.elim
   obtain ⟨v, rfl⟩ := hc
   have h1 : k + (1 + E4 (todo.map FD.f) R : Nat) ≤ 4611686018427387904 := h1
   have hpl' : ∀ K' : AV → Option β, (Dj w (.ro len cells) (.sc (.int .i64 i)) fun t => Ew (PR n β) path t fun t => Bx false 1 t H K') = K' (.sc (.int .i64 k)) := hpl
   show (Dj w (.ro len cells) (.sc (.int .i64 i)) fun t => Ew (PR n β) path t fun t => Bx false 1 t H fun v => Bz .neq v (.sc (.int .i64 k)) fun b => C8 b (F H) (Bz .add (.sc (.int .i64 k)) (.sc (.int .i64 1)) fun k => L5 (PR n β) tS tI gT w _ _ F todo k H K)) = res
   rw [hpl', Ama]
   simp only [bne_self_eq_false]
   rw [C1, if_neg (by simp), AaJ _ _ h0 (by omega)]
   exact go H h (by show 0 ≤ k + 1; omega) (by show k + 1 + _ ≤ _; omega)
  | bool =>
   have hc : ∃ b, c = .sc (.bool b) := by
    cases c with
    | sc v => cases v <;> first | exact ⟨_, rfl⟩ | exact hwc.elim
    | _ => exact hwc.elim
   obtain ⟨v, rfl⟩ := hc
   have h1 : k + (1 + E4 (todo.map FD.f) R : Nat) ≤ 4611686018427387904 := h1
   have hpl' : ∀ K' : AV → Option β, (Dj w (.ro len cells) (.sc (.int .i64 i)) fun t => Ew (PR n β) path t fun t => Bx false 1 t H K') = K' (.sc (.bool (k.tmod 3 == 0))) := hpl
   show (Dj w (.ro len cells) (.sc (.int .i64 i)) fun t => Ew (PR n β) path t fun t => Bx false 1 t H fun v => Nw .neq v (.sc (.bool (k.tmod 3 == 0))) fun b => C8 b (F H) (Bz .add (.sc (.int .i64 k)) (.sc (.int .i64 1)) fun k => L5 (PR n β) tS tI gT w _ _ F todo k H K)) = res
   rw [hpl', ApW]
   simp only [beq_self_eq_true, zau]
   rw [C1, if_neg (by simp), AaJ _ _ h0 (by omega)]
   exact go H h (by show 0 ≤ k + 1; omega) (by show k + 1 + _ ≤ _; omega)
  | byt =>
   have hc : ∃ z, c = .sc (.int .u8 z) := by
    cases c with
    | sc v => cases v with
     | int kd z => cases kd <;> first | exact ⟨_, rfl⟩ | exact hwc.elim
     | _ => exact hwc.elim
    | _ => exact hwc.elim
   obtain ⟨v, rfl⟩ := hc
   have h1 : k + (1 + E4 (todo.map FD.f) R : Nat) ≤ 4611686018427387904 := h1
   have hpl' : ∀ K' : AV → Option β, (Dj w (.ro len cells) (.sc (.int .i64 i)) fun t => Ew (PR n β) path t fun t => Bx false 1 t H K') = K' (.sc (.int .u8 (IntKind.u8.wrap k))) := hpl
   show (Dj w (.ro len cells) (.sc (.int .i64 i)) fun t => Ew (PR n β) path t fun t => Bx false 1 t H fun v => Bz .neq v (.sc (.int .u8 (IntKind.u8.wrap k))) fun b => C8 b (F H) (Bz .add (.sc (.int .i64 k)) (.sc (.int .i64 1)) fun k => L5 (PR n β) tS tI gT w _ _ F todo k H K)) = res
   rw [hpl']
   show C8 (.sc (.bool (IntKind.u8.wrap k != IntKind.u8.wrap k))) _ _ = res
   simp only [bne_self_eq_false]
   rw [C1, if_neg (by simp), AaJ _ _ h0 (by omega)]
   exact go H h (by show 0 ≤ k + 1; omega) (by show k + 1 + _ ≤ _; omega)
theorem Aix {tS tI gT w len : Nat} {fds : List FD} (hT : Rx n tS gT) (hf : Ajh n 0 fds) (hw : fds.length = w) (hw0 : 0 < w) (hlen : len ≤ 1048576) (cells : List AV) (L : Nat → AV → AV → KO β) (kk : KO β)
  (hL : ∀ m a k i H, L (m + 1) a k i H = Ik a fun t8 => Bz .lss i t8 fun t9 => C8 t9 (L5 (PR n β) tS tI gT w a i (fun H => kk (.sc (.int .i64 (-1))) H) fds k H fun k' H => Bz .add i (.sc (.int .i64 1)) fun i' => L m a k' i' H) (kk k H)) :
  ∀ (r i m : Nat) (P S : List AV) (k : Int) (H : Ab), P.length = i * w → i + r = len → r < m → N6 (Ix r (fds.map FD.f)) S → 0 ≤ k → k + E4 (Ix r (fds.map FD.f)) S ≤ 4611686018427387904 → cells = P ++ (Fz (Ix r (fds.map FD.f)) k S).1 →
   (∀ X, kk (.sc (.int .i64 (Fz (Ix r (fds.map FD.f)) k S).2)) (H ++ X) = res) →
   L m (.ro len cells) (.sc (.int .i64 k)) (.sc (.int .i64 i)) H = res
 | 0, i, m + 1, P, S, k, H, hP, hr, hm, hwf, h0, h1, hc, h => by
  have hS : S = [] := by
   have := M2 hwf
   simp [Ix] at this
   exact zar this.symm
  subst hS
  obtain rfl : i = len := by omega
  rw [hL, F9, Hg, C1, if_neg (by simp)]
  have := h []
  simp only [zam, Fz] at this ⊢
  exact this
 | r + 1, i, m + 1, P, S, k, H, hP, hr, hm, hwf, h0, h1, hc, h => by
  have hi : i < len := by omega
  have hml : (fds.map FD.f).length = w := by simp [hw]
  have hSl : S.length = (r + 1) * w := by
   have := M2 hwf
   rw [AbD, hml] at this
   exact this.symm
  obtain ⟨R, S', rfl, hRl⟩ : ∃ R S', S = R ++ S' ∧ R.length = w := ⟨S.take w, S.drop w, (zaV w S).symm, by rw [zbc, hSl, zb3]; omega⟩
  rw [Jl] at hwf h1 h hc
  have hl : (fds.map FD.f).length = R.length := by rw [hml, hRl]
  obtain ⟨hwR, hwS⟩ := (Kg hl).1 hwf
  rw [Jh _ _ _ _ hl] at h1
  rw [Mc _ _ _ _ _ hl] at h hc
  have hkc := M0 R (fds.map FD.f) k
  have hRl' := Qv R (fds.map FD.f) k
  have hcl : i * w < cells.length := by
   rw [hc, zae, zae, hRl', hRl, hP]
   omega
  rw [hL, F9, Hg, C1, if_pos (by simpa using hi)]
  refine AfW (w := w) (tI := tI) hT hi cells hcl fds 0 P R (Fz (Ix r (fds.map FD.f)) (Fz (fds.map FD.f) k R).2 S').1 k H _ hf (by rw [hP, zaR]) hwR h0 (by omega) hc fun X => ?_
  rw [Hf _ _ (by omega)]
  exact Aix hT hf hw hw0 hlen cells L kk hL r (i + 1) m (P ++ (Fz (fds.map FD.f) k R).1) S' (Fz (fds.map FD.f) k R).2 (H ++ X) (by rw [zae, hP, hRl', hRl, zb3]) (by omega) (by omega) hwS (by omega) (by omega) (by rw [hc, zaf]) (fun Y => by
   have := h (X ++ Y)
   rw [zaf]
   exact this)
theorem Sh {tS tI gT w f : Nat} {fds : List FD} (hh : Ek f = false) (hT : Rx n tS gT) (hf : Ajh n 0 fds) (hw : fds.length = w) (hw0 : 0 < w) (hn : 1048576 < n)
  (L : (AV → Ab → Option AV) → Nat → AV → AV → AV → Ab → Option AV)
  (hL : ∀ kk m a k i H, L kk (m + 1) a k i H = Ik a fun t8 => Bz .lss i t8 fun t9 => C8 t9 (L5 (PR n AV) tS tI gT w a i (fun H => kk (.sc (.int .i64 (-1))) H) fds k H fun k' H => Bz .add i (.sc (.int .i64 1)) fun i' => L kk m a k' i' H) (kk k H))
  (hF : ∀ a b H kk, Dy E0 (n + 1) AV f [a, b] H kk = L kk n a b (.sc (.int .i64 0)) H) : N9 (n + 1) f (fds.map FD.f) := by
 refine ⟨hh, fun ty len cells k hwf h0 hb => ?_⟩
 obtain ⟨hlen, hcl, hwl⟩ := (show len ≤ 1048576 ∧ cells.length = len * (fds.map FD.f).length ∧ N6 (Ix len (fds.map FD.f)) cells from hwf)
 rw [At, hF]
 exact Aix (n := n) hT hf hw hw0 hlen (Fz (Ix len (fds.map FD.f)) k cells).1 (L fun x H => A4 Ak E0.tp ty H x) (fun x H => A4 Ak E0.tp ty H x) (hL _) len 0 n [] cells k [] (by simp) (by omega) (by omega) hwl h0 hb rfl (fun X => rfl)
end
section
open Go
section txt
theorem AiS (v : AV) (h : Ev v = some [v]) : Ji [(.sc (.int .u8 0))] [(0, 1, v)] = some [v] := by
 simp [Ji, h, Fh]
theorem AfK (H : Ab) (b : UInt8) : Dn (H ++ [⟨[.sc (.int .u8 b.toNat)], true, true⟩]) 1 (.sl H.length 0 1 1) = some [.sc (.int .u8 b.toNat)] := by
 simp only [Dn, if_true, As, Ti H _ []]
 rfl
theorem Agg {k : Nat} (h : ¬ k = 0) (out : ByteArray) : Acm k out = Acm (k / 10) (⟨#[UInt8.ofNat (48 + k % 10)]⟩ ++ out) := by
 rw [Acm, dif_neg h]
theorem AbR {n ty : Nat} (L : Nat → AV → AV → Ab → Option AV)
  (hL : ∀ m k s H, L (m + 1) k s H = Bz .gtr k (.sc (.int .i64 0)) fun t7 => C8 t7 (Bz .rem k (.sc (.int .i64 10)) fun t9 => Bz .add (.sc (.int .i64 48)) t9 fun t10 => Xs .u8 t10 fun t11 =>
   (Ji [(.sc (.int .u8 0))] [(0, 1, t11)]).bind fun ct12 => G5 1 1 ct12 true H fun t12 H => O8 t12 H fun t13 => Bz .add t13 s fun t15 => Bz .quo k (.sc (.int .i64 10)) fun t17 => L m t17 t15 H)
   (Bz .add (.sc (.string ⟨#[109]⟩)) s fun t19 => A4 Ak E0.tp ty H t19)) :
  ∀ (b m k : Nat) (out : ByteArray) (H : Ab), k ≤ 4611686018427387904 → k < 10 ^ b → b < m → out.size + b ≤ 1000 → L m (.sc (.int .i64 k)) (.sc (.string out)) H = some (.sc (.string (⟨#[109]⟩ ++ Acm k out)))
 | b, 0, k, out, H, hk0, h1, h2, h3 => by omega
 | b, m + 1, k, out, H, hk0, h1, h2, h3 => by
  rw [hL, AlX, C1]
  by_cases hk : k = 0
  ·subst hk
   rw [if_neg (by simp)]
   have hs : (⟨#[109]⟩ : ByteArray).size + out.size ≤ 9223372036854775807 := by
    show 1 + out.size ≤ _
    omega
   show (Yq .add ⟨#[109]⟩ out).bind _ = _
   simp only [Yq, if_pos hs, zad]
   rw [Acm, dif_pos rfl]
   rfl
  ·rw [if_pos (by simp; omega)]
   have e9 : ∀ K : AV → Option AV, Bz .rem (.sc (.int .i64 (k : Int))) (.sc (.int .i64 10)) K = K (.sc (.int .i64 ((k % 10 : Nat) : Int))) := by
    intro K
    show K (.sc (.int .i64 ((k : Int).tmod 10))) = _
    rw [show ((k : Int).tmod 10) = ((k % 10 : Nat) : Int) from by
     rw [zaC (by omega)]; simp]
   have e10 : ∀ K : AV → Option AV, Bz .add (.sc (.int .i64 48)) (.sc (.int .i64 ((k % 10 : Nat) : Int))) K = K (.sc (.int .i64 ((48 + k % 10 : Nat) : Int))) := by
    intro K
    show K (.sc (.int .i64 (IntKind.i64.wrap (48 + ((k % 10 : Nat) : Int))))) = _
    rw [Ic _ (by omega) (by omega)]
    rfl
   have e11 : ∀ K : AV → Option AV, Xs .u8 (.sc (.int .i64 ((48 + k % 10 : Nat) : Int))) K = K (.sc (.int .u8 ((UInt8.ofNat (48 + k % 10)).toNat : Int))) := by
    intro K
    show K (.sc (.int .u8 (IntKind.u8.wrap ((48 + k % 10 : Nat) : Int)))) = _
    have : (UInt8.ofNat (48 + k % 10)).toNat = 48 + k % 10 := by
     rw [UInt8.toNat_ofNat']
     omega
    rw [this]
    have hw : IntKind.u8.wrap ((48 + k % 10 : Nat) : Int) = ((48 + k % 10 : Nat) : Int) := by
     have h10 : k % 10 < 10 := Nat.mod_lt _ (by decide)
     unfold IntKind.wrap
     simp [IntKind.bits, IntKind.signed]
     omega
    rw [hw]
   have e17 : ∀ K : AV → Option AV, Bz .quo (.sc (.int .i64 (k : Int))) (.sc (.int .i64 10)) K = K (.sc (.int .i64 ((k / 10 : Nat) : Int))) := by
    intro K
    show K (.sc (.int .i64 (IntKind.i64.wrap ((k : Int).tdiv 10)))) = _
    rw [Int.tdiv_eq_ediv_of_nonneg (by omega), Ic _ (by omega) (by omega)]
    rfl
   rw [e9, e10, e11, AiS _ rfl]
   have hb : ((UInt8.ofNat (48 + k % 10)).toNat : Int).toNat = (UInt8.ofNat (48 + k % 10)).toNat := zbg _
   have hbb : ([.sc (.int .u8 ((UInt8.ofNat (48 + k % 10)).toNat : Int))] : List AV).mapM Kx = some [UInt8.ofNat (48 + k % 10)] := K8 [UInt8.ofNat (48 + k % 10)]
   simp only [zad, G5, O8, AfK, hbb]
   have hs : (⟨#[UInt8.ofNat (48 + k % 10)]⟩ : ByteArray).size + out.size ≤ 9223372036854775807 := by
    show 1 + out.size ≤ _
    omega
   have e15 : ∀ K : AV → Option AV, Bz .add (.sc (.string ⟨[UInt8.ofNat (48 + k % 10)].toArray⟩)) (.sc (.string out)) K = K (.sc (.string (⟨#[UInt8.ofNat (48 + k % 10)]⟩ ++ out))) := by
    intro K
    show (Yq .add ⟨#[UInt8.ofNat (48 + k % 10)]⟩ out).bind _ = _
    simp only [Yq, if_pos hs, zad]
   rw [e15, e17]
   cases b with
   | zero => simp at h1; omega
   | succ b =>
    have hk10 : k / 10 < 10 ^ b := by
     rw [Nat.pow_succ] at h1
     omega
    have hsz : (⟨#[UInt8.ofNat (48 + k % 10)]⟩ ++ out : ByteArray).size = 1 + out.size := by
     rw [zah]
     rfl
    rw [AbR (n := n) (ty := ty) L hL b m (k / 10) _ _ (by omega) hk10 (by omega) (by rw [hsz]; omega)]
    rw [Agg hk out]
end txt
theorem AnV {n tS f : Nat} (hh : Ek f = false) (hn : 1048576 < n) (L : (AV → Ab → Option AV) → Nat → AV → AV → Ab → Option AV)
  (hL : ∀ kk m k s H, L kk (m + 1) k s H = Bz .gtr k (.sc (.int .i64 0)) fun t7 => C8 t7 (Bz .rem k (.sc (.int .i64 10)) fun t9 => Bz .add (.sc (.int .i64 48)) t9 fun t10 => Xs .u8 t10 fun t11 =>
   (Ji [(.sc (.int .u8 0))] [(0, 1, t11)]).bind fun ct12 => G5 1 1 ct12 true H fun t12 H => O8 t12 H fun t13 => Bz .add t13 s fun t15 => Bz .quo k (.sc (.int .i64 10)) fun t17 => L kk m t17 t15 H)
   (Bz .add (.sc (.string ⟨#[109]⟩)) s fun t19 => kk t19 H))
  (hF : ∀ a H kk, Dy E0 (n + 1) AV f [a] H kk = Bz .leq a (.sc (.int .i64 0)) fun t5 => C8 t5 (kk (.sc (.string ⟨#[109, 48]⟩)) H) (L kk n a (.sc (.string ⟨#[]⟩)) H)) : Rx (n + 1) tS f := by
 refine ⟨hh, fun k h0 h1 => ?_⟩
 rw [At, hF, Zi, C1]
 by_cases hk : k ≤ 0
 ·rw [if_pos (by simpa using hk), Apj, Af5, if_pos hk]
  rfl
 ·rw [if_neg (by simpa using hk)]
  obtain ⟨m, rfl⟩ : ∃ m : Nat, k = m := ⟨k.toNat, by omega⟩
  have := AbR (n := n) (ty := tS) (L fun x H => A4 Ak E0.tp tS H x) (hL _) 19 n m ⟨#[]⟩ [] (by omega) (by omega) (by omega) (by decide)
  rw [this, Af5, if_neg hk]
  rfl
inductive FV where
 | skip
 | sub (fs : List MF) (path : List Nat) (g : FuncId)
 | agg (l : List MF) (path : List Nat) (w : Nat) (g : FuncId)
def Dl : List FV → List MF
 | [] => []
 | .skip :: r => .skip :: Dl r
 | .sub fs _ _ :: r => .sub fs :: Dl r
 | .agg l _ _ _ :: r => l ++ Dl r
def Adf (n g : Nat) (cty : List Nat) (fs : List MF) : Prop := E0.hm g = true ∧ E0.ext g = none ∧ ∀ (cs : List AV) (k : Int) (β : Type) (A C : Ab) (K : KO β) (r : Option β), N6 fs cs → 0 ≤ k → k + E4 fs cs ≤ 4611686018427387904 →
 (∀ X, K (.sc (.int .i64 (Fz fs k cs).2)) (A ++ ((Ap Ak E0.tp A.length cty (Fz fs k cs).1).2 ++ (C ++ X))) = r) → Dy E0 n β g [.agg (Ap Ak E0.tp A.length cty cs).1, .sc (.int .i64 k)] (A ++ ((Ap Ak E0.tp A.length cty cs).2 ++ C)) K = r
def Ade (n g : Nat) (fs : List MF) : Prop := Ek g = false ∧ ∀ (ty : Nat) (cs : List AV) (k : Int), N6 fs cs → 0 ≤ k → k + E4 fs cs ≤ 4611686018427387904 → Cb E0 n ty g [.agg (Fz fs k cs).1, .sc (.int .i64 k)] = some (.sc (.int .i64 (Fz fs k cs).2))
def isV : MF → Bool
 | .skip => true
 | .sub _ => true
 | _ => false
def FvM (n : Nat) : Nat → List FV → List Nat → Prop
 | _, [], [] => True
 | off, .skip :: r, _ :: ts => FvM n (off + 1) r ts
 | off, .sub fs path g :: r, t :: ts => path.sum = off ∧ M4 n g t fs ∧ FvM n (off + 1) r ts
 | off, .agg l path w g :: r, ts => path.sum = off ∧ l.length = w ∧ 0 < w ∧ l.all isV = true ∧ Adf n g (ts.take w) l ∧ w ≤ ts.length ∧ FvM n (off + w) r (ts.drop w)
 | _, _, _ => False
def FvH (n : Nat) : Nat → List FV → Prop
 | _, [] => True
 | off, .skip :: r => FvH n (off + 1) r
 | off, .sub fs path g :: r => path.sum = off ∧ N9 n g fs ∧ FvH n (off + 1) r
 | off, .agg l path w g :: r => path.sum = off ∧ l.length = w ∧ 0 < w ∧ Ade n g l ∧ FvH n (off + w) r
section fns
variable {β : Type}
def R3 (p : Pr β) (tI : Nat) (x : AV) : List FV → AV → Ab → (KO β) → Option β
 | [], k, H, K => K k H
 | .skip :: r, k, H, K => R3 p tI x r k H K
 | .sub _ path g :: r, k, H, K => Ew p path x fun t => p.load false 1 t H fun v => p.call tI (.fn g [] []) [v, k] H fun k H => R3 p tI x r k H K
 | .agg _ path w g :: r, k, H, K => Ew p path x fun t => p.load true w t H fun v => p.call tI (.fn g [] []) [v, k] H fun k H => R3 p tI x r k H K
def Re (p : Pr β) (tI : Nat) (x : AV) (F : Ab → Option β) : List FV → AV → Ab → (KO β) → Option β
 | [], k, H, K => K k H
 | .skip :: r, k, H, K => Re p tI x F r k H K
 | .sub _ path g :: r, k, H, K => Ew p path x fun t => p.load false 1 t H fun v => p.call tI (.fn g [] []) [v, k] H fun k H => p.bin .lss k (.sc (.int .i64 0)) fun b => p.cond b (F H) (Re p tI x F r k H K)
 | .agg _ path w g :: r, k, H, K => Ew p path x fun t => p.load true w t H fun v => p.call tI (.fn g [] []) [v, k] H fun k H => p.bin .lss k (.sc (.int .i64 0)) fun b => p.cond b (F H) (Re p tI x F r k H K)
variable {n : Nat} {res : Option β}
theorem Xd {t g : Nat} {n : Nat} {fs : List MF} (h : M4 n g t fs) (k : Int) (m : Nat) (cells : List AV) (M : Nat) : (Bk Ak E0.tp M t (H4 (.sub fs) k (.ro m cells)).1).1 = (Bk Ak E0.tp M t (.ro m cells)).1 := by
 obtain ⟨_, _, ⟨j1, j2, hj1, hj2⟩, _⟩ := h
 rw [Qt hj1 hj2]
 show (Bk Ak E0.tp M t (.ro m _)).1 = _
 rw [Qt hj1 hj2]
theorem Xc {ti : Nat → Option TI} {tp : Nat → Option (List Nat)} : ∀ (cs : List AV) (fs : List MF) (k : Int) (N : Nat) (ts : List Nat), fs.all isV = true → N6 fs cs → (Ap ti tp N ts (Fz fs k cs).1).1 = (Ap ti tp N ts cs).1
 | [], fs, k, N, ts, _, _ => by simp [Fz]
 | c :: cs, [], k, N, ts, _, hw => absurd rfl hw.1
 | c :: cs, f :: fs, k, N, ts, hv, hw => by
  obtain ⟨h1, h2⟩ := wfL_cons.1 hw
  rw [zaz, zag] at hv
  have ih := Xc (ti := ti) (tp := tp) cs fs (H4 f k c).2 (N + G3 c) ts.tail hv.2 h2
  have hn := Mb c f k
  have e : (Bk ti tp N (ts.headD 0) (H4 f k c).1).1 = (Bk ti tp N (ts.headD 0) c).1 := by
   cases c with
   | sc v => cases f <;> first | rfl | (exfalso; simpa [isV] using hv.1)
   | ro m cells => cases f <;> first | rfl | exact h1.elim
   | _ => exact h1.elim
  show (Bk ti tp N (ts.headD 0) (H4 f k c).1).1 :: (Ap ti tp (N + (Bk ti tp N (ts.headD 0) (H4 f k c).1).2.length) ts.tail (Fz fs (H4 f k c).2 cs).1).1 = _ :: (Ap ti tp (N + (Bk ti tp N (ts.headD 0) c).2.length) ts.tail cs).1
  rw [I7, I7, e, hn, ih]
theorem Z8 {tI idx : Nat} {ys : List AV} : ∀ (todo : List FV) (off : Nat) (Q R : List AV) (TP tR : List Nat) (k : Int) (A D : Ab) (K : KO β),
  FvM n off todo tR → TP.length = Q.length → Q.length = off → N6 (Dl todo) R → 0 ≤ k → k + E4 (Dl todo) R ≤ 4611686018427387904 →
  (Ap Ak E0.tp A.length (TP ++ tR) (Q ++ R)).1 = ys → D[idx]? = some ⟨ys, true, true⟩ →
  (∀ X, K (.sc (.int .i64 (Fz (Dl todo) k R).2)) (A ++ ((Ap Ak E0.tp A.length (TP ++ tR) (Q ++ (Fz (Dl todo) k R).1)).2 ++ (D ++ X))) = res) →
  R3 (PR n β) tI (.ptr (A.length + En (Q ++ R) + idx) 0) todo (.sc (.int .i64 k)) (A ++ ((Ap Ak E0.tp A.length (TP ++ tR) (Q ++ R)).2 ++ D)) K = res
 | [], off, Q, R, TP, tR, k, A, D, K, hf, hT, hq, hw, h0, h1, hy, hD, h => by
  cases R with
  | nil =>
   have := h []
   rw [zam D] at this
   exact this
  | cons c R => exact absurd rfl hw.1
 | .skip :: todo, off, Q, R, TP, tR, k, A, D, K, hf, hT, hq, hw, h0, h1, hy, hD, h => by
  cases R with
  | nil => exact absurd (show MF.skip :: Dl todo = [] from hw) (by simp)
  | cons c R =>
  cases tR with
  | nil => exact hf.elim
  | cons t tR =>
  obtain ⟨hwc, hwR⟩ := wfL_cons.1 (show N6 (MF.skip :: Dl todo) (c :: R) from hw)
  obtain ⟨v, rfl⟩ : ∃ v, c = .sc v := by
   cases c <;> first | exact ⟨_, rfl⟩ | exact hwc.elim
  have e1 : Q ++ .sc v :: R = (Q ++ [.sc v]) ++ R := by simp
  have e2 : TP ++ t :: tR = (TP ++ [t]) ++ tR := by simp
  have h1 : k + (0 + E4 (Dl todo) R : Nat) ≤ 4611686018427387904 := h1
  rw [e1, e2] at hy ⊢
  refine Z8 todo (off + 1) (Q ++ [.sc v]) R (TP ++ [t]) tR k A D K hf (by simp [hT]) (by simp [hq]) hwR h0 (by omega) hy hD fun X => ?_
  have := h X
  rw [e2] at this
  simp only [zaf] at this ⊢
  exact this
 | .sub fs path g :: todo, off, Q, R, TP, tR, k, A, D, K, hf, hT, hq, hw, h0, h1, hy, hD, h => by
  cases R with
  | nil => exact absurd (show MF.sub fs :: Dl todo = [] from hw) (by simp)
  | cons c R =>
  cases tR with
  | nil => exact hf.elim
  | cons t tR =>
  obtain ⟨hpath, hmk, hrest⟩ := hf
  obtain ⟨hwc, hwR⟩ := wfL_cons.1 (show N6 (MF.sub fs :: Dl todo) (c :: R) from hw)
  obtain ⟨m, cells, rfl⟩ : ∃ m cells, c = .ro m cells := by
   cases c with
   | ro m cells => exact ⟨m, cells, rfl⟩
   | sc v => exact hwc.elim
   | _ => exact hwc.elim
  have h1 : k + (F4 (.sub fs) (.ro m cells) + E4 (Dl todo) R : Nat) ≤ 4611686018427387904 := h1
  have hk' := Ox (.ro m cells) (.sub fs) k
  have hn' := Mb (.ro m cells) (.sub fs) k
  have hs' := Xd hmk k m cells
  have hmk2 := hmk.2.2.2 m cells k hwc h0 (by omega)
  have hl : (Ap Ak E0.tp A.length TP Q).1.length = Q.length := Hv _ _ _
  have hsplit := fun (x : AV) => Sk (ti := Ak) (tp := E0.tp) TP tR t Q R x A.length hT
  rw [hsplit] at hy
  have hys : ys.drop off = (Bk Ak E0.tp (A.length + En Q) t (.ro m cells)).1 :: (Ap Ak E0.tp (A.length + En Q + G3 (.ro m cells)) tR R).1 := by
   rw [← hy, ← hq, ← hl, za5 (zao _), zaW, zai]
  have hlen : (Ap Ak E0.tp A.length (TP ++ t :: tR) (Q ++ .ro m cells :: R)).2.length = En (Q ++ .ro m cells :: R) := D2 _ _ _
  show (Ew (PR n β) path (.ptr (A.length + En (Q ++ .ro m cells :: R) + idx) 0) fun t => Bx false 1 t _ fun v => (PR n β).call tI (.fn g [] []) [v, .sc (.int .i64 k)] _ fun k H => R3 (PR n β) tI _ todo k H K) = res
  rw [Lt, hpath, za0]
  have hget : (A ++ ((Ap Ak E0.tp A.length (TP ++ t :: tR) (Q ++ .ro m cells :: R)).2 ++ D))[A.length + En (Q ++ .ro m cells :: R) + idx]? = some ⟨ys, true, true⟩ := by
   rw [zaj (by omega), zaj (by omega), hlen]
   rw [show A.length + En (Q ++ .ro m cells :: R) + idx - A.length - En (Q ++ .ro m cells :: R) = idx by omega]
   exact hD
  have hld : As (A ++ ((Ap Ak E0.tp A.length (TP ++ t :: tR) (Q ++ .ro m cells :: R)).2 ++ D)) (A.length + En (Q ++ .ro m cells :: R) + idx) off 1 = some [(Bk Ak E0.tp (A.length + En Q) t (.ro m cells)).1] := by
   have hle : off + 1 ≤ ys.length := by
    have := congrArg List.length hys
    rw [zbB, zan] at this
    omega
   simp only [As, hget, if_true, hle, hys]
   rfl
  rw [ldF hld, AaH hmk.1 hmk.2.1]
  have e : ∀ (x : AV) (B : Ab), A ++ ((Ap Ak E0.tp A.length (TP ++ t :: tR) (Q ++ x :: R)).2 ++ B) = (A ++ (Ap Ak E0.tp A.length TP Q).2) ++ ((Bk Ak E0.tp (A.length + En Q) t x).2 ++ ((Ap Ak E0.tp (A.length + En Q + G3 x) tR R).2 ++ B)) := by
   intro x B
   simp only [hsplit, zaf]
  have hN : (A ++ (Ap Ak E0.tp A.length TP Q).2).length = A.length + En Q := by rw [zae, D2]
  rw [e]
  have key := hmk2 β (A ++ (Ap Ak E0.tp A.length TP Q).2) ((Ap Ak E0.tp (A.length + En Q + G3 (.ro m cells)) tR R).2 ++ D) (fun k H => R3 (PR n β) tI (.ptr (A.length + En (Q ++ .ro m cells :: R) + idx) 0) todo k H K) res
  rw [hN] at key
  refine key fun X => ?_
  generalize hc' : (H4 (.sub fs) k (.ro m cells)).1 = c' at hn' hs' h ⊢
  have e1 : ∀ (Y : List AV), Q ++ c' :: Y = (Q ++ [c']) ++ Y := fun Y => by simp
  have e2 : TP ++ t :: tR = (TP ++ [t]) ++ tR := by simp
  have e3 : En (Q ++ .ro m cells :: R) = En ((Q ++ [c']) ++ R) := by
   rw [Hh, Hh, Hh]
   show En Q + (G3 (.ro m cells) + En R) = En Q + (G3 c' + 0) + En R
   rw [hn']
   omega
  have e4 := e c' (D ++ X)
  rw [hn'] at e4
  rw [zaf (Ap Ak E0.tp (A.length + En Q + G3 (.ro m cells)) tR R).2 D X, ← e4, e3, e2, e1 R]
  refine Z8 (tI := tI) (idx := idx) (ys := ys) todo (off + 1) (Q ++ [c']) R (TP ++ [t]) tR (H4 (.sub fs) k (.ro m cells)).2 A (D ++ X) K hrest (by simp [hT]) (by simp [hq]) hwR (by omega) (by omega) ?_ ?_ fun Y => ?_
  ·rw [← e1, ← e2, hsplit, hs', hn', hy]
  ·rw [zal (zac.1 hD).1]
   exact hD
  ·have := h (X ++ Y)
   have hm : Fz (Dl (.sub fs path g :: todo)) k (.ro m cells :: R) = (c' :: (Fz (Dl todo) (H4 (.sub fs) k (.ro m cells)).2 R).1, (Fz (Dl todo) (H4 (.sub fs) k (.ro m cells)).2 R).2) := by rw [← hc']; rfl
   rw [hm, e2, e1] at this
   rw [zaf D X Y]
   exact this
 | .agg l path w g :: todo, off, Q, R, TP, tR, k, A, D, K, hf, hT, hq, hw, h0, h1, hy, hD, h => by
  obtain ⟨hpath, hlw, hw0, hlv, hmk, hwt, hrest⟩ := hf
  have hRlen : w ≤ R.length := by
   have := M2 (show N6 (l ++ Dl todo) R from hw)
   rw [zae] at this
   omega
  obtain ⟨c, R, rfl, hcl⟩ : ∃ c R', R = c ++ R' ∧ c.length = w := ⟨R.take w, R.drop w, (zaV w R).symm, by rw [zbc]; omega⟩
  obtain ⟨t, tR, rfl, htl⟩ : ∃ c R', tR = c ++ R' ∧ c.length = w := ⟨tR.take w, tR.drop w, (zaV w tR).symm, by rw [zbc]; omega⟩
  rw [zbG htl] at hmk
  rw [List.drop_left' htl] at hrest
  have hlc : l.length = c.length := by rw [hlw, hcl]
  obtain ⟨hwc, hwR⟩ := (Kg hlc).1 (show N6 (l ++ Dl todo) (c ++ R) from hw)
  have h1 : k + (E4 l c + E4 (Dl todo) R : Nat) ≤ 4611686018427387904 := by
   have := Jh l (Dl todo) c R hlc
   rw [← this]
   exact h1
  have hk' := M0 c l k
  have hn' := Md c l k
  have hl' := Qv c l k
  have hs' := fun N => Xc (ti := Ak) (tp := E0.tp) c l k N t hlv hwc
  have hl : (Ap Ak E0.tp A.length TP Q).1.length = Q.length := Hv _ _ _
  have hsplit : ∀ x : List AV, x.length = c.length → Ap Ak E0.tp A.length (TP ++ (t ++ tR)) (Q ++ (x ++ R)) = ((Ap Ak E0.tp A.length TP Q).1 ++ ((Ap Ak E0.tp (A.length + En Q) t x).1 ++ (Ap Ak E0.tp (A.length + En Q + En x) tR R).1), (Ap Ak E0.tp A.length TP Q).2 ++ ((Ap Ak E0.tp (A.length + En Q) t x).2 ++ (Ap Ak E0.tp (A.length + En Q + En x) tR R).2)) := by
   intro x hx
   rw [Ig TP Q (t ++ tR) (x ++ R) _ hT, D2, Ig t x tR R _ (by rw [htl, hx, hcl]), D2]
  rw [hsplit c rfl] at hy
  have hil : (Ap Ak E0.tp (A.length + En Q) t c).1.length = w := by rw [Hv, hcl]
  have hys : ys.drop off = (Ap Ak E0.tp (A.length + En Q) t c).1 ++ (Ap Ak E0.tp (A.length + En Q + En c) tR R).1 := by
   rw [← hy, ← hq, ← hl, za5 (zao _), zaW, zai]
  have hlen : (Ap Ak E0.tp A.length (TP ++ (t ++ tR)) (Q ++ (c ++ R))).2.length = En (Q ++ (c ++ R)) := D2 _ _ _
  show (Ew (PR n β) path (.ptr (A.length + En (Q ++ (c ++ R)) + idx) 0) fun t => Bx true w t _ fun v => (PR n β).call tI (.fn g [] []) [v, .sc (.int .i64 k)] _ fun k H => R3 (PR n β) tI _ todo k H K) = res
  rw [Lt, hpath, za0]
  have hget : (A ++ ((Ap Ak E0.tp A.length (TP ++ (t ++ tR)) (Q ++ (c ++ R))).2 ++ D))[A.length + En (Q ++ (c ++ R)) + idx]? = some ⟨ys, true, true⟩ := by
   rw [zaj (by omega), zaj (by omega), hlen]
   rw [show A.length + En (Q ++ (c ++ R)) + idx - A.length - En (Q ++ (c ++ R)) = idx by omega]
   exact hD
  have hld : As (A ++ ((Ap Ak E0.tp A.length (TP ++ (t ++ tR)) (Q ++ (c ++ R))).2 ++ D)) (A.length + En (Q ++ (c ++ R)) + idx) off w = some (Ap Ak E0.tp (A.length + En Q) t c).1 := by
   have hle : off + w ≤ ys.length := by
    have := congrArg List.length hys
    rw [zbB, zae, hil] at this
    omega
   simp only [As, hget, if_true, hle, hys]
   rw [zbG hil]
  rw [ldT hld, AaH hmk.1 hmk.2.1]
  have e : ∀ (x : List AV) (B : Ab), x.length = c.length → A ++ ((Ap Ak E0.tp A.length (TP ++ (t ++ tR)) (Q ++ (x ++ R))).2 ++ B) = (A ++ (Ap Ak E0.tp A.length TP Q).2) ++ ((Ap Ak E0.tp (A.length + En Q) t x).2 ++ ((Ap Ak E0.tp (A.length + En Q + En x) tR R).2 ++ B)) := by
   intro x B hx
   simp only [hsplit x hx, zaf]
  have hN : (A ++ (Ap Ak E0.tp A.length TP Q).2).length = A.length + En Q := by rw [zae, D2]
  rw [e c _ rfl]
  have key := hmk.2.2 c k β (A ++ (Ap Ak E0.tp A.length TP Q).2) ((Ap Ak E0.tp (A.length + En Q + En c) tR R).2 ++ D) (fun k H => R3 (PR n β) tI (.ptr (A.length + En (Q ++ (c ++ R)) + idx) 0) todo k H K) res hwc h0 (by omega)
  rw [hN] at key
  refine key fun X => ?_
  have hm : Fz (Dl (.agg l path w g :: todo)) k (c ++ R) = ((Fz l k c).1 ++ (Fz (Dl todo) (Fz l k c).2 R).1, (Fz (Dl todo) (Fz l k c).2 R).2) := Mc l (Dl todo) k c R hlc
  generalize hc' : (Fz l k c).1 = c' at hn' hl' hs' hm ⊢
  have e1 : ∀ (Y : List AV), Q ++ (c' ++ Y) = (Q ++ c') ++ Y := fun Y => by simp
  have e2 : TP ++ (t ++ tR) = (TP ++ t) ++ tR := by simp
  have e3 : En (Q ++ (c ++ R)) = En ((Q ++ c') ++ R) := by
   rw [Hh, Hh, Hh, Hh, hn']
   omega
  have e4 := e c' (D ++ X) hl'
  rw [hn'] at e4
  rw [zaf (Ap Ak E0.tp (A.length + En Q + En c) tR R).2 D X, ← e4, e3, e2, e1 R]
  refine Z8 (tI := tI) (idx := idx) (ys := ys) todo (off + w) (Q ++ c') R (TP ++ t) tR (Fz l k c).2 A (D ++ X) K hrest (by simp [hT, htl, hl', hcl]) (by simp [hq, hl', hcl]) hwR (by omega) (by omega) ?_ ?_ fun Y => ?_
  ·rw [← e1, ← e2, hsplit _ hl', hs', hn', hy]
  ·rw [zal (zac.1 hD).1]
   exact hD
  ·have := h (X ++ Y)
   rw [hm, e2, e1] at this
   rw [zaf D X Y]
   exact this
theorem Ai0 {tI f : Nat} {cty : List Nat} {fvs : List FV} (hh : E0.hm f = true) (hx : E0.ext f = none) (hf : FvM n 0 fvs cty) (hv : (Dl fvs).all isV = true) (hlf : ∀ (cs : List AV) (N : Nat), N6 (Dl fvs) cs → (Ap Ak E0.tp N cty cs).1.all A2 = true)
  (hF : ∀ β a b H kk, Dy E0 (n + 1) β f [a, b] H kk = Xr a H fun x H => R3 (PR n β) tI x fvs b H kk) : Adf (n + 1) f cty (Dl fvs) := by
 refine ⟨hh, hx, fun cs k β A C K r hw h0 hb h => ?_⟩
 rw [hF]
 have hc : Ev (.agg (Ap Ak E0.tp A.length cty cs).1) = some (Ap Ak E0.tp A.length cty cs).1 := by
  show (if _ then _ else none) = _
  rw [if_pos (hlf cs _ hw)]
 simp only [Xr, hc, zad, Xw]
 have hlen : (Ap Ak E0.tp A.length cty cs).2.length = En cs := D2 _ _ _
 have e1 : (A ++ ((Ap Ak E0.tp A.length cty cs).2 ++ C)).length = A.length + En ([] ++ cs) + C.length := by
  simp only [zae, hlen, zai]
  omega
 rw [e1]
 have e2 : A ++ ((Ap Ak E0.tp A.length cty cs).2 ++ C) ++ [⟨(Ap Ak E0.tp A.length cty cs).1, true, true⟩] = A ++ ((Ap Ak E0.tp A.length ([] ++ cty) ([] ++ cs)).2 ++ (C ++ [⟨(Ap Ak E0.tp A.length cty cs).1, true, true⟩])) := by simp
 rw [e2]
 refine Z8 fvs 0 [] cs [] cty k A _ K hf rfl rfl hw h0 hb rfl (by rw [zaj (zao _), zbe]; rfl) fun X => ?_
 have := h ([⟨(Ap Ak E0.tp A.length cty cs).1, true, true⟩] ++ X)
 simp only [zaf, zai] at this ⊢
 exact this
theorem U6 {tI : Nat} {F : Ab → Option β} (cells : List AV) (hfl : cells.all Lh = true) : ∀ (todo : List FV) (off : Nat) (Q R : List AV) (k : Int) (H : Ab) (K : KO β),
  FvH n off todo → Q.length = off → N6 (Dl todo) R → 0 ≤ k → k + E4 (Dl todo) R ≤ 4611686018427387904 → cells = Q ++ (Fz (Dl todo) k R).1 → H[0]? = some ⟨cells, true, true⟩ →
  (∀ X, K (.sc (.int .i64 (Fz (Dl todo) k R).2)) (H ++ X) = res) →
  Re (PR n β) tI (.ptr 0 0) F todo (.sc (.int .i64 k)) H K = res
 | [], off, Q, R, k, H, K, hf, hq, hw, h0, h1, hc, hH, h => by
  cases R with
  | nil =>
   have := h []
   rw [zam H] at this
   exact this
  | cons c R => exact absurd rfl hw.1
 | .skip :: todo, off, Q, R, k, H, K, hf, hq, hw, h0, h1, hc, hH, h => by
  cases R with
  | nil => exact absurd (show MF.skip :: Dl todo = [] from hw) (by simp)
  | cons c R =>
  obtain ⟨hwc, hwR⟩ := wfL_cons.1 (show N6 (MF.skip :: Dl todo) (c :: R) from hw)
  obtain ⟨v, rfl⟩ : ∃ v, c = .sc v := by
   cases c <;> first | exact ⟨_, rfl⟩ | exact hwc.elim
  have h1 : k + (0 + E4 (Dl todo) R : Nat) ≤ 4611686018427387904 := h1
  exact U6 cells hfl todo (off + 1) (Q ++ [.sc v]) R k H K hf (by simp [hq]) hwR h0 (by omega) (by rw [zaf]; exact hc) hH h
 | .sub fs path g :: todo, off, Q, R, k, H, K, hf, hq, hw, h0, h1, hc, hH, h => by
  cases R with
  | nil => exact absurd (show MF.sub fs :: Dl todo = [] from hw) (by simp)
  | cons c R =>
  obtain ⟨hpath, hhe, hrest⟩ := hf
  obtain ⟨hwc, hwR⟩ := wfL_cons.1 (show N6 (MF.sub fs :: Dl todo) (c :: R) from hw)
  obtain ⟨m, cs, rfl⟩ : ∃ m cells, c = .ro m cells := by
   cases c with
   | ro m cells => exact ⟨m, cells, rfl⟩
   | sc v => exact hwc.elim
   | _ => exact hwc.elim
  have h1 : k + (F4 (.sub fs) (.ro m cs) + E4 (Dl todo) R : Nat) ≤ 4611686018427387904 := h1
  have hk' := Ox (.ro m cs) (.sub fs) k
  have hm : Fz (Dl (.sub fs path g :: todo)) k (.ro m cs :: R) = ((H4 (.sub fs) k (.ro m cs)).1 :: (Fz (Dl todo) (H4 (.sub fs) k (.ro m cs)).2 R).1, (Fz (Dl todo) (H4 (.sub fs) k (.ro m cs)).2 R).2) := rfl
  rw [hm] at hc h
  have hld : As H 0 off 1 = some [(H4 (.sub fs) k (.ro m cs)).1] := by
   have hle : off + 1 ≤ cells.length := by
    rw [hc, zae, zan]
    omega
   have hd : (cells.drop off).take 1 = [(H4 (.sub fs) k (.ro m cs)).1] := by
    rw [hc, ← hq, za5 (zao _), zaW]
    rfl
   simp only [As, hH, if_true, hle, hd]
  show (Ew (PR n β) path (.ptr 0 0) fun t => Bx false 1 t H fun v => (PR n β).call tI (.fn g [] []) [v, .sc (.int .i64 k)] H fun k H => Bz .lss k (.sc (.int .i64 0)) fun b => C8 b (F H) (Re (PR n β) tI _ F todo k H K)) = res
  rw [Lt, hpath, za0, ldF hld, Ha (vs := [(H4 (.sub fs) k (.ro m cs)).1, .sc (.int .i64 k)]) hhe.1 rfl (hhe.2 tI m cs k hwc h0 (by omega)), F8, zam]
  simp only
  rw [Ns, C1, if_neg (by simp; omega)]
  exact U6 cells hfl todo (off + 1) (Q ++ [(H4 (.sub fs) k (.ro m cs)).1]) R _ H K hrest (by simp [hq]) hwR (by omega) (by omega) (by rw [zaf]; exact hc) hH h
 | .agg l path w g :: todo, off, Q, R, k, H, K, hf, hq, hw, h0, h1, hc, hH, h => by
  obtain ⟨hpath, hlw, hw0, hhe, hrest⟩ := hf
  have hRlen : w ≤ R.length := by
   have := M2 (show N6 (l ++ Dl todo) R from hw)
   rw [zae] at this
   omega
  obtain ⟨c, R, rfl, hcl⟩ : ∃ c R', R = c ++ R' ∧ c.length = w := ⟨R.take w, R.drop w, (zaV w R).symm, by rw [zbc]; omega⟩
  have hlc : l.length = c.length := by rw [hlw, hcl]
  obtain ⟨hwc, hwR⟩ := (Kg hlc).1 (show N6 (l ++ Dl todo) (c ++ R) from hw)
  have h1 : k + (E4 l c + E4 (Dl todo) R : Nat) ≤ 4611686018427387904 := by
   have := Jh l (Dl todo) c R hlc
   rw [← this]
   exact h1
  have hk' := M0 c l k
  have hl' := Qv c l k
  have hm : Fz (Dl (.agg l path w g :: todo)) k (c ++ R) = ((Fz l k c).1 ++ (Fz (Dl todo) (Fz l k c).2 R).1, (Fz (Dl todo) (Fz l k c).2 R).2) := Mc l (Dl todo) k c R hlc
  rw [hm] at hc h
  have hd : (cells.drop off).take w = (Fz l k c).1 := by
   rw [hc, ← hq, za5 (zao _), zaW, zai, zbG (by rw [hl', hcl])]
  have hld : As H 0 off w = some (Fz l k c).1 := by
   have hle : off + w ≤ cells.length := by
    rw [hc, zae, zae, hl', hcl]
    omega
   simp only [As, hH, if_true, hle, hd]
  have hfc : (Fz l k c).1.all Lh = true := by
   rw [hc, List.all_append, List.all_append, zag, zag] at hfl
   exact hfl.2.1
  show (Ew (PR n β) path (.ptr 0 0) fun t => Bx true w t H fun v => (PR n β).call tI (.fn g [] []) [v, .sc (.int .i64 k)] H fun k H => Bz .lss k (.sc (.int .i64 0)) fun b => C8 b (F H) (Re (PR n β) tI _ F todo k H K)) = res
  rw [Lt, hpath, za0, ldT hld, Ha (vs := [.agg (Fz l k c).1, .sc (.int .i64 k)]) hhe.1 (Co (Rd _ hfc) (Co (Iv _ _) G7)) (hhe.2 tI c k hwc h0 (by omega)), F8, zam]
  simp only
  rw [Ns, C1, if_neg (by simp; omega)]
  exact U6 cells hfl todo (off + w) (Q ++ (Fz l k c).1) R _ H K hrest (by simp [hq, hl', hcl]) hwR (by omega) (by omega) (by rw [zaf]; exact hc) hH h
theorem Ai1 : ∀ (cs : List AV) (fs : List MF) (k : Int), N6 fs cs → fs.all isV = true → (Fz fs k cs).1.all Lh = true
 | [], fs, k, _, _ => by simp [Fz]
 | c :: cs, [], k, hw, _ => absurd rfl hw.1
 | c :: cs, f :: fs, k, hw, hv => by
  obtain ⟨h1, h2⟩ := wfL_cons.1 hw
  rw [zaz, zag] at hv
  rw [Xb, zaz, Ai1 cs fs _ h2 hv.2, za6]
  cases c with
  | sc v => cases f <;> first | exact h1 | (exfalso; simpa [isV] using hv.1) | exact h1.elim
  | ro m cells => cases f <;> first | rfl | exact h1.elim
  | _ => exact h1.elim
theorem Aih {tI f : Nat} {fvs : List FV} (hh : Ek f = false) (hf : FvH n 0 fvs) (hv : (Dl fvs).all isV = true)
  (hF : ∀ a b H kk, Dy E0 (n + 1) AV f [a, b] H kk = Xr a H fun x H => Re (PR n AV) tI x (fun H => kk (.sc (.int .i64 (-1))) H) fvs b H kk) : Ade (n + 1) f (Dl fvs) := by
 refine ⟨hh, fun ty cs k hw h0 hb => ?_⟩
 have hfl := Ai1 cs (Dl fvs) k hw hv
 rw [At, hF, M5 _ _ _ hfl]
 exact U6 (Fz (Dl fvs) k cs).1 hfl fvs 0 [] cs k _ _ hf rfl hw h0 hb rfl rfl (fun X => rfl)
end fns
end
end Go.Proofs.YtlcpigdmekgajaaGreatDoor.Abs
