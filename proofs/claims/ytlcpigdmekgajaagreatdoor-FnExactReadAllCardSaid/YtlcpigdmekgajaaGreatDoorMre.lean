/- What the proof needs, part 5: a sound evaluator over trees, the program's functions on it, and what they come to. -/
import Derived.Test.YtlcpigdmekgajaaGreatDoorMrd
set_option linter.unusedVariables false
set_option linter.unusedSimpArgs false
set_option maxRecDepth 100000
set_option maxHeartbeats 32000000
namespace Go.Proofs.YtlcpigdmekgajaaGreatDoor.Abs
open _root_.Bool renaming false_eq_true → zaa, and_eq_true → zag, not_true → za0, not_false → za2, or_eq_true → zaI, true_and → zaK, false_and → zaV, and_true → zbt
open _root_.Option renaming bind_some → zac, getD_some → zaA
open _root_.List renaming length_append → zad, getElem?_eq_some_iff → zae, append_assoc → zaf, replicate → zai, getElem?_append_right → zaj, getElem?_append_left → zak, nil_append → zal, length_cons → zam, append_nil → zap, map_cons → zaq, eq_nil_of_length_eq_zero → zar, length_singleton → zas, mem_cons_of_mem → zat, cons_append → zau, length_nil → zaw, mem_cons_self → zay, flatten_cons → zaz, all_eq_true → za4, map_nil → zaB, drop_append_of_le_length → zaD, getElem?_eq_getElem → zaO, getElem?_drop → zaT, replicate_succ → zbb, getElem?_take_of_lt → zbf, drop_drop → zbj, drop_length → zbq, take_append_drop → zbv, flatten_nil → zb2, length_take → zbA, length_map → zbG
open _root_.ByteArray renaming size_append → zah, size_extract → zao, size → zbk
open _root_.Nat renaming le_refl → zan, zero_le → zav, zero_add → za1, le_trans → za5, add_assoc → za9, add_zero → zaM, succ_mul → zbs, add_comm → zbD
open _root_.Int renaming tmod_eq_emod_of_nonneg → za7, toNat_natCast → zbl
section
open Go
theorem AcN (n : Nat) (hn : 1048576 < n) (B : ByteArray) (a : Int) (hB : B.size ≤ 1099511627776) (ha : -1152921504606846976 ≤ a ∧ a ≤ 1152921504606846976) : C0 E0 (n + 1) 110 130 [Ad B, .sc (.int .i64 a)] = some (.tup [.sc (.int .i64 (Bn B a).1), .sc (.int .i64 (Bn B a).2.1), .sc (.bool (Bn B a).2.2)]) := by
 rw [A7, Aiq, f130]
 refine Cm (G := (· = some (.tup [.sc (.int .i64 (Bn B a).1), .sc (.int .i64 (Bn B a).2.1), .sc (.bool (Bn B a).2.2)]))) ?_
 try simp only [Fa, E9]
 have s0 : Sep [] [] := Ch
 refine Di (Aa ((decide (a < 0))) (fun h1 => ?_) fun h1 => ?_)
 have dh1 := of_decide_eq_true h1
 refine Ae h1 (Ae h1 (Ae h1 (Ae h1 (Ae h1 (E2 h1 (Ap rfl (Al (B0 s0 rfl (X0 .nil) (X1 trivial)) ?_)))))))
 have e : Bn B a = (0, 0, false) := by
  clear s0
  simp only [Cs] at h1
  unfold Bn; rw [if_pos (by omega)]
 rw [e]
 have dh1 := of_decide_eq_false h1
 refine Af h1 (Af h1 (Af h1 (Cu (Af h1 (Pf (by omega) (by omega) (Af h1 (Eb (E1 h1 (Aa ((decide ((((B.size : Nat) : Int) - 2) < a))) (fun h2 => ?_) fun h2 => ?_)))))))))
 have dh2 := of_decide_eq_true h2
 refine Ap h2 (Al (B0 s0 rfl (X0 .nil) (X1 trivial)) ?_)
 have e : Bn B a = (0, 0, false) := by
  clear s0
  simp only [Cs] at h1 h2
  unfold Bn; rw [if_pos (by omega)]
 rw [e]
 have dh2 := of_decide_eq_false h2
 refine Au h2 ?_
 have w3 := D0 B a
 refine Gn (by omega) (by omega) fun _ => E5 (c := su (A2 B a)) rfl (Kr (by omega) (by omega) (AgO 256 rfl (by decide) (by omega) (by omega) (Bw (by omega) (by omega) ?_)))
 have w4 := D0 B (a + 1)
 refine Gn (by omega) (by omega) fun _ => E5 (c := su (A2 B (a + 1))) rfl (Kr (by omega) (by omega) (AlJ (Ur 8 _ _ (by omega) (by omega) (by omega) (by omega) (by omega) (by omega)) (Bw (by omega) (by omega) (Al (B0 s0 rfl (X0 .nil) (X1 trivial)) ?_))))
 have e : Bn B a = ((((A2 B a) * 256) + (A2 B (a + 1))), (a + 2), true) := by
  clear s0
  simp only [Cs] at h1 h2
  unfold Bn; rw [if_neg (by omega)]
 rw [e]
theorem Ql (n : Nat) (hn : 1048576 < n) (B : ByteArray) (a : Int) (hB : B.size ≤ 1099511627776) (ha : -1152921504606846976 ≤ a ∧ a ≤ 1152921504606846976) : C0 E0 (n + 1) 110 88 [Ad B, .sc (.int .i64 a)] = some (.tup [.sc (.int .i64 (Bn B a).1), .sc (.int .i64 (Bn B a).2.1), .sc (.bool (Bn B a).2.2)]) := by
 rw [A7, Al4, f88]
 refine Cm (G := (· = some (.tup [.sc (.int .i64 (Bn B a).1), .sc (.int .i64 (Bn B a).2.1), .sc (.bool (Bn B a).2.2)]))) ?_
 try simp only [Fa, E9]
 have s0 : Sep [] [] := Ch
 refine Di (Aa ((decide (a < 0))) (fun h1 => ?_) fun h1 => ?_)
 have dh1 := of_decide_eq_true h1
 refine Ae h1 (Ae h1 (Ae h1 (Ae h1 (Ae h1 (E2 h1 (Ap rfl (Al (B0 s0 rfl (X0 .nil) (X1 trivial)) ?_)))))))
 have e : Bn B a = (0, 0, false) := by
  clear s0
  simp only [Cs] at h1
  unfold Bn; rw [if_pos (by omega)]
 rw [e]
 have dh1 := of_decide_eq_false h1
 refine Af h1 (Af h1 (Af h1 (Cu (Af h1 (Pf (by omega) (by omega) (Af h1 (Eb (E1 h1 (Aa ((decide ((((B.size : Nat) : Int) - 2) < a))) (fun h2 => ?_) fun h2 => ?_)))))))))
 have dh2 := of_decide_eq_true h2
 refine Ap h2 (Al (B0 s0 rfl (X0 .nil) (X1 trivial)) ?_)
 have e : Bn B a = (0, 0, false) := by
  clear s0
  simp only [Cs] at h1 h2
  unfold Bn; rw [if_pos (by omega)]
 rw [e]
 have dh2 := of_decide_eq_false h2
 refine Au h2 ?_
 have w3 := D0 B a
 refine Gn (by omega) (by omega) fun _ => E5 (c := su (A2 B a)) rfl (Kr (by omega) (by omega) (Rz (by omega) (by omega) (Bw (by omega) (by omega) ?_)))
 have w4 := D0 B (a + 1)
 refine Gn (by omega) (by omega) fun _ => E5 (c := su (A2 B (a + 1))) rfl (Kr (by omega) (by omega) (Bw (by omega) (by omega) (Bw (by omega) (by omega) (Al (B0 s0 rfl (X0 .nil) (X1 trivial)) ?_))))
 have e : Bn B a = ((((A2 B a) * 256) + (A2 B (a + 1))), (a + 2), true) := by
  clear s0
  simp only [Cs] at h1 h2
  unfold Bn; rw [if_neg (by omega)]
 rw [e]
theorem Aji (n : Nat) (hn : 1048576 < n) (B : ByteArray) (a : Int) (hB : B.size ≤ 1099511627776) (ha : -1152921504606846976 ≤ a ∧ a ≤ 1152921504606846976) : C0 E0 (n + 5) 131 146 [Ad B, .sc (.int .i64 a)] = some (.tup [Ad (Bf B a).1, .sc (.int .i64 (Bf B a).2.1), .sc (.bool (Bf B a).2.2)]) := by
 rw [A7, Ai2, f146]
 refine Cm (G := (· = some (.tup [Ad (Bf B a).1, .sc (.int .i64 (Bf B a).2.1), .sc (.bool (Bf B a).2.2)]))) ?_
 try simp only [Fa, E9]
 have s0 : Sep [] [] := Ch
 obtain ⟨wq1, yq1, oq1, q1⟩ : ∃ w y o, Bn B a = (w, y, o) := ⟨_, _, _, rfl⟩
 have bq1 := Fy q1
 refine D3 s0 rfl (.cons .ro (.cons .sc .nil)) (by have h := AcN (n + 3) (by omega) B a (by omega) (by omega); rw [q1] at h; exact h) rfl (Bd (Bd (Bd Dz))) ?_
 rintro _ _ H ⟨_, rfl, ⟨_, rfl, ⟨_, rfl, ⟨rfl, rfl⟩⟩⟩⟩ s2
 simp only [zal] at s2
 refine Bm (v := si wq1) rfl (Bm (v := si yq1) rfl (Bm (v := sb oq1) rfl (Cr (Aa (oq1) (fun h3 => ?_) fun h3 => ?_))))
 refine Af (nF h3) (Af (nF h3) (Eb (E1 (nF h3) (Aa ((decide (60 < wq1))) (fun h4 => ?_) fun h4 => ?_))))
 have dh4 := of_decide_eq_true h4
 refine Ae h4 (Ae h4 (Ae h4 (Ae h4 (Ae h4 (Ae h4 (E2 h4 (Ap rfl (Al (B0 s2 rfl (.nl (.sc (.sc .nil))) ⟨A9, (E8 trivial)⟩) ?_))))))))
 have e : Bf B a = (bs0, 0, false) := by
  clear s0 s2
  simp only [Cs] at h4
  unfold Bf; rw [q1]; show (if oq1 = false ∨ 60 < wq1 ∨ ((B.size : Nat) : Int) - yq1 < wq1 then _ else _) = _; rw [if_pos (by exact Or.inr (Or.inl (by assumption)))]
 rw [e]
 rfl
 have dh4 := of_decide_eq_false h4
 refine Af h4 (Af h4 (Af h4 (Cu (Af h4 (Af h4 (Pf (by omega) (by omega) (Af h4 (Eb (E1 h4 (Aa ((decide ((((B.size : Nat) : Int) - yq1) < wq1))) (fun h5 => ?_) fun h5 => ?_))))))))))
 have dh5 := of_decide_eq_true h5
 refine Ap h5 (Al (B0 s2 rfl (.nl (.sc (.sc .nil))) ⟨A9, (E8 trivial)⟩) ?_)
 have e : Bf B a = (bs0, 0, false) := by
  clear s0 s2
  simp only [Cs] at h4 h5
  unfold Bf; rw [q1]; show (if oq1 = false ∨ 60 < wq1 ∨ ((B.size : Nat) : Int) - yq1 < wq1 then _ else _) = _; rw [if_pos (by exact Or.inr (Or.inr (by assumption)))]
 rw [e]
 rfl
 have dh5 := of_decide_eq_false h5
 refine Au h5 (Bw (by omega) (by omega) (Fs yq1 (yq1 + wq1) rfl rfl (by omega) (by omega) (by omega) ?_))
 have z6 := zao (a := B) (b := yq1.toNat) (e := (yq1 + wq1).toNat)
 refine Bb (cs := [Ad (B.extract yq1.toNat (yq1 + wq1).toNat)]) rfl (B9 s2 fun i7 H s8 => B7 s8 rfl (.sl (.here) rfl (.cons .ro .nil) .nil) (M6 n (by omega) (B.extract yq1.toNat (yq1 + wq1).toNat) (by omega)) (Cx (B.extract yq1.toNat (yq1 + wq1).toNat)) fun x9 H lx9 s10 => Bw (by omega) (by omega) (Al (B0 s10 rfl (.own (.here) (.sc (.sc .nil))) ⟨(Bs (Cx (B.extract yq1.toNat (yq1 + wq1).toNat)) (by decide)), (E8 trivial)⟩) ?_))
 have e : Bf B a = ((B.extract yq1.toNat (yq1 + wq1).toNat), (yq1 + wq1), true) := by
  clear s0 s2 s8 s10
  simp only [Cs] at h4 h5
  unfold Bf; rw [q1]; show (if oq1 = false ∨ 60 < wq1 ∨ ((B.size : Nat) : Int) - yq1 < wq1 then _ else _) = _; rw [if_neg (by rintro (k | k | k) <;> first | omega | (simp_all; done))]
 rw [e]
 refine Ae (nT h3) (Ae (nT h3) (E2 (nT h3) (Ae rfl (Ae rfl (Ae rfl (Ae rfl (Ae rfl (Ae rfl (E2 rfl (Ap rfl (Al (B0 s2 rfl (.nl (.sc (.sc .nil))) ⟨A9, (E8 trivial)⟩) ?_)))))))))))
 have e : Bf B a = (bs0, 0, false) := by
  clear s0 s2
  unfold Bf; rw [q1]; show (if oq1 = false ∨ 60 < wq1 ∨ ((B.size : Nat) : Int) - yq1 < wq1 then _ else _) = _; rw [if_pos (by exact Or.inl (by assumption))]
 rw [e]
 rfl
theorem Qk (n : Nat) (hn : 1048576 < n) (B : ByteArray) (a : Int) (hB : B.size ≤ 1099511627776) (ha : -1152921504606846976 ≤ a ∧ a ≤ 1152921504606846976) : C0 E0 (n + 2) 131 126 [Ad B, .sc (.int .i64 a)] = some (.tup [Ad (Bf B a).1, .sc (.int .i64 (Bf B a).2.1), .sc (.bool (Bf B a).2.2)]) := by
 rw [A7, Aim, f126]
 refine Cm (G := (· = some (.tup [Ad (Bf B a).1, .sc (.int .i64 (Bf B a).2.1), .sc (.bool (Bf B a).2.2)]))) ?_
 try simp only [Fa, E9]
 have s0 : Sep [] [] := Ch
 obtain ⟨wq1, yq1, oq1, q1⟩ : ∃ w y o, Bn B a = (w, y, o) := ⟨_, _, _, rfl⟩
 have bq1 := Fy q1
 refine D3 s0 rfl (.cons .ro (.cons .sc .nil)) (by have h := Ql n (by omega) B a (by omega) (by omega); rw [q1] at h; exact h) rfl (Bd (Bd (Bd Dz))) ?_
 rintro _ _ H ⟨_, rfl, ⟨_, rfl, ⟨_, rfl, ⟨rfl, rfl⟩⟩⟩⟩ s2
 simp only [zal] at s2
 refine Bm (v := si wq1) rfl (Bm (v := si yq1) rfl (Bm (v := sb oq1) rfl (Cr (Aa (oq1) (fun h3 => ?_) fun h3 => ?_))))
 refine Af (nF h3) (Af (nF h3) (Eb (E1 (nF h3) (Aa ((decide (60 < wq1))) (fun h4 => ?_) fun h4 => ?_))))
 have dh4 := of_decide_eq_true h4
 refine Ae h4 (Ae h4 (Ae h4 (Ae h4 (Ae h4 (Ae h4 (E2 h4 (Ap rfl (Al (B0 s2 rfl (.nl (.sc (.sc .nil))) ⟨A9, (E8 trivial)⟩) ?_))))))))
 have e : Bf B a = (bs0, 0, false) := by
  clear s0 s2
  simp only [Cs] at h4
  unfold Bf; rw [q1]; show (if oq1 = false ∨ 60 < wq1 ∨ ((B.size : Nat) : Int) - yq1 < wq1 then _ else _) = _; rw [if_pos (by exact Or.inr (Or.inl (by assumption)))]
 rw [e]
 rfl
 have dh4 := of_decide_eq_false h4
 refine Af h4 (Af h4 (Af h4 (Cu (Af h4 (Af h4 (Pf (by omega) (by omega) (Af h4 (Eb (E1 h4 (Aa ((decide ((((B.size : Nat) : Int) - yq1) < wq1))) (fun h5 => ?_) fun h5 => ?_))))))))))
 have dh5 := of_decide_eq_true h5
 refine Ap h5 (Al (B0 s2 rfl (.nl (.sc (.sc .nil))) ⟨A9, (E8 trivial)⟩) ?_)
 have e : Bf B a = (bs0, 0, false) := by
  clear s0 s2
  simp only [Cs] at h4 h5
  unfold Bf; rw [q1]; show (if oq1 = false ∨ 60 < wq1 ∨ ((B.size : Nat) : Int) - yq1 < wq1 then _ else _) = _; rw [if_pos (by exact Or.inr (Or.inr (by assumption)))]
 rw [e]
 rfl
 have dh5 := of_decide_eq_false h5
 refine Au h5 (Bw (by omega) (by omega) (Fs yq1 (yq1 + wq1) rfl rfl (by omega) (by omega) (by omega) ?_))
 have z6 := zao (a := B) (b := yq1.toNat) (e := (yq1 + wq1).toNat)
 refine Jc s2 (by omega) fun x7 H lx7 s8 => Bw (by omega) (by omega) (Al (B0 s8 rfl (.own (.here) (.sc (.sc .nil))) ⟨(Bs (Cx (B.extract yq1.toNat (yq1 + wq1).toNat)) (by decide)), (E8 trivial)⟩) ?_)
 have e : Bf B a = ((B.extract yq1.toNat (yq1 + wq1).toNat), (yq1 + wq1), true) := by
  clear s0 s2 s8
  simp only [Cs] at h4 h5
  unfold Bf; rw [q1]; show (if oq1 = false ∨ 60 < wq1 ∨ ((B.size : Nat) : Int) - yq1 < wq1 then _ else _) = _; rw [if_neg (by rintro (k | k | k) <;> first | omega | (simp_all; done))]
 rw [e]
 refine Ae (nT h3) (Ae (nT h3) (E2 (nT h3) (Ae rfl (Ae rfl (Ae rfl (Ae rfl (Ae rfl (Ae rfl (E2 rfl (Ap rfl (Al (B0 s2 rfl (.nl (.sc (.sc .nil))) ⟨A9, (E8 trivial)⟩) ?_)))))))))))
 have e : Bf B a = (bs0, 0, false) := by
  clear s0 s2
  unfold Bf; rw [q1]; show (if oq1 = false ∨ 60 < wq1 ∨ ((B.size : Nat) : Int) - yq1 < wq1 then _ else _) = _; rw [if_pos (by exact Or.inl (by assumption))]
 rw [e]
 rfl
theorem K8 (n : Nat) (hn : 1048576 < n) (B : ByteArray) (a : Int) (hB : B.size ≤ 1099511627776) (ha : -1152921504606846976 ≤ a ∧ a ≤ 1152921504606846976) : C0 E0 (n + 5) 108 87 [Ad B, .sc (.int .i64 a)] = some (.tup [.sc (.string (Bz B a).1), .sc (.int .i64 (Bz B a).2.1), .sc (.bool (Bz B a).2.2)]) := by
 rw [A7, Al3, f87]
 refine Cm (G := (· = some (.tup [.sc (.string (Bz B a).1), .sc (.int .i64 (Bz B a).2.1), .sc (.bool (Bz B a).2.2)]))) ?_
 try simp only [Fa, E9]
 have s0 : Sep [] [] := Ch
 obtain ⟨vq1, yq1, oq1, q1⟩ : ∃ w y o, Bf B a = (w, y, o) := ⟨_, _, _, rfl⟩
 have bq1 := Fd q1
 refine D3 s0 rfl (.cons .ro (.cons .sc .nil)) (by have h := Qk (n + 2) (by omega) B a (by omega) (by omega); rw [q1] at h; exact h) rfl (Jd (ty := 22) rfl (Cx vq1) (Bd (Bd Dz))) ?_
 rintro _ _ H ⟨x2, _, _, lx2, rfl, rfl, ⟨_, rfl, ⟨_, rfl, ⟨rfl, rfl⟩⟩⟩⟩ s3
 simp only [zal, zau] at s3
 refine Bm (v := x2) rfl (Bm (v := si yq1) rfl (Bm (v := sb oq1) rfl (Cr (Aa (oq1) (fun h4 => ?_) fun h4 => ?_))))
 refine Af (nF h4) (Af (nF h4) (Mq s3 ⟨_, _, rfl, rfl, rfl, rfl⟩ (.here) (Af (nF h4) (Ar (v := (.bool (Bo vq1))) s3 rfl (.cons .sc .nil) (I3 n (by omega) _ vq1) (Af (nF h4) (Cr (E1 (nF h4) (Aa ((Bo vq1)) (fun h5 => ?_) fun h5 => ?_))))))))
 refine Au (nF h5) (Mq s3 ⟨_, _, rfl, rfl, rfl, rfl⟩ (.here) (Al (B0 s3 rfl (X0 .nil) (X1 trivial)) ?_))
 have e : Bz B a = (vq1, yq1, true) := by
  unfold Bz; rw [q1]; simp only [h4, h5, zaK, zbt, zaV, Bool.and_false, if_true, if_false, zaa]
 rw [e]
 refine Ap (nT h5) (Al (B0 s3 rfl (X0 .nil) (X1 trivial)) ?_)
 have e : Bz B a = (⟨#[]⟩, 0, false) := by
  unfold Bz; rw [q1]; simp only [h4, h5, zaK, zbt, zaV, Bool.and_false, if_true, if_false, zaa]
 rw [e]
 refine Ae (nT h4) (Ae (nT h4) (Ae (nT h4) (Ae (nT h4) (E2 (nT h4) (Ap rfl (Al (B0 s3 rfl (X0 .nil) (X1 trivial)) ?_))))))
 have e : Bz B a = (⟨#[]⟩, 0, false) := by
  unfold Bz; rw [q1]; simp only [h4, zaK, zbt, zaV, Bool.and_false, if_true, if_false, zaa]
 rw [e]
theorem Yq (n : Nat) (hn : 1048576 < n) (B : ByteArray) (a : Int) (hB : B.size ≤ 1099511627776) (ha : 0 ≤ a) : ∀ (f m : Nat) (i z : Int) (H : Ab), f < m → i + f = 4 → 0 ≤ i → a + i ≤ ((B.size : Nat) : Int) → Gd (· = some (.tup [.sc (.int .i64 (D1 B a f i z).1), .sc (.int .i64 (D1 B a f i z).2.1), .sc (.int .i64 (D1 B a f i z).2.2)])) (Q4 (PR (n + 1) AV) (n + 1) (fun x H => A8 As E0.tp 85 H x) m (Ad B) (.sc (.int .i64 a)) (.sc (.int .i64 z)) (.sc (.int .i64 i)) H)
 | 0, m + 1, i, z, H, hm, hi, h0, hs => by
  have s0 : Sep H [] := Ch
  rw [Q4]
  try simp only [Fa, E9]
  have hk : decide (i < 4) = false := by simp; omega
  refine Di (Au hk (Al (B0 s0 rfl (X0 .nil) (X1 trivial)) ?_))
  have e : D1 B a 0 i z = (0, 0, 2) := by
   rw [D1]
  rw [e]
 | f + 1, m + 1, i, z, H, hm, hi, h0, hs => by
  have s0 : Sep H [] := Ch
  rw [Q4]
  try simp only [Fa, E9]
  have hk : decide (i < 4) = true := by simp; omega
  refine Di (Ap hk (Bw (by omega) (by omega) (Cu (Ba (Aa ((decide ((a + i) = ((B.size : Nat) : Int)))) (fun h1 => ?_) fun h1 => ?_)))))
  have dh1 := of_decide_eq_true h1
  refine Ap h1 (Al (B0 s0 rfl (X0 .nil) (X1 trivial)) ?_)
  have e : D1 B a (f + 1) i z = (0, 0, 1) := by
   clear s0
   rw [D1]
   (repeat' split) <;> first | rfl | (exfalso; omega)
  rw [e]
  have dh1 := of_decide_eq_false h1
  refine Au h1 (Bw (by omega) (by omega) ?_)
  have w2 := D0 B (a + i)
  refine Gn (by omega) (by omega) fun _ => E5 (c := .sc (.int .u8 (A2 B (a + i)))) rfl (Kr (by omega) (by omega) (Gm rfl (Rz (by omega) (by omega) (AgO (2 ^ (7 * i).toNat) rfl (by omega) (by have h := Xk (x := (bits .and .i64 (A2 B (a + i)) 127)) (i := i) (by rw [O2 (by omega) (by omega)]; omega) (by omega); omega) (by have h := Xk (x := (bits .and .i64 (A2 B (a + i)) 127)) (i := i) (by rw [O2 (by omega) (by omega)]; omega) (by omega); omega) (AlJ rfl (Eb (Aa ((decide (127 < (A2 B (a + i))))) (fun h3 => ?_) fun h3 => ?_)))))))
  have dh3 := of_decide_eq_true h3
  refine Ap h3 (Bw (by omega) (by omega) ?_)
  have e : D1 B a (f + 1) i z = D1 B a f (i + 1) (bits .or .i64 z ((bits .and .i64 (A2 B (a + i)) 127) * 2 ^ (7 * i).toNat)) := by
   rw [D1, if_neg (by omega), if_neg (by omega)]
  rw [e]
  exact Yq n hn B a hB ha f m _ _ _ (by omega) (by omega) (by omega) (by omega)
  have dh3 := of_decide_eq_false h3
  refine Au h3 (Eb (Aa ((decide (0 < i))) (fun h4 => ?_) fun h4 => ?_))
  have dh4 := of_decide_eq_true h4
  refine Af h4 (Af h4 (Ba (E2 h4 (Aa ((decide ((A2 B (a + i)) = 0))) (fun h5 => ?_) fun h5 => ?_))))
  have dh5 := of_decide_eq_true h5
  refine Ap h5 (Al (B0 s0 rfl (X0 .nil) (X1 trivial)) ?_)
  have e : D1 B a (f + 1) i z = (0, 0, 2) := by
   clear s0
   rw [D1]
   (repeat' split) <;> first | rfl | (exfalso; omega)
  rw [e]
  have dh5 := of_decide_eq_false h5
  refine Au h5 (Bw (by omega) (by omega) (Bw (by omega) (by omega) (Al (B0 s0 rfl (X0 .nil) (X1 trivial)) ?_)))
  have e : D1 B a (f + 1) i z = ((bits .or .i64 z ((bits .and .i64 (A2 B (a + i)) 127) * 2 ^ (7 * i).toNat)), ((a + i) + 1), 0) := by
   clear s0
   rw [D1]
   (repeat' split) <;> first | rfl | (exfalso; omega)
  rw [e]
  have dh4 := of_decide_eq_false h4
  refine Ae h4 (Ae h4 (E1 h4 (Au rfl (Bw (by omega) (by omega) (Bw (by omega) (by omega) (Al (B0 s0 rfl (X0 .nil) (X1 trivial)) ?_))))))
  have e : D1 B a (f + 1) i z = ((bits .or .i64 z ((bits .and .i64 (A2 B (a + i)) 127) * 2 ^ (7 * i).toNat)), ((a + i) + 1), 0) := by
   clear s0
   rw [D1]
   (repeat' split) <;> first | rfl | (exfalso; omega)
  rw [e]
theorem Ajj (n : Nat) (hn : 1048576 < n) (B : ByteArray) (a : Int) (hB : B.size ≤ 1099511627776) (ha : -1152921504606846976 ≤ a ∧ a ≤ 1152921504606846976) : C0 E0 (n + 2) 85 68 [Ad B, .sc (.int .i64 a)] = some (.tup [.sc (.int .i64 (Cv B a).1), .sc (.int .i64 (Cv B a).2.1), .sc (.int .i64 (Cv B a).2.2)]) := by
 rw [A7, Alr, f68]
 refine Cm (G := (· = some (.tup [.sc (.int .i64 (Cv B a).1), .sc (.int .i64 (Cv B a).2.1), .sc (.int .i64 (Cv B a).2.2)]))) ?_
 try simp only [Fa, E9]
 have s0 : Sep [] [] := Ch
 refine Cu (Ar (v := (.bool (Bu a 0 ((B.size : Nat) : Int)))) s0 rfl (P0 .nil) (Jk n _ a 0 ((B.size : Nat) : Int)) (Cr (Aa ((Bu a 0 ((B.size : Nat) : Int))) (fun h1 => ?_) fun h1 => ?_)))
 refine Au (nF h1) ?_
 have e : Cv B a = D1 B a 4 0 0 := by
  clear s0
  simp only [Bu, zag, decide_eq_true_eq] at h1; unfold Cv; rw [if_neg (by omega)]
 rw [e]
 have hv := h1; simp only [Bu, zag, decide_eq_true_eq] at hv; exact Yq n hn B a hB (by omega) 4 _ 0 0 _ (by omega) (by omega) (by omega) (by omega)
 refine Ap (nT h1) (Al (B0 s0 rfl (X0 .nil) (X1 trivial)) ?_)
 have e : Cv B a = (0, 0, 2) := by
  clear s0
  simp only [Bu, Bool.and_eq_false_iff, decide_eq_false_iff_not] at h1; unfold Cv; rw [if_pos (by omega)]
 rw [e]
theorem Y9 (n : Nat) (hn : 1048576 < n) (B : ByteArray) (a : Int) (hB : B.size ≤ 1099511627776) (ha : 0 ≤ a) : ∀ (f m : Nat) (i z : Int) (H : Ab), f < m → i + f = 4 → 0 ≤ i → a + i ≤ ((B.size : Nat) : Int) → Gd (· = some (.tup [.sc (.int .i64 (D1 B a f i z).1), .sc (.int .i64 (D1 B a f i z).2.1), .sc (.int .i64 (D1 B a f i z).2.2)])) (Q2 (PR (n + 1) AV) (n + 1) (fun x H => A8 As E0.tp 85 H x) m (Ad B) (.sc (.int .i64 a)) (.sc (.int .i64 z)) (.sc (.int .i64 i)) H)
 | 0, m + 1, i, z, H, hm, hi, h0, hs => by
  have s0 : Sep H [] := Ch
  rw [Q2]
  try simp only [Fa, E9]
  have hk : decide (i < 4) = false := by simp; omega
  refine Di (Au hk (Al (B0 s0 rfl (X0 .nil) (X1 trivial)) ?_))
  have e : D1 B a 0 i z = (0, 0, 2) := by
   rw [D1]
  rw [e]
 | f + 1, m + 1, i, z, H, hm, hi, h0, hs => by
  have s0 : Sep H [] := Ch
  rw [Q2]
  try simp only [Fa, E9]
  have hk : decide (i < 4) = true := by simp; omega
  refine Di (Ap hk (Bw (by omega) (by omega) (Cu (Akx (Aa ((decide (((B.size : Nat) : Int) ≤ (a + i)))) (fun h1 => ?_) fun h1 => ?_)))))
  have dh1 := of_decide_eq_true h1
  refine Ap h1 (Al (B0 s0 rfl (X0 .nil) (X1 trivial)) ?_)
  have e : D1 B a (f + 1) i z = (0, 0, 1) := by
   rw [D1]
   (repeat' split) <;> (rfl)
  rw [e]
  have dh1 := of_decide_eq_false h1
  refine Au h1 (Bw (by omega) (by omega) ?_)
  have w2 := D0 B (a + i)
  refine Gn (by omega) (by omega) fun _ => E5 (c := .sc (.int .u8 (A2 B (a + i)))) rfl (Kr (by omega) (by omega) (Gm rfl (Rz (by omega) (by omega) (AgO (2 ^ (7 * i).toNat) rfl (by omega) (by have h := Xk (x := (bits .and .i64 (A2 B (a + i)) 127)) (i := i) (by rw [O2 (by omega) (by omega)]; omega) (by omega); omega) (by have h := Xk (x := (bits .and .i64 (A2 B (a + i)) 127)) (i := i) (by rw [O2 (by omega) (by omega)]; omega) (by omega); omega) (AlJ rfl (Di (Aa ((decide ((A2 B (a + i)) < 128))) (fun h3 => ?_) fun h3 => ?_)))))))
  have dh3 := of_decide_eq_true h3
  refine Ap h3 (Eb (Aa ((decide (0 < i))) (fun h4 => ?_) fun h4 => ?_))
  have dh4 := of_decide_eq_true h4
  refine Af h4 (Af h4 (Ba (E2 h4 (Aa ((decide ((A2 B (a + i)) = 0))) (fun h5 => ?_) fun h5 => ?_))))
  have dh5 := of_decide_eq_true h5
  refine Ap h5 (Al (B0 s0 rfl (X0 .nil) (X1 trivial)) ?_)
  have e : D1 B a (f + 1) i z = (0, 0, 2) := by
   clear s0
   rw [D1]
   (repeat' split) <;> first | rfl | (exfalso; omega)
  rw [e]
  have dh5 := of_decide_eq_false h5
  refine Au h5 (Bw (by omega) (by omega) (Bw (by omega) (by omega) (Al (B0 s0 rfl (X0 .nil) (X1 trivial)) ?_)))
  have e : D1 B a (f + 1) i z = ((bits .or .i64 z ((bits .and .i64 (A2 B (a + i)) 127) * 2 ^ (7 * i).toNat)), ((a + i) + 1), 0) := by
   clear s0
   rw [D1]
   (repeat' split) <;> first | rfl | (exfalso; omega)
  rw [e]
  have dh4 := of_decide_eq_false h4
  refine Ae h4 (Ae h4 (E1 h4 (Au rfl (Bw (by omega) (by omega) (Bw (by omega) (by omega) (Al (B0 s0 rfl (X0 .nil) (X1 trivial)) ?_))))))
  have e : D1 B a (f + 1) i z = ((bits .or .i64 z ((bits .and .i64 (A2 B (a + i)) 127) * 2 ^ (7 * i).toNat)), ((a + i) + 1), 0) := by
   clear s0
   rw [D1]
   (repeat' split) <;> first | rfl | (exfalso; omega)
  rw [e]
  have dh3 := of_decide_eq_false h3
  refine Au h3 (Bw (by omega) (by omega) ?_)
  have e : D1 B a (f + 1) i z = D1 B a f (i + 1) (bits .or .i64 z ((bits .and .i64 (A2 B (a + i)) 127) * 2 ^ (7 * i).toNat)) := by
   rw [D1, if_neg (by omega), if_neg (by omega)]
  rw [e]
  exact Y9 n hn B a hB ha f m _ _ _ (by omega) (by omega) (by omega) (by omega)
theorem AjI (n : Nat) (hn : 1048576 < n) (B : ByteArray) (a : Int) (hB : B.size ≤ 1099511627776) (ha : -1152921504606846976 ≤ a ∧ a ≤ 1152921504606846976) : C0 E0 (n + 2) 85 62 [Ad B, .sc (.int .i64 a)] = some (.tup [.sc (.int .i64 (Cv B a).1), .sc (.int .i64 (Cv B a).2.1), .sc (.int .i64 (Cv B a).2.2)]) := by
 rw [A7, All, f62]
 refine Cm (G := (· = some (.tup [.sc (.int .i64 (Cv B a).1), .sc (.int .i64 (Cv B a).2.1), .sc (.int .i64 (Cv B a).2.2)]))) ?_
 try simp only [Fa, E9]
 have s0 : Sep [] [] := Ch
 refine Di (Aa ((decide (a < 0))) (fun h1 => ?_) fun h1 => ?_)
 have dh1 := of_decide_eq_true h1
 refine Ae h1 (Ae h1 (Ae h1 (Ae h1 (E2 h1 (Ap rfl (Al (B0 s0 rfl (X0 .nil) (X1 trivial)) ?_))))))
 have e : Cv B a = (0, 0, 2) := by
  clear s0
  unfold Cv; rw [if_pos (by omega)]
 rw [e]
 have dh1 := of_decide_eq_false h1
 refine Af h1 (Af h1 (Af h1 (Cu (Af h1 (Eb (E1 h1 (Aa ((decide (((B.size : Nat) : Int) < a))) (fun h2 => ?_) fun h2 => ?_)))))))
 have dh2 := of_decide_eq_true h2
 refine Ap h2 (Al (B0 s0 rfl (X0 .nil) (X1 trivial)) ?_)
 have e : Cv B a = (0, 0, 2) := by
  clear s0
  unfold Cv; rw [if_pos (by omega)]
 rw [e]
 have dh2 := of_decide_eq_false h2
 refine Au h2 ?_
 have e : Cv B a = D1 B a 4 0 0 := by
  clear s0
  unfold Cv; rw [if_neg (by omega)]
 rw [e]
 exact Y9 n hn B a hB (by omega) 4 _ 0 0 _ (by omega) (by omega) (by omega) (by omega)
theorem AbU (n : Nat) (hn : 1048576 < n) (f : Int) (hf : 0 ≤ f ∧ f < 256) : C0 E0 (n + 2) 4 67 [.sc (.int .i64 f)] = some (.sc (.bool (Dx f))) := by
 rw [A7, Alq, f67]
 refine Cm (G := (· = some (sb (Dx f)))) ?_
 try simp only [Fa, E9]
 have s0 : Sep [] [] := Ch
 refine Pe (by omega) (by omega) (by decide) (Qs (v := .sc (.int .i64 (f % 16))) (fun k => by show k (.sc (.int .i64 (Int.tmod (f) 16))) = _; rw [za7 (by omega)]) (Ba (Aa ((decide ((f / 16) = 3))) (fun h1 => ?_) fun h1 => ?_)))
 have dh1 := of_decide_eq_true h1
 refine Ap h1 (T2 2 rfl (by decide) (Gm rfl (Ks (Aa ((decide ((bits .and .i64 ((f % 16) / 2) 3) = 3))) (fun h2 => ?_) fun h2 => ?_))))
 have dh2 := of_decide_eq_true h2
 refine Ae (nF h2) (Ae (nF h2) (Ae (nF h2) (Ef (Ef (Ef (Ae (nF h2) (E1 (nF h2) (Al rfl ?_))))))))
 have e : Dx f = false := by
  simp only [Cs] at h1 h2
  (simp only [Dx, h1, h2, if_true, if_false, zaa]; rfl)
 rw [e]
 have dh2 := of_decide_eq_false h2
 refine Af (nT h2) (Af (nT h2) (Eb (Af (nT h2) (Aa ((decide (0 < (bits .and .i64 ((f % 16) / 2) 3)))) (fun h3 => ?_) fun h3 => ?_))))
 have dh3 := of_decide_eq_true h3
 refine Ae h3 (Ae h3 (Ae h3 (Af (nT h2) (E2 h3 (E2 (nT h2) (Al rfl ?_))))))
 have e : Dx f = true := by
  simp only [Cs] at h1 h2 h3
  (simp only [Dx, h1, h2, h3, if_true, if_false, zaa]; rfl)
 rw [e]
 have dh3 := of_decide_eq_false h3
 refine Af h3 (Af h3 (Gm rfl (Af h3 (Ba (Af (nT h2) (E1 h3 (E2 (nT h2) (Al rfl ?_))))))))
 have e : Dx f = (decide ((bits .and .i64 (f % 16) 8) = 0)) := by
  simp only [Cs] at h1 h2 h3
  (simp only [Dx, h1, h2, h3, if_true, if_false, zaa]; rfl)
 rw [e]
 have dh1 := of_decide_eq_false h1
 refine Au h1 (Ba (C8 (Aa ((decide ((f / 16) = 6))) (fun h4 => ?_) fun h4 => ?_)))
 have dh4 := of_decide_eq_true h4
 refine Ap h4 (Ap h4 (Ba (Al rfl ?_)))
 have e : Dx f = (decide ((f % 16) = 2)) := by
  simp only [Cs] at h1 h4
  (simp only [Dx, h1, h4, if_true, if_false, zaa]; rfl)
 rw [e]
 have dh4 := of_decide_eq_false h4
 refine Au h4 (Ba (Aa ((decide ((f / 16) = 8))) (fun h5 => ?_) fun h5 => ?_))
 have dh5 := of_decide_eq_true h5
 refine Ap h5 (Ap h5 (Ba (Al rfl ?_)))
 have e : Dx f = (decide ((f % 16) = 2)) := by
  simp only [Cs] at h1 h4 h5
  (simp only [Dx, h1, h4, h5, if_true, if_false, zaa]; rfl)
 rw [e]
 have dh5 := of_decide_eq_false h5
 refine Au h5 (Ba (Aa ((decide ((f / 16) = 10))) (fun h6 => ?_) fun h6 => ?_))
 have dh6 := of_decide_eq_true h6
 refine Ap h6 (Ba (Al rfl ?_))
 have e : Dx f = (decide ((f % 16) = 2)) := by
  simp only [Cs] at h1 h4 h5 h6
  (simp only [Dx, h1, h4, h5, h6, if_true, if_false, zaa]; rfl)
 rw [e]
 have dh6 := of_decide_eq_false h6
 refine Au h6 (Ar (v := (.bool (Bu (f / 16) 1 14))) s0 rfl (P0 .nil) (Jk n _ (f / 16) 1 14) (Aa ((Bu (f / 16) 1 14)) (fun h7 => ?_) fun h7 => ?_))
 refine Af h7 (Af h7 (Ba (E2 h7 (Al rfl ?_))))
 have e : Dx f = (decide ((f % 16) = 0)) := by
  simp only [Cs] at h1 h4 h5 h6
  (simp only [Dx, h1, h4, h5, h6, h7, if_true, if_false, zaa]; rfl)
 rw [e]
 refine Ae h7 (Ae h7 (E1 h7 (Al rfl ?_)))
 have e : Dx f = false := by
  simp only [Cs] at h1 h4 h5 h6
  (simp only [Dx, h1, h4, h5, h6, h7, if_true, if_false, zaa]; rfl)
 rw [e]
theorem Acl (n : Nat) (hn : 1048576 < n) (f : Int) (hf : 0 ≤ f ∧ f < 256) : C0 E0 (n + 1) 4 61 [.sc (.int .i64 f)] = some (.sc (.bool (E7 f))) := by
 rw [A7, Alk, f61]
 refine Cm (G := (· = some (sb (E7 f)))) ?_
 try simp only [Fa, E9]
 have s0 : Sep [] [] := Ch
 refine Pe (by omega) (by omega) (by decide) (Qs (v := .sc (.int .i64 (f % 16))) (fun k => by show k (.sc (.int .i64 (Int.tmod (f) 16))) = _; rw [za7 (by omega)]) (Ba (C8 (Aa ((decide ((f / 16) = 0))) (fun h1 => ?_) fun h1 => ?_))))
 have dh1 := of_decide_eq_true h1
 refine Ap h1 (Ap h1 (Al rfl ?_))
 have e : E7 f = false := by
  simp only [Cs] at h1
  (simp only [E7, h1, if_true, if_false, zaa]; rfl)
 rw [e]
 have dh1 := of_decide_eq_false h1
 refine Au h1 (Ba (Aa ((decide ((f / 16) = 15))) (fun h2 => ?_) fun h2 => ?_))
 have dh2 := of_decide_eq_true h2
 refine Ap h2 (Al rfl ?_)
 have e : E7 f = false := by
  simp only [Cs] at h1 h2
  (simp only [E7, h1, h2, if_true, if_false, zaa]; rfl)
 rw [e]
 have dh2 := of_decide_eq_false h2
 refine Au h2 (Ba (Aa ((decide ((f / 16) = 3))) (fun h3 => ?_) fun h3 => ?_))
 have dh3 := of_decide_eq_true h3
 refine Ap h3 (Pe (by omega) (by omega) (by decide) (Qs (v := .sc (.int .i64 (((f % 16) / 2) % 4))) (fun k => by show k (.sc (.int .i64 (Int.tmod (((f % 16) / 2)) 4))) = _; rw [za7 (by omega)]) (Di (Aa ((decide ((((f % 16) / 2) % 4) < 3))) (fun h4 => ?_) fun h4 => ?_))))
 have dh4 := of_decide_eq_true h4
 refine Af h4 (Af h4 (Eb (Af h4 (Aa ((decide (0 < (((f % 16) / 2) % 4)))) (fun h5 => ?_) fun h5 => ?_))))
 have dh5 := of_decide_eq_true h5
 refine Ae h5 (Ae h5 (Af h4 (E2 h5 (E2 h4 (Al rfl ?_)))))
 have e : E7 f = true := by
  simp only [Cs] at h1 h2 h3 h4 h5
  (simp only [E7, h1, h2, h3, h4, h5, if_true, if_false, zaa]; rfl)
 rw [e]
 have dh5 := of_decide_eq_false h5
 refine Af h5 (Af h5 (Di (Af h4 (E1 h5 (E2 h4 (Al rfl ?_))))))
 have e : E7 f = (decide ((f % 16) < 8)) := by
  simp only [Cs] at h1 h2 h3 h4 h5
  (simp only [E7, h1, h2, h3, h4, h5, if_true, if_false, zaa]; rfl)
 rw [e]
 have dh4 := of_decide_eq_false h4
 refine Ae h4 (Ae h4 (Ae h4 (Ef (Ef (Ae h4 (E1 h4 (Al rfl ?_)))))))
 have e : E7 f = false := by
  simp only [Cs] at h1 h2 h3 h4
  (simp only [E7, h1, h2, h3, h4, if_true, if_false, zaa]; rfl)
 rw [e]
 have dh3 := of_decide_eq_false h3
 refine Au h3 (Ba (C8 (Aa ((decide ((f / 16) = 6))) (fun h6 => ?_) fun h6 => ?_)))
 have dh6 := of_decide_eq_true h6
 refine Ap h6 (Ap h6 (Ba (Al rfl ?_)))
 have e : E7 f = (decide ((f % 16) = 2)) := by
  simp only [Cs] at h1 h2 h3 h6
  (simp only [E7, h1, h2, h3, h6, if_true, if_false, zaa]; rfl)
 rw [e]
 have dh6 := of_decide_eq_false h6
 refine Au h6 (Ba (Aa ((decide ((f / 16) = 8))) (fun h7 => ?_) fun h7 => ?_))
 have dh7 := of_decide_eq_true h7
 refine Ap h7 (Ap h7 (Ba (Al rfl ?_)))
 have e : E7 f = (decide ((f % 16) = 2)) := by
  simp only [Cs] at h1 h2 h3 h6 h7
  (simp only [E7, h1, h2, h3, h6, h7, if_true, if_false, zaa]; rfl)
 rw [e]
 have dh7 := of_decide_eq_false h7
 refine Au h7 (Ba (Aa ((decide ((f / 16) = 10))) (fun h8 => ?_) fun h8 => ?_))
 have dh8 := of_decide_eq_true h8
 refine Ap h8 (Ba (Al rfl ?_))
 have e : E7 f = (decide ((f % 16) = 2)) := by
  simp only [Cs] at h1 h2 h3 h6 h7 h8
  (simp only [E7, h1, h2, h3, h6, h7, h8, if_true, if_false, zaa]; rfl)
 rw [e]
 have dh8 := of_decide_eq_false h8
 refine Au h8 (Ba (Al rfl ?_))
 have e : E7 f = (decide ((f % 16) = 0)) := by
  simp only [Cs] at h1 h2 h3 h6 h7 h8
  (simp only [E7, h1, h2, h3, h6, h7, h8, if_true, if_false, zaa]; rfl)
 rw [e]
end
section
open Go
theorem AeG (n : Nat) (hn : 1048576 < n) (c : Nat) (B : ByteArray) (a : Int) (b : Bool) (hB : B.size ≤ 1099511627776) (h0 : 0 ≤ a) (h1 : a ≤ ((B.size : Nat) : Int)) {β : Type} {G : Option β → Prop} {KH : KO β} {H : Ab} {L : List Ck} (s0 : Sep H (.blk c [Ad B, .sc (.int .i64 a), .sc (.bool b)] true :: L)) (hk : ∀ (v : Int) (a' : Int) (b' : Bool) (H' : Ab), Lb B (a, b) = (v, a', b') → Sep H' (.blk c [Ad B, .sc (.int .i64 a'), .sc (.bool b')] true :: L) → Gd G (KH (.sc (.int .i64 v)) H')) : Gd G (Eh E0 (n + 1) β 100 [.ptr c 0] H fun x H => KH x H) := by
 rw [AhW, f100]
 try simp only [Fa, E9]
 refine C5 (Ox (Ao (c := sb b) s0 (.here) rfl (Aa (b) (fun h1 => ?_) fun h1 => ?_)))
 refine Ae h1 (Ae h1 (Ae h1 (Ae h1 (Ae h1 (Ae h1 (Ae h1 (Ae h1 (Ae h1 (Ae h1 (E2 h1 (Ap rfl (C5 (Ox (A3 s0 (.here) rfl rfl fun H s2 => ?_))))))))))))))
 have e : Lb B (a, b) = (0, a, true) := by
  unfold Lb; simp [h1]
 exact hk _ _ _ _ e s2
 refine Af h1 (Af h1 (C5 (Af h1 (Wd (Af h1 (Ao (c := si a) s0 (.here) rfl (Af h1 (Af h1 (C5 (Af h1 (Nl (Af h1 (Ao (c := Ad B) s0 (.here) rfl (Af h1 (Cu (Af h1 (Akx (E1 h1 (Aa ((decide (((B.size : Nat) : Int) ≤ a))) (fun h3 => ?_) fun h3 => ?_)))))))))))))))))))
 have dh3 := of_decide_eq_true h3
 refine Ap h3 (C5 (Ox (A3 s0 (.here) rfl rfl fun H s4 => ?_)))
 have e : Lb B (a, b) = (0, a, true) := by
  simp only [Cs] at h3
  unfold Lb; simp [h1, h3]
 exact hk _ _ _ _ e s4
 have dh3 := of_decide_eq_false h3
 refine Au h3 (C5 (Wd (Ao (c := si a) s0 (.here) rfl (Bw (by omega) (by omega) (C5 (Wd (A3 s0 (.here) rfl rfl fun H s5 => C5 (Nl (Ao (c := Ad B) s5 (.here) rfl (C5 (Wd (Ao (c := si (a + 1)) s5 (.here) rfl (Pf (by omega) (by omega) ?_)))))))))))))
 have w6 := D0 B ((a + 1) - 1)
 refine Gn (by omega) (by omega) fun _ => E5 (c := su (A2 B ((a + 1) - 1))) rfl (Kr (by omega) (by omega) ?_)
 have e : Lb B (a, b) = ((A2 B ((a + 1) - 1)), (a + 1), b) := by
  clear hk s0 s5
  simp only [Cs] at h3
  unfold Lb; simp [h1, h3]; try omega
 exact hk _ _ _ _ e s5
theorem AhG (n : Nat) (hn : 1048576 < n) (c : Nat) (B : ByteArray) (a : Int) (b : Bool) (hB : B.size ≤ 1099511627776) (h0 : 0 ≤ a) (h1 : a ≤ ((B.size : Nat) : Int)) {β : Type} {G : Option β → Prop} {KH : KO β} {H : Ab} {L : List Ck} (s0 : Sep H (.blk c [Ad B, .sc (.int .i64 a), .sc (.bool b)] true :: L)) (hk : ∀ (v : Int) (a' : Int) (b' : Bool) (H' : Ab), Hd B (a, b) = (v, a', b') → Sep H' (.blk c [Ad B, .sc (.int .i64 a'), .sc (.bool b')] true :: L) → Gd G (KH (.sc (.int .i64 v)) H')) : Gd G (Eh E0 (n + 2) β 102 [.ptr c 0] H fun x H => KH x H) := by
 rw [AhX, f102]
 try simp only [Fa, E9]
 refine C5 (Nl (Ao (c := Ad B) s0 (.here) rfl (C5 (Wd (Ao (c := si a) s0 (.here) rfl ?_)))))
 obtain ⟨wq1, yq1, oq1, q1⟩ : ∃ w y o, Bn B a = (w, y, o) := ⟨_, _, _, rfl⟩
 have bq1 := Fy q1
 refine D3 s0 rfl (.cons .ro (.cons .sc .nil)) (by have h := AcN n (by omega) B a (by omega) (by omega); rw [q1] at h; exact h) rfl (Bd (Bd (Bd Dz))) ?_
 rintro _ _ H ⟨_, rfl, ⟨_, rfl, ⟨_, rfl, ⟨rfl, rfl⟩⟩⟩⟩ s2
 simp only [zal] at s2
 refine Bm (v := si wq1) rfl (Bm (v := si yq1) rfl (Bm (v := sb oq1) rfl (C5 (Ox (Ao (c := sb b) s2 (.here) rfl (Aa (b) (fun h3 => ?_) fun h3 => ?_))))))
 refine Ae h3 (Ae h3 (E2 h3 (Ap rfl (C5 (Ox (A3 s2 (.here) rfl rfl fun H s4 => ?_))))))
 have e : Hd B (a, b) = (0, a, true) := by
  unfold Hd; simp [q1, h3]
 exact hk _ _ _ _ e s4
 refine Af h3 (Af h3 (Cr (E1 h3 (Aa (oq1) (fun h5 => ?_) fun h5 => ?_))))
 refine Au (nF h5) (C5 (Wd (A3 s2 (.here) rfl rfl fun H s6 => ?_)))
 have e : Hd B (a, b) = (wq1, yq1, b) := by
  unfold Hd; simp [q1, h3, h5]
 exact hk _ _ _ _ e s6
 refine Ap (nT h5) (C5 (Ox (A3 s2 (.here) rfl rfl fun H s7 => ?_)))
 have e : Hd B (a, b) = (0, a, true) := by
  unfold Hd; simp [q1, h3, h5]
 exact hk _ _ _ _ e s7
theorem Jt (n : Nat) (hn : 1048576 < n) (c : Nat) (B : ByteArray) (a : Int) (b : Bool) (hB : B.size ≤ 1099511627776) (h0 : 0 ≤ a) (h1 : a ≤ ((B.size : Nat) : Int)) {β : Type} {G : Option β → Prop} {KH : KO β} {H : Ab} {L : List Ck} (s0 : Sep H (.blk c [Ad B, .sc (.int .i64 a), .sc (.bool b)] true :: L)) (hk : ∀ (x : AV) (v : ByteArray) (a' : Int) (b' : Bool) (H' : Ab), Bk x = true → Ej B (a, b) = (v, a', b') → Sep H' (.own x 22 (Ad v) :: .blk c [Ad B, .sc (.int .i64 a'), .sc (.bool b')] true :: L) → Gd G (KH x H')) : Gd G (Eh E0 (n + 6) β 129 [.ptr c 0] H fun x H => KH x H) := by
 rw [Aip, f129]
 try simp only [Fa, E9]
 refine C5 (Nl (Ao (c := Ad B) s0 (.here) rfl (C5 (Wd (Ao (c := si a) s0 (.here) rfl ?_)))))
 obtain ⟨vq1, yq1, oq1, q1⟩ : ∃ w y o, Bf B a = (w, y, o) := ⟨_, _, _, rfl⟩
 have bq1 := Fd q1
 refine D3 s0 rfl (.cons .ro (.cons .sc .nil)) (by have h := Aji n (by omega) B a (by omega) (by omega); rw [q1] at h; exact h) rfl (Jd (ty := 22) rfl (Cx vq1) (Bd (Bd Dz))) ?_
 rintro _ _ H ⟨x2, _, _, lx2, rfl, rfl, ⟨_, rfl, ⟨_, rfl, ⟨rfl, rfl⟩⟩⟩⟩ s3
 simp only [zal, zau] at s3
 refine Bm (v := x2) rfl (Bm (v := si yq1) rfl (Bm (v := sb oq1) rfl (C5 (Ox (Ao (c := sb b) s3 Cn rfl (Aa (b) (fun h4 => ?_) fun h4 => ?_))))))
 refine Ae h4 (Ae h4 (E2 h4 (Ap rfl (C5 (Ox (A3 s3 Cn rfl rfl fun H s5 => ?_))))))
 have e : Ej B (a, b) = (bs0, a, true) := by
  unfold Ej; simp [q1, h4]
 have s6 := s5.nl (ty := 22) ⟨_, _, rfl, rfl⟩
 exact hk .nl _ _ _ _ rfl e (s6.sel (.cons (.here) (.cons (.here) (.skip .rest))))
 refine Af h4 (Af h4 (Cr (E1 h4 (Aa (oq1) (fun h7 => ?_) fun h7 => ?_))))
 refine Au (nF h7) (C5 (Wd (A3 s3 Cn rfl rfl fun H s8 => ?_)))
 have e : Ej B (a, b) = (vq1, yq1, b) := by
  unfold Ej; simp [q1, h4, h7]
 exact hk x2 _ _ _ _ lx2 e (s8.pick Cn)
 refine Ap (nT h7) (C5 (Ox (A3 s3 Cn rfl rfl fun H s9 => ?_)))
 have e : Ej B (a, b) = (bs0, a, true) := by
  unfold Ej; simp [q1, h4, h7]
 have s10 := s9.nl (ty := 22) ⟨_, _, rfl, rfl⟩
 exact hk .nl _ _ _ _ rfl e (s10.sel (.cons (.here) (.cons (.here) (.skip .rest))))
theorem Wr (n : Nat) (hn : 1048576 < n) (t : Int) (B : ByteArray) (c d : Nat) (id : Int) (hB : B.size ≤ 1099511627776) {β : Type} {G : Option β → Prop} {L : List Ck} (k : KO β) : ∀ (f m : Nat) (a : Int) (b : Bool) (ws : List WantV) (cs : List Int) (ns : List ByteArray) (xw xc xn : AV) (H : Ab), f ≤ m → ((b = true ∧ 1 ≤ f) ∨ 6 ≤ f + (ws.length + cs.length + ns.length)) → ws.length + cs.length + ns.length ≤ 5 → 0 ≤ a → a ≤ ((B.size : Nat) : Int) → Bk xw = true → Bk xc = true → Bk xn = true → Sep H (.own xw 55 (Bt Bp ws) :: .own xc 57 (D5 cs) :: .own xn 56 (D6 ns) :: .blk c [Ad B, .sc (.int .i64 a), .sc (.bool b)] true :: .blk d [.sc (.int .i64 t), .sc (.bool false), .sc (.int .i64 0), .sc (.bool false), .sc (.int .i64 id), .sc (.string (⟨#[]⟩)), .nl, .sc (.string (⟨#[]⟩)), .sc (.int .i64 0), .sc (.bool false), .sc (.int .i64 0), .sc (.bool false), .sc (.string (⟨#[]⟩)), .nl, .sc (.int .i64 0), .sc (.bool false), .sc (.bool false), .sc (.string (⟨#[]⟩)), .sc (.bool false), .nl, .sc (.int .i64 0), .sc (.bool false), xw, xn, xc] true :: L) → (∀ (yw yc yn : AV) (a' : Int) (b' : Bool) (H' : Ab), Bk yw = true → Bk yc = true → Bk yn = true → Sep H' (.own yw 55 (Bt Bp ((Cb t B f (a, b) ws cs ns).1)) :: .own yc 57 (D5 ((Cb t B f (a, b) ws cs ns).2.1)) :: .own yn 56 (D6 ((Cb t B f (a, b) ws cs ns).2.2)) :: .blk c [Ad B, .sc (.int .i64 (a')), .sc (.bool b')] true :: .blk d [.sc (.int .i64 t), .sc (.bool false), .sc (.int .i64 0), .sc (.bool false), .sc (.int .i64 id), .sc (.string (⟨#[]⟩)), .nl, .sc (.string (⟨#[]⟩)), .sc (.int .i64 0), .sc (.bool false), .sc (.int .i64 0), .sc (.bool false), .sc (.string (⟨#[]⟩)), .nl, .sc (.int .i64 0), .sc (.bool false), .sc (.bool false), .sc (.string (⟨#[]⟩)), .sc (.bool false), .nl, .sc (.int .i64 0), .sc (.bool false), yw, yn, yc] true :: L) → Gd G (k (C2 []) H')) → Gd G (Ky (PR (n + 8) β) (n + 8) k m (.ptr c 0) (.ptr d 0) H)
 | 0, m, a, b, ws, cs, ns, xw, xc, xn, H, hm, hM, ht, h0, h1, lxw, lxc, lxn, s0, hk => by
  exfalso
  omega
 | f + 1, m + 1, a, b, ws, cs, ns, xw, xc, xn, H, hm, hM, ht, h0, h1, lxw, lxc, lxn, s0, hk => by
  rw [Ky]
  try simp only [Fa, E9]
  refine Pc rfl rfl ?_
  rw [Air, f131]
  try simp only [Fa, E9]
  refine C5 (Ox (Ao (c := sb b) s0 L9 rfl (Cr (Aa (b) (fun h1 => ?_) fun h1 => ?_))))
  refine Ae (nF h1) (Ae (nF h1) (Ae (nF h1) (Ae (nF h1) (Ae (nF h1) (Ae (nF h1) (Ae (nF h1) (Ae (nF h1) (Ae (nF h1) (Ae (nF h1) (E1 (nF h1) (Ae rfl (Ae rfl (Ae rfl (Ae rfl (Ae rfl (Ae rfl (Ae rfl (Ae rfl (Ae rfl (Ae rfl (Ae rfl (Ae rfl (Ae rfl (Ae rfl (Ae rfl (Ae rfl (Ae rfl (Ae rfl (E1 rfl (Au rfl ?_))))))))))))))))))))))))))))))
  have e : Cb t B (f + 1) (a, b) ws cs ns = (ws, cs, ns) := by
   rw [Cb]; simp [h1]
  rw [e] at hk
  exact hk xw xc xn a b _ lxw lxc lxn (s0.sel (.cons (.here) (.cons (.here) (.cons (.here) (.cons (.here) (.cons (.here) .rest))))))
  refine Af (nT h1) (Af (nT h1) (C5 (Af (nT h1) (Wd (Af (nT h1) (Ao (c := si a) s0 L9 rfl (Af (nT h1) (Af (nT h1) (C5 (Af (nT h1) (Nl (Af (nT h1) (Ao (c := Ad B) s0 L9 rfl (Af (nT h1) (Cu (Af (nT h1) (Di (E2 (nT h1) (Aa ((decide (a < ((B.size : Nat) : Int)))) (fun h2 => ?_) fun h2 => ?_)))))))))))))))))))
  have dh2 := of_decide_eq_true h2
  refine Af h2 (Af h2 (C5 (Af h2 (Kf (Af h2 (Ao (c := xw) s0 Ma rfl (Af h2 (Jz s0 (.here) (Af h2 (Af h2 (C5 (Af h2 (Kn (Af h2 (Ao (c := xc) s0 Ma rfl (Af h2 (Jz s0 Cn (Af h2 (Bw (by omega) (by omega) (Af h2 (Af h2 (C5 (Af h2 (Km (Af h2 (Ao (c := xn) s0 Ma rfl (Af h2 (Jz s0 C7 (Af h2 (Bw (by omega) (by omega) (Af h2 (Pd (E2 h2 (Aa ((decide (((((ws.length : Nat) : Int) + ((cs.length : Nat) : Int)) + ((ns.length : Nat) : Int)) ≤ 4))) (fun h3 => ?_) fun h3 => ?_))))))))))))))))))))))))))))))))))
  have dh3 := of_decide_eq_true h3
  refine Ap h3 (C5 (Nl (Ao (c := si t) s0 Ma rfl (Ba (Aa ((decide (t = 8))) (fun h4 => ?_) fun h4 => ?_)))))
  have dh4 := of_decide_eq_true h4
  refine Ap h4 (Bb (cs := [sE, i0]) rfl (Ie s0 fun i5 H s6 => B8 (cs' := [sE, i0]) s6 (.here) (Ah rfl) rfl (Ca rfl) rfl fun H s7 => Pc rfl rfl ?_))
  rw [Mk, f101]
  try simp only [Fa, E9]
  have s9 := s7.pick Ma
  refine Jw rfl rfl (Jt (n + 1) (by omega) c B a (b) hB (by omega) (by omega) s9 fun xq8 vq8 aq8 bq8 H lxq8 q8 s10 => ?_)
  have b_q8 := Fb q8 (by omega) (by omega)
  refine Mq s10 ⟨_, _, rfl, rfl, rfl, rfl⟩ (.here) (Nl (A3 s10 C7 rfl rfl fun H s11 => ?_))
  have s13 := s11.pick C7
  refine Jw rfl rfl (AeG (n + 7) (by omega) c B aq8 (bq8) hB (by omega) (by omega) s13 fun vq12 aq12 bq12 H q12 s14 => ?_)
  have b_q12 := Qn q12 (by omega) (by omega)
  refine Wd (A3 s14 Cn rfl rfl fun H s15 => C5 (Kf (Ao (c := xw) s15 Yb rfl (Aq s15 (.here) rfl (Bb (cs := [ss vq8, si vq12]) (Jb (z' := [ss vq8, si vq12]) (Ah rfl) rfl (Ca rfl) rfl (rfl)) (B9 s15 fun i16 H s17 => Zs (cty := [9, 3]) (e := (⟨vq8, vq12⟩ : WantV)) s17 ⟨_, _, rfl, rfl, rfl, rfl⟩ Ma (.here) rfl rfl (.sc (.sc .nil)) (E8 trivial) rfl (by omega) fun x18 H lx18 s19 => C5 (Kf (B8 (cs' := [si t, bF, i0, bF, si id, sE, .nl, sE, i0, bF, i0, bF, sE, .nl, i0, bF, bF, sE, bF, .nl, i0, bF, x18, xn, xc]) s19 Yb (D2 lx18) rfl (Ca rfl) rfl fun H s20 => ?_))))))))
  have e : Cb t B (f + 1) (a, b) ws cs ns = Cb t B f (aq12, bq12) (ws ++ [⟨vq8, vq12⟩]) cs ns := by
   simp only [Cs] at h2 h3 h4
   rw [Cb]; simp only [q8, q12]; simp [h1, h2, h3, h4]
  rw [e] at hk
  have hM2 : 6 ≤ f + 1 + (ws.length + cs.length + ns.length) := hM.resolve_left (by simp [h1])
  exact Wr n hn t B c d id hB k f m aq12 bq12 (ws ++ [⟨vq8, vq12⟩]) cs ns x18 xc xn _ (by omega) (by (simp only [zad, zas]; omega)) (by (simp only [zad, zas]; omega)) (by omega) (by omega) lx18 lxc lxn (s20.sel (.cons Cn (.cons Ma (.cons Ma (.cons C7 (.cons (.here) zS2)))))) hk
  have dh4 := of_decide_eq_false h4
  refine Au h4 (Ba (Aa ((decide (t = 9))) (fun h21 => ?_) fun h21 => ?_))
  have dh21 := of_decide_eq_true h21
  refine Ap h21 ?_
  have s23 := s0.pick L9
  refine Jw rfl rfl (AeG (n + 7) (by omega) c B a (b) hB (by omega) (by omega) s23 fun vq22 aq22 bq22 H q22 s24 => ?_)
  have b_q22 := Qn q22 (by omega) (by omega)
  refine C5 (Kn (Ao (c := xc) s24 Ma rfl (Bb (cs := [si vq22]) rfl (B9 s24 fun i25 H s26 => AcL s26 L9 (.here) ⟨_, _, rfl, rfl, rfl, rfl⟩ rfl (by omega) fun x27 H lx27 s28 => C5 (Kn (B8 (cs' := [si t, bF, i0, bF, si id, sE, .nl, sE, i0, bF, i0, bF, sE, .nl, i0, bF, bF, sE, bF, .nl, i0, bF, xw, xn, x27]) s28 Ma (D2 lx27) rfl (Ca rfl) rfl fun H s29 => ?_))))))
  have e : Cb t B (f + 1) (a, b) ws cs ns = Cb t B f (aq22, bq22) ws (cs ++ [vq22]) ns := by
   simp only [Cs] at h2 h3 h4 h21
   rw [Cb]; simp only [q22]; simp [h1, h2, h3, h4, h21]
  rw [e] at hk
  have hM2 : 6 ≤ f + 1 + (ws.length + cs.length + ns.length) := hM.resolve_left (by simp [h1])
  exact Wr n hn t B c d id hB k f m aq22 bq22 ws (cs ++ [vq22]) ns xw x27 xn _ (by omega) (by (simp only [zad, zas]; omega)) (by (simp only [zad, zas]; omega)) (by omega) (by omega) lxw lx27 lxn (s29.sel (.cons L9 (.cons Cn (.cons C7 (.cons Cn (.cons (.here) .rest)))))) hk
  have dh21 := of_decide_eq_false h21
  refine Au h21 (Ba (Aa ((decide (t = 10))) (fun h30 => ?_) fun h30 => ?_))
  have dh30 := of_decide_eq_true h30
  refine Ap h30 (Pc rfl rfl ?_)
  rw [Mk, f101]
  try simp only [Fa, E9]
  have s32 := s0.pick L9
  refine Jw rfl rfl (Jt (n + 1) (by omega) c B a (b) hB (by omega) (by omega) s32 fun xq31 vq31 aq31 bq31 H lxq31 q31 s33 => ?_)
  have b_q31 := Fb q31 (by omega) (by omega)
  refine Mq s33 ⟨_, _, rfl, rfl, rfl, rfl⟩ (.here) (C5 (Km (Ao (c := xn) s33 Uz rfl (Bb (cs := [ss vq31]) rfl (B9 s33 fun i34 H s35 => Zt s35 Uz (.here) ⟨_, _, rfl, rfl, rfl, rfl⟩ rfl (by omega) fun x36 H lx36 s37 => C5 (Km (B8 (cs' := [si t, bF, i0, bF, si id, sE, .nl, sE, i0, bF, i0, bF, sE, .nl, i0, bF, bF, sE, bF, .nl, i0, bF, xw, x36, xc]) s37 Uz (D2 lx36) rfl (Ca rfl) rfl fun H s38 => ?_)))))))
  have e : Cb t B (f + 1) (a, b) ws cs ns = Cb t B f (aq31, bq31) ws cs (ns ++ [vq31]) := by
   simp only [Cs] at h2 h3 h4 h21 h30
   rw [Cb]; simp only [q31]; simp [h1, h2, h3, h4, h21, h30]
  rw [e] at hk
  have hM2 : 6 ≤ f + 1 + (ws.length + cs.length + ns.length) := hM.resolve_left (by simp [h1])
  exact Wr n hn t B c d id hB k f m aq31 bq31 ws cs (ns ++ [vq31]) xw xc x36 _ (by omega) (by (simp only [zad, zas]; omega)) (by (simp only [zad, zas]; omega)) (by omega) (by omega) lxw lxc lx36 (s38.sel (.cons Ma (.cons Ma (.cons Cn (.cons C7 (.cons (.here) (.skip .rest))))))) hk
  have dh30 := of_decide_eq_false h30
  refine Au h30 (C5 (Ox (B8 (cs' := [Ad B, si a, bT]) s0 L9 (D2 rfl) rfl (Ca rfl) rfl fun H s39 => ?_)))
  have e : Cb t B (f + 1) (a, b) ws cs ns = Cb t B f (a, true) ws cs ns := by
   simp only [Cs] at h2 h3 h4 h21 h30
   rw [Cb]; simp [h1, h2, h3, h4, h21, h30]
  rw [e] at hk
  have hM2 : 6 ≤ f + 1 + (ws.length + cs.length + ns.length) := hM.resolve_left (by simp [h1])
  exact Wr n hn t B c d id hB k f m a true ws cs ns xw xc xn _ (by omega) (by exact Or.inl ⟨rfl, by omega⟩) (by omega) (by omega) (by omega) lxw lxc lxn (s39.sel (.cons Cn (.cons Cn (.cons Cn (.cons (.here) (.cons (.here) .rest)))))) hk
  have dh3 := of_decide_eq_false h3
  refine Au h3 ?_
  have e : Cb t B (f + 1) (a, b) ws cs ns = (ws, cs, ns) := by
   clear hk s0
   simp only [Cs] at h2 h3
   rw [Cb]; simp [h1, h2, h3]; try omega
  rw [e] at hk
  exact hk xw xc xn a b _ lxw lxc lxn (s0.sel (.cons (.here) (.cons (.here) (.cons (.here) (.cons (.here) (.cons (.here) .rest))))))
  have dh2 := of_decide_eq_false h2
  refine Ae h2 (Ae h2 (Ae h2 (Ae h2 (Ae h2 (Ae h2 (Ae h2 (Ae h2 (Ae h2 (Ae h2 (Ae h2 (Ae h2 (Ae h2 (Ae h2 (Ae h2 (Ae h2 (Ae h2 (Ae h2 (E1 h2 (Au rfl ?_)))))))))))))))))))
  have e : Cb t B (f + 1) (a, b) ws cs ns = (ws, cs, ns) := by
   simp only [Cs] at h2
   rw [Cb]; simp [h1, h2]
  rw [e] at hk
  exact hk xw xc xn a b _ lxw lxc lxn (s0.sel (.cons (.here) (.cons (.here) (.cons (.here) (.cons (.here) (.cons (.here) .rest))))))
theorem Ak9 (n : Nat) (hn : 1048576 < n) (first : Int) (B : ByteArray) (hf : 0 ≤ first ∧ first < 256) (hB : B.size ≤ 1099511627776) : C0 E0 (n + 11) 59 69 [.sc (.int .i64 first), Ad B] = some (.agg (An (Dk first B))) := by
 rw [A7, Als, f69]
 refine Cm (G := (· = some (.agg (An (Dk first B))))) ?_
 try simp only [Fa, E9]
 have s0 : Sep [] [] := Ch
 refine Ie s0 fun i1 H s2 => Bb (cs := [Ad B, i0, bF]) rfl (Om s2 (Ah rfl) fun i3 H s4 => Pe (by omega) (by omega) (by decide) (Bb (cs := [si (first / 16), bF, i0, bF, i0, sE, .nl, sE, i0, bF, i0, bF, sE, .nl, i0, bF, bF, sE, bF, .nl, i0, bF, .nl, .nl, .nl]) rfl (Ie s4 fun i5 H s6 => B8 (cs' := [si (first / 16), bF, i0, bF, i0, sE, .nl, sE, i0, bF, i0, bF, sE, .nl, i0, bF, bF, sE, bF, .nl, i0, bF, .nl, .nl, .nl]) s6 (.here) (Ah rfl) rfl (Ca rfl) rfl fun H s7 => Nl (Ao (c := si (first / 16)) s7 (.here) rfl (Ba (C8 (Aa ((decide ((first / 16) = 1))) (fun h8 => ?_) fun h8 => ?_)))))))
 have dh8 := of_decide_eq_true h8
 refine Ap h8 (Pc rfl rfl ?_)
 rw [AlF, f99]
 try simp only [Fa, E9]
 refine Pc rfl rfl ?_
 rw [Mk, f101]
 try simp only [Fa, E9]
 have s10 := s7.pick Cn
 refine Jw rfl rfl (Jt (n + 2) (by omega) i3 B 0 (false) hB (by omega) (by omega) s10 fun xq9 vq9 aq9 bq9 H lxq9 q9 s11 => ?_)
 have b_q9 := Fb q9 (by omega) (by omega)
 refine Mq s11 ⟨_, _, rfl, rfl, rfl, rfl⟩ (.here) ?_
 have s13 := s11.pick Cn
 refine Jw rfl rfl (AeG (n + 8) (by omega) i3 B aq9 (bq9) hB (by omega) (by omega) s13 fun vq12 aq12 bq12 H q12 s14 => ?_)
 have b_q12 := Qn q12 (by omega) (by omega)
 refine C5 (gf8 (A3 s14 C7 rfl rfl fun H s15 => ?_))
 have s17 := s15.pick Cn
 refine Jw rfl rfl (AeG (n + 8) (by omega) i3 B aq12 (bq12) hB (by omega) (by omega) s17 fun vq16 aq16 bq16 H q16 s18 => ?_)
 have b_q16 := Qn q16 (by omega) (by omega)
 have s20 := s18.pick (.here)
 refine Jw rfl rfl (AhG (n + 7) (by omega) i3 B aq16 (bq16) hB (by omega) (by omega) s20 fun vq19 aq19 bq19 H q19 s21 => ?_)
 have b_q19 := Tr q19 (by omega) (by omega)
 refine C5 (We (A3 s21 Cn rfl rfl fun H s22 => Pc rfl rfl ?_))
 rw [Mk, f101]
 try simp only [Fa, E9]
 have s24 := s22.pick Cn
 refine Jw rfl rfl (Jt (n + 2) (by omega) i3 B aq19 (bq19) hB (by omega) (by omega) s24 fun xq23 vq23 aq23 bq23 H lxq23 q23 s25 => ?_)
 have b_q23 := Fb q23 (by omega) (by omega)
 refine Mq s25 ⟨_, _, rfl, rfl, rfl, rfl⟩ (.here) (C5 (gf7 (A3 s25 C7 rfl rfl fun H s26 => Gm rfl (Ks (Gm rfl (Ks (Gm rfl (Ks (Gm rfl (Ks (C5 (gf9 (A3 s26 (.here) rfl rfl fun H s27 => C5 (Qp (A3 s27 (.here) rfl rfl fun H s28 => C5 (Ke (A3 s28 (.here) rfl rfl fun H s29 => C5 (Ow (A3 s29 (.here) rfl rfl fun H s30 => C5 (Qp (Ao (c := sb (!(decide ((bits .and .i64 vq16 4) = 0)))) s30 (.here) rfl (C8 (Aa ((decide ((bits .and .i64 vq16 4) = 0))) (fun h31 => ?_) fun h31 => ?_)))))))))))))))))))))))
 have dh31 := of_decide_eq_true h31
 refine Au (nF h31) (C5 (Ow (Ao (c := sb (!(decide ((bits .and .i64 vq16 128) = 0)))) s30 (.here) rfl (C8 (Aa ((decide ((bits .and .i64 vq16 128) = 0))) (fun h32 => ?_) fun h32 => ?_)))))
 have dh32 := of_decide_eq_true h32
 refine Au (nF h32) (C5 (Ke (Ao (c := sb (!(decide ((bits .and .i64 vq16 64) = 0)))) s30 (.here) rfl (Aa ((decide ((bits .and .i64 vq16 64) = 0))) (fun h33 => ?_) fun h33 => ?_))))
 have dh33 := of_decide_eq_true h33
 refine Au (nF h33) (Aq s30 (.here) rfl (B8 (cs' := [si (first / 16), bF, i0, bF, i0, sE, .nl, ss vq23, si vq12, sb (!(decide ((bits .and .i64 vq16 2) = 0))), si vq19, sb (!(decide ((bits .and .i64 vq16 4) = 0))), sE, .nl, i0, bF, sb (!(decide ((bits .and .i64 vq16 128) = 0))), sE, sb (!(decide ((bits .and .i64 vq16 64) = 0))), .nl, i0, bF, .nl, .nl, .nl]) s30 Ma (Ah rfl) rfl (Ca rfl) rfl fun H s34 => Aq s34 (.here) rfl (Al (B4 s34 ⟨_, rfl, rfl⟩ (Du (.nl (Du (.nl (G6 (.nl (.sc (.sc (.nl (.nl (.nl .nil))))))))))) (Dv ⟨A9, (Dv ⟨A9, (Hb ⟨A9, (E8 ⟨A9, ⟨A9, ⟨A9, trivial⟩⟩⟩)⟩)⟩)⟩)) ?_)))
 have e : Dk first B = (⟨(first / 16), false, 0, false, 0, ⟨#[]⟩, ⟨#[]⟩, vq23, vq12, (!(decide ((bits .and .i64 vq16 2) = 0))), vq19, (!(decide ((bits .and .i64 vq16 4) = 0))), ⟨#[]⟩, ⟨#[]⟩, 0, false, (!(decide ((bits .and .i64 vq16 128) = 0))), ⟨#[]⟩, (!(decide ((bits .and .i64 vq16 64) = 0))), ⟨#[]⟩, 0, false, [], [], []⟩ : PacketV) := by
  simp only [Cs] at h8
  unfold Dk Fc Gj; simp only [h8, h31, h32, h33, q9, q12, q16, q19, q23, if_true, if_false, or_true, or_false, false_or, true_or, za0, za2, zaa, reduceIte]; simp [B3, h8, h31, h32, h33]
 rw [e]
 rfl
 have dh33 := of_decide_eq_false h33
 refine Ap (nT h33) ?_
 have s36 := s30.pick C7
 refine Jw rfl rfl (Jt (n + 3) (by omega) i3 B aq23 (bq23) hB (by omega) (by omega) s36 fun xq35 vq35 aq35 bq35 H lxq35 q35 s37 => ?_)
 have b_q35 := Fb q35 (by omega) (by omega)
 refine C5 (Ms (A3 s37 C7 lxq35 rfl fun H s38 => Aq s38 (.here) rfl (B8 (cs' := [si (first / 16), bF, i0, bF, i0, sE, .nl, ss vq23, si vq12, sb (!(decide ((bits .and .i64 vq16 2) = 0))), si vq19, sb (!(decide ((bits .and .i64 vq16 4) = 0))), sE, .nl, i0, bF, sb (!(decide ((bits .and .i64 vq16 128) = 0))), sE, sb (!(decide ((bits .and .i64 vq16 64) = 0))), xq35, i0, bF, .nl, .nl, .nl]) s38 Uz (Ah (Ac rfl (Ac rfl (Ac rfl (Ac rfl (Ac rfl (Ac rfl (Ac rfl (Ac rfl (Ac rfl (Ac rfl (Ac rfl (Ac rfl (Ac rfl (Ac rfl (Ac rfl (Ac rfl (Ac rfl (Ac rfl (Ac rfl (Ac lxq35 rfl))))))))))))))))))))) rfl (Ca rfl) rfl fun H s39 => Aq s39 (.here) rfl (Al (B4 s39 ⟨_, rfl, rfl⟩ (Du (.nl (Du (.nl (G6 (.own C7 (.sc (.sc (.nl (.nl (.nl .nil))))))))))) (Dv ⟨A9, (Dv ⟨A9, (Hb ⟨(Bs (Cx vq35) (by decide)), (E8 ⟨A9, ⟨A9, ⟨A9, trivial⟩⟩⟩)⟩)⟩)⟩)) ?_))))
 have e : Dk first B = (⟨(first / 16), false, 0, false, 0, ⟨#[]⟩, ⟨#[]⟩, vq23, vq12, (!(decide ((bits .and .i64 vq16 2) = 0))), vq19, (!(decide ((bits .and .i64 vq16 4) = 0))), ⟨#[]⟩, ⟨#[]⟩, 0, false, (!(decide ((bits .and .i64 vq16 128) = 0))), ⟨#[]⟩, (!(decide ((bits .and .i64 vq16 64) = 0))), vq35, 0, false, [], [], []⟩ : PacketV) := by
  simp only [Cs] at h8
  unfold Dk Fc Gj; simp only [h8, h31, h32, h33, q9, q12, q16, q19, q23, q35, if_true, if_false, or_true, or_false, false_or, true_or, za0, za2, zaa, reduceIte]; simp [B3, h8, h31, h32, h33]
 rw [e]
 rfl
 have dh32 := of_decide_eq_false h32
 refine Ap (nT h32) (Pc rfl rfl ?_)
 rw [Mk, f101]
 try simp only [Fa, E9]
 have s41 := s30.pick C7
 refine Jw rfl rfl (Jt (n + 2) (by omega) i3 B aq23 (bq23) hB (by omega) (by omega) s41 fun xq40 vq40 aq40 bq40 H lxq40 q40 s42 => ?_)
 have b_q40 := Fb q40 (by omega) (by omega)
 refine Mq s42 ⟨_, _, rfl, rfl, rfl, rfl⟩ (.here) (C5 (Pg (A3 s42 C7 rfl rfl fun H s43 => C5 (Ke (Ao (c := sb (!(decide ((bits .and .i64 vq16 64) = 0)))) s43 (.here) rfl (Aa ((decide ((bits .and .i64 vq16 64) = 0))) (fun h44 => ?_) fun h44 => ?_))))))
 have dh44 := of_decide_eq_true h44
 refine Au (nF h44) (Aq s43 (.here) rfl (B8 (cs' := [si (first / 16), bF, i0, bF, i0, sE, .nl, ss vq23, si vq12, sb (!(decide ((bits .and .i64 vq16 2) = 0))), si vq19, sb (!(decide ((bits .and .i64 vq16 4) = 0))), sE, .nl, i0, bF, sb (!(decide ((bits .and .i64 vq16 128) = 0))), ss vq40, sb (!(decide ((bits .and .i64 vq16 64) = 0))), .nl, i0, bF, .nl, .nl, .nl]) s43 Uz (Ah rfl) rfl (Ca rfl) rfl fun H s45 => Aq s45 (.here) rfl (Al (B4 s45 ⟨_, rfl, rfl⟩ (Du (.nl (Du (.nl (G6 (.nl (.sc (.sc (.nl (.nl (.nl .nil))))))))))) (Dv ⟨A9, (Dv ⟨A9, (Hb ⟨A9, (E8 ⟨A9, ⟨A9, ⟨A9, trivial⟩⟩⟩)⟩)⟩)⟩)) ?_)))
 have e : Dk first B = (⟨(first / 16), false, 0, false, 0, ⟨#[]⟩, ⟨#[]⟩, vq23, vq12, (!(decide ((bits .and .i64 vq16 2) = 0))), vq19, (!(decide ((bits .and .i64 vq16 4) = 0))), ⟨#[]⟩, ⟨#[]⟩, 0, false, (!(decide ((bits .and .i64 vq16 128) = 0))), vq40, (!(decide ((bits .and .i64 vq16 64) = 0))), ⟨#[]⟩, 0, false, [], [], []⟩ : PacketV) := by
  simp only [Cs] at h8
  unfold Dk Fc Gj; simp only [h8, h31, h32, h44, q9, q12, q16, q19, q23, q40, if_true, if_false, or_true, or_false, false_or, true_or, za0, za2, zaa, reduceIte]; simp [B3, h8, h31, h32, h44]
 rw [e]
 rfl
 have dh44 := of_decide_eq_false h44
 refine Ap (nT h44) ?_
 have s47 := s43.pick C7
 refine Jw rfl rfl (Jt (n + 3) (by omega) i3 B aq40 (bq40) hB (by omega) (by omega) s47 fun xq46 vq46 aq46 bq46 H lxq46 q46 s48 => ?_)
 have b_q46 := Fb q46 (by omega) (by omega)
 refine C5 (Ms (A3 s48 C7 lxq46 rfl fun H s49 => Aq s49 (.here) rfl (B8 (cs' := [si (first / 16), bF, i0, bF, i0, sE, .nl, ss vq23, si vq12, sb (!(decide ((bits .and .i64 vq16 2) = 0))), si vq19, sb (!(decide ((bits .and .i64 vq16 4) = 0))), sE, .nl, i0, bF, sb (!(decide ((bits .and .i64 vq16 128) = 0))), ss vq40, sb (!(decide ((bits .and .i64 vq16 64) = 0))), xq46, i0, bF, .nl, .nl, .nl]) s49 Yb (Ah (Ac rfl (Ac rfl (Ac rfl (Ac rfl (Ac rfl (Ac rfl (Ac rfl (Ac rfl (Ac rfl (Ac rfl (Ac rfl (Ac rfl (Ac rfl (Ac rfl (Ac rfl (Ac rfl (Ac rfl (Ac rfl (Ac rfl (Ac lxq46 rfl))))))))))))))))))))) rfl (Ca rfl) rfl fun H s50 => Aq s50 (.here) rfl (Al (B4 s50 ⟨_, rfl, rfl⟩ (Du (.nl (Du (.nl (G6 (.own C7 (.sc (.sc (.nl (.nl (.nl .nil))))))))))) (Dv ⟨A9, (Dv ⟨A9, (Hb ⟨(Bs (Cx vq46) (by decide)), (E8 ⟨A9, ⟨A9, ⟨A9, trivial⟩⟩⟩)⟩)⟩)⟩)) ?_))))
 have e : Dk first B = (⟨(first / 16), false, 0, false, 0, ⟨#[]⟩, ⟨#[]⟩, vq23, vq12, (!(decide ((bits .and .i64 vq16 2) = 0))), vq19, (!(decide ((bits .and .i64 vq16 4) = 0))), ⟨#[]⟩, ⟨#[]⟩, 0, false, (!(decide ((bits .and .i64 vq16 128) = 0))), vq40, (!(decide ((bits .and .i64 vq16 64) = 0))), vq46, 0, false, [], [], []⟩ : PacketV) := by
  simp only [Cs] at h8
  unfold Dk Fc Gj; simp only [h8, h31, h32, h44, q9, q12, q16, q19, q23, q40, q46, if_true, if_false, or_true, or_false, false_or, true_or, za0, za2, zaa, reduceIte]; simp [B3, h8, h31, h32, h44]
 rw [e]
 rfl
 have dh31 := of_decide_eq_false h31
 refine Ap (nT h31) (T2 8 rfl (by decide) (Gm rfl (Gm rfl (Ks (C5 (Wh (A3 s30 (.here) rfl rfl fun H s51 => C5 (AaB (A3 s51 (.here) rfl rfl fun H s52 => Pc rfl rfl ?_)))))))))
 rw [Mk, f101]
 try simp only [Fa, E9]
 have s54 := s52.pick C7
 refine Jw rfl rfl (Jt (n + 2) (by omega) i3 B aq23 (bq23) hB (by omega) (by omega) s54 fun xq53 vq53 aq53 bq53 H lxq53 q53 s55 => ?_)
 have b_q53 := Fb q53 (by omega) (by omega)
 refine Mq s55 ⟨_, _, rfl, rfl, rfl, rfl⟩ (.here) (C5 (Wf (A3 s55 C7 rfl rfl fun H s56 => ?_)))
 have s58 := s56.pick C7
 refine Jw rfl rfl (Jt (n + 3) (by omega) i3 B aq53 (bq53) hB (by omega) (by omega) s58 fun xq57 vq57 aq57 bq57 H lxq57 q57 s59 => ?_)
 have b_q57 := Fb q57 (by omega) (by omega)
 refine C5 (Wg (A3 s59 C7 lxq57 rfl fun H s60 => C5 (Ow (Ao (c := sb (!(decide ((bits .and .i64 vq16 128) = 0)))) s60 (.here) rfl (C8 (Aa ((decide ((bits .and .i64 vq16 128) = 0))) (fun h61 => ?_) fun h61 => ?_))))))
 have dh61 := of_decide_eq_true h61
 refine Au (nF h61) (C5 (Ke (Ao (c := sb (!(decide ((bits .and .i64 vq16 64) = 0)))) s60 (.here) rfl (Aa ((decide ((bits .and .i64 vq16 64) = 0))) (fun h62 => ?_) fun h62 => ?_))))
 have dh62 := of_decide_eq_true h62
 refine Au (nF h62) (Aq s60 (.here) rfl (B8 (cs' := [si (first / 16), bF, i0, bF, i0, sE, .nl, ss vq23, si vq12, sb (!(decide ((bits .and .i64 vq16 2) = 0))), si vq19, sb (!(decide ((bits .and .i64 vq16 4) = 0))), ss vq53, xq57, si (bits .and .i64 (vq16 / 8) 3), sb (!(decide ((bits .and .i64 vq16 32) = 0))), sb (!(decide ((bits .and .i64 vq16 128) = 0))), sE, sb (!(decide ((bits .and .i64 vq16 64) = 0))), .nl, i0, bF, .nl, .nl, .nl]) s60 Yb (Ah (Ac rfl (Ac rfl (Ac rfl (Ac rfl (Ac rfl (Ac rfl (Ac rfl (Ac rfl (Ac rfl (Ac rfl (Ac rfl (Ac rfl (Ac rfl (Ac lxq57 rfl))))))))))))))) rfl (Ca rfl) rfl fun H s63 => Aq s63 (.here) rfl (Al (B4 s63 ⟨_, rfl, rfl⟩ (Du (.nl (Du (.own C7 (G6 (.nl (.sc (.sc (.nl (.nl (.nl .nil))))))))))) (Dv ⟨A9, (Dv ⟨(Bs (Cx vq57) (by decide)), (Hb ⟨A9, (E8 ⟨A9, ⟨A9, ⟨A9, trivial⟩⟩⟩)⟩)⟩)⟩)) ?_)))
 have e : Dk first B = (⟨(first / 16), false, 0, false, 0, ⟨#[]⟩, ⟨#[]⟩, vq23, vq12, (!(decide ((bits .and .i64 vq16 2) = 0))), vq19, (!(decide ((bits .and .i64 vq16 4) = 0))), vq53, vq57, (bits .and .i64 (vq16 / 8) 3), (!(decide ((bits .and .i64 vq16 32) = 0))), (!(decide ((bits .and .i64 vq16 128) = 0))), ⟨#[]⟩, (!(decide ((bits .and .i64 vq16 64) = 0))), ⟨#[]⟩, 0, false, [], [], []⟩ : PacketV) := by
  simp only [Cs] at h8
  unfold Dk Fc Gj; simp only [h8, h31, h61, h62, q9, q12, q16, q19, q23, q53, q57, if_true, if_false, or_true, or_false, false_or, true_or, za0, za2, zaa, reduceIte]; simp [B3, h8, h31, h61, h62]
 rw [e]
 rfl
 have dh62 := of_decide_eq_false h62
 refine Ap (nT h62) ?_
 have s65 := s60.pick C7
 refine Jw rfl rfl (Jt (n + 3) (by omega) i3 B aq57 (bq57) hB (by omega) (by omega) s65 fun xq64 vq64 aq64 bq64 H lxq64 q64 s66 => ?_)
 have b_q64 := Fb q64 (by omega) (by omega)
 refine C5 (Ms (A3 s66 C7 lxq64 rfl fun H s67 => Aq s67 (.here) rfl (B8 (cs' := [si (first / 16), bF, i0, bF, i0, sE, .nl, ss vq23, si vq12, sb (!(decide ((bits .and .i64 vq16 2) = 0))), si vq19, sb (!(decide ((bits .and .i64 vq16 4) = 0))), ss vq53, xq57, si (bits .and .i64 (vq16 / 8) 3), sb (!(decide ((bits .and .i64 vq16 32) = 0))), sb (!(decide ((bits .and .i64 vq16 128) = 0))), sE, sb (!(decide ((bits .and .i64 vq16 64) = 0))), xq64, i0, bF, .nl, .nl, .nl]) s67 zP7 (Ah (Ac rfl (Ac rfl (Ac rfl (Ac rfl (Ac rfl (Ac rfl (Ac rfl (Ac rfl (Ac rfl (Ac rfl (Ac rfl (Ac rfl (Ac rfl (Ac lxq57 (Ac rfl (Ac rfl (Ac rfl (Ac rfl (Ac rfl (Ac lxq64 rfl))))))))))))))))))))) rfl (Ca rfl) rfl fun H s68 => Aq s68 (.here) rfl (Al (B4 s68 ⟨_, rfl, rfl⟩ (Du (.nl (Du (.own Ma (G6 (.own C7 (.sc (.sc (.nl (.nl (.nl .nil))))))))))) (Dv ⟨A9, (Dv ⟨(Bs (Cx vq57) (by decide)), (Hb ⟨(Bs (Cx vq64) (by decide)), (E8 ⟨A9, ⟨A9, ⟨A9, trivial⟩⟩⟩)⟩)⟩)⟩)) ?_))))
 have e : Dk first B = (⟨(first / 16), false, 0, false, 0, ⟨#[]⟩, ⟨#[]⟩, vq23, vq12, (!(decide ((bits .and .i64 vq16 2) = 0))), vq19, (!(decide ((bits .and .i64 vq16 4) = 0))), vq53, vq57, (bits .and .i64 (vq16 / 8) 3), (!(decide ((bits .and .i64 vq16 32) = 0))), (!(decide ((bits .and .i64 vq16 128) = 0))), ⟨#[]⟩, (!(decide ((bits .and .i64 vq16 64) = 0))), vq64, 0, false, [], [], []⟩ : PacketV) := by
  simp only [Cs] at h8
  unfold Dk Fc Gj; simp only [h8, h31, h61, h62, q9, q12, q16, q19, q23, q53, q57, q64, if_true, if_false, or_true, or_false, false_or, true_or, za0, za2, zaa, reduceIte]; simp [B3, h8, h31, h61, h62]
 rw [e]
 rfl
 have dh61 := of_decide_eq_false h61
 refine Ap (nT h61) (Pc rfl rfl ?_)
 rw [Mk, f101]
 try simp only [Fa, E9]
 have s70 := s60.pick C7
 refine Jw rfl rfl (Jt (n + 2) (by omega) i3 B aq57 (bq57) hB (by omega) (by omega) s70 fun xq69 vq69 aq69 bq69 H lxq69 q69 s71 => ?_)
 have b_q69 := Fb q69 (by omega) (by omega)
 refine Mq s71 ⟨_, _, rfl, rfl, rfl, rfl⟩ (.here) (C5 (Pg (A3 s71 C7 rfl rfl fun H s72 => C5 (Ke (Ao (c := sb (!(decide ((bits .and .i64 vq16 64) = 0)))) s72 (.here) rfl (Aa ((decide ((bits .and .i64 vq16 64) = 0))) (fun h73 => ?_) fun h73 => ?_))))))
 have dh73 := of_decide_eq_true h73
 refine Au (nF h73) (Aq s72 (.here) rfl (B8 (cs' := [si (first / 16), bF, i0, bF, i0, sE, .nl, ss vq23, si vq12, sb (!(decide ((bits .and .i64 vq16 2) = 0))), si vq19, sb (!(decide ((bits .and .i64 vq16 4) = 0))), ss vq53, xq57, si (bits .and .i64 (vq16 / 8) 3), sb (!(decide ((bits .and .i64 vq16 32) = 0))), sb (!(decide ((bits .and .i64 vq16 128) = 0))), ss vq69, sb (!(decide ((bits .and .i64 vq16 64) = 0))), .nl, i0, bF, .nl, .nl, .nl]) s72 zP7 (Ah (Ac rfl (Ac rfl (Ac rfl (Ac rfl (Ac rfl (Ac rfl (Ac rfl (Ac rfl (Ac rfl (Ac rfl (Ac rfl (Ac rfl (Ac rfl (Ac lxq57 rfl))))))))))))))) rfl (Ca rfl) rfl fun H s74 => Aq s74 (.here) rfl (Al (B4 s74 ⟨_, rfl, rfl⟩ (Du (.nl (Du (.own Ma (G6 (.nl (.sc (.sc (.nl (.nl (.nl .nil))))))))))) (Dv ⟨A9, (Dv ⟨(Bs (Cx vq57) (by decide)), (Hb ⟨A9, (E8 ⟨A9, ⟨A9, ⟨A9, trivial⟩⟩⟩)⟩)⟩)⟩)) ?_)))
 have e : Dk first B = (⟨(first / 16), false, 0, false, 0, ⟨#[]⟩, ⟨#[]⟩, vq23, vq12, (!(decide ((bits .and .i64 vq16 2) = 0))), vq19, (!(decide ((bits .and .i64 vq16 4) = 0))), vq53, vq57, (bits .and .i64 (vq16 / 8) 3), (!(decide ((bits .and .i64 vq16 32) = 0))), (!(decide ((bits .and .i64 vq16 128) = 0))), vq69, (!(decide ((bits .and .i64 vq16 64) = 0))), ⟨#[]⟩, 0, false, [], [], []⟩ : PacketV) := by
  simp only [Cs] at h8
  unfold Dk Fc Gj; simp only [h8, h31, h61, h73, q9, q12, q16, q19, q23, q53, q57, q69, if_true, if_false, or_true, or_false, false_or, true_or, za0, za2, zaa, reduceIte]; simp [B3, h8, h31, h61, h73]
 rw [e]
 rfl
 have dh73 := of_decide_eq_false h73
 refine Ap (nT h73) ?_
 have s76 := s72.pick C7
 refine Jw rfl rfl (Jt (n + 3) (by omega) i3 B aq69 (bq69) hB (by omega) (by omega) s76 fun xq75 vq75 aq75 bq75 H lxq75 q75 s77 => ?_)
 have b_q75 := Fb q75 (by omega) (by omega)
 refine C5 (Ms (A3 s77 C7 lxq75 rfl fun H s78 => Aq s78 (.here) rfl (B8 (cs' := [si (first / 16), bF, i0, bF, i0, sE, .nl, ss vq23, si vq12, sb (!(decide ((bits .and .i64 vq16 2) = 0))), si vq19, sb (!(decide ((bits .and .i64 vq16 4) = 0))), ss vq53, xq57, si (bits .and .i64 (vq16 / 8) 3), sb (!(decide ((bits .and .i64 vq16 32) = 0))), sb (!(decide ((bits .and .i64 vq16 128) = 0))), ss vq69, sb (!(decide ((bits .and .i64 vq16 64) = 0))), xq75, i0, bF, .nl, .nl, .nl]) s78 zP8 (Ah (Ac rfl (Ac rfl (Ac rfl (Ac rfl (Ac rfl (Ac rfl (Ac rfl (Ac rfl (Ac rfl (Ac rfl (Ac rfl (Ac rfl (Ac rfl (Ac lxq57 (Ac rfl (Ac rfl (Ac rfl (Ac rfl (Ac rfl (Ac lxq75 rfl))))))))))))))))))))) rfl (Ca rfl) rfl fun H s79 => Aq s79 (.here) rfl (Al (B4 s79 ⟨_, rfl, rfl⟩ (Du (.nl (Du (.own Uz (G6 (.own C7 (.sc (.sc (.nl (.nl (.nl .nil))))))))))) (Dv ⟨A9, (Dv ⟨(Bs (Cx vq57) (by decide)), (Hb ⟨(Bs (Cx vq75) (by decide)), (E8 ⟨A9, ⟨A9, ⟨A9, trivial⟩⟩⟩)⟩)⟩)⟩)) ?_))))
 have e : Dk first B = (⟨(first / 16), false, 0, false, 0, ⟨#[]⟩, ⟨#[]⟩, vq23, vq12, (!(decide ((bits .and .i64 vq16 2) = 0))), vq19, (!(decide ((bits .and .i64 vq16 4) = 0))), vq53, vq57, (bits .and .i64 (vq16 / 8) 3), (!(decide ((bits .and .i64 vq16 32) = 0))), (!(decide ((bits .and .i64 vq16 128) = 0))), vq69, (!(decide ((bits .and .i64 vq16 64) = 0))), vq75, 0, false, [], [], []⟩ : PacketV) := by
  simp only [Cs] at h8
  unfold Dk Fc Gj; simp only [h8, h31, h61, h73, q9, q12, q16, q19, q23, q53, q57, q69, q75, if_true, if_false, or_true, or_false, false_or, true_or, za0, za2, zaa, reduceIte]; simp [B3, h8, h31, h61, h73]
 rw [e]
 rfl
 have dh8 := of_decide_eq_false h8
 refine Au h8 (Ba (Aa ((decide ((first / 16) = 2))) (fun h80 => ?_) fun h80 => ?_))
 have dh80 := of_decide_eq_true h80
 refine Ap h80 ?_
 have s82 := s7.pick Cn
 refine Jw rfl rfl (AeG (n + 9) (by omega) i3 B 0 (false) hB (by omega) (by omega) s82 fun vq81 aq81 bq81 H q81 s83 => ?_)
 have b_q81 := Qn q81 (by omega) (by omega)
 refine Ba (Wi (A3 s83 Cn rfl rfl fun H s84 => ?_))
 have s86 := s84.pick Cn
 refine Jw rfl rfl (AeG (n + 9) (by omega) i3 B aq81 (bq81) hB (by omega) (by omega) s86 fun vq85 aq85 bq85 H q85 s87 => ?_)
 have b_q85 := Qn q85 (by omega) (by omega)
 refine Q9 (A3 s87 Cn rfl rfl fun H s88 => Aq s88 (.here) rfl (B8 (cs' := [si (first / 16), bF, i0, bF, i0, sE, .nl, sE, i0, bF, i0, bF, sE, .nl, i0, bF, bF, sE, bF, .nl, si vq85, sb (decide (vq81 = 1)), .nl, .nl, .nl]) s88 C7 (Ah rfl) rfl (Ca rfl) rfl fun H s89 => Aq s89 (.here) rfl (Al (B4 s89 ⟨_, rfl, rfl⟩ (Du (.nl (Du (.nl (G6 (.nl (.sc (.sc (.nl (.nl (.nl .nil))))))))))) (Dv ⟨A9, (Dv ⟨A9, (Hb ⟨A9, (E8 ⟨A9, ⟨A9, ⟨A9, trivial⟩⟩⟩)⟩)⟩)⟩)) ?_)))
 have e : Dk first B = (⟨(first / 16), false, 0, false, 0, ⟨#[]⟩, ⟨#[]⟩, ⟨#[]⟩, 0, false, 0, false, ⟨#[]⟩, ⟨#[]⟩, 0, false, false, ⟨#[]⟩, false, ⟨#[]⟩, vq85, (decide (vq81 = 1)), [], [], []⟩ : PacketV) := by
  simp only [Cs] at h8 h80
  unfold Dk Fc Gj; simp only [h8, h80, q81, q85, if_true, if_false, or_true, or_false, false_or, true_or, za0, za2, zaa, reduceIte]; simp [B3, h8, h80]
 rw [e]
 rfl
 have dh80 := of_decide_eq_false h80
 refine Au h80 (Ba (Aa ((decide ((first / 16) = 3))) (fun h90 => ?_) fun h90 => ?_))
 have dh90 := of_decide_eq_true h90
 refine Ap h90 (Gm rfl (Ks (T2 2 rfl (by decide) (Gm rfl (Gm rfl (Ks (Wd (A3 s7 (.here) rfl rfl fun H s91 => Ox (A3 s91 (.here) rfl rfl fun H s92 => gf3 (A3 s92 (.here) rfl rfl fun H s93 => Pc rfl rfl ?_))))))))))
 rw [Mk, f101]
 try simp only [Fa, E9]
 have s95 := s93.pick Cn
 refine Jw rfl rfl (Jt (n + 3) (by omega) i3 B 0 (false) hB (by omega) (by omega) s95 fun xq94 vq94 aq94 bq94 H lxq94 q94 s96 => ?_)
 have b_q94 := Fb q94 (by omega) (by omega)
 refine Mq s96 ⟨_, _, rfl, rfl, rfl, rfl⟩ (.here) (gf5 (A3 s96 C7 rfl rfl fun H s97 => Ox (Ao (c := si (bits .and .i64 (first / 2) 3)) s97 (.here) rfl (Eb (C8 (Aa ((decide (0 < (bits .and .i64 (first / 2) 3)))) (fun h98 => ?_) fun h98 => ?_))))))
 have dh98 := of_decide_eq_true h98
 refine Ap h98 ?_
 have s100 := s97.pick C7
 refine Jw rfl rfl (AhG (n + 8) (by omega) i3 B aq94 (bq94) hB (by omega) (by omega) s100 fun vq99 aq99 bq99 H q99 s101 => ?_)
 have b_q99 := Tr q99 (by omega) (by omega)
 refine Ig (A3 s101 Cn rfl rfl fun H s102 => C5 (Ox (Ao (c := sb bq99) s102 Cn rfl (Cr (Aa (bq99) (fun h103 => ?_) fun h103 => ?_)))))
 refine Au (nF h103) (Aq s102 (.here) rfl (B8 (cs' := [si (first / 16), sb (!(decide ((bits .and .i64 first 8) = 0))), si (bits .and .i64 (first / 2) 3), sb (!(decide ((bits .and .i64 first 1) = 0))), si vq99, ss vq94, .nl, sE, i0, bF, i0, bF, sE, .nl, i0, bF, bF, sE, bF, .nl, i0, bF, .nl, .nl, .nl]) s102 L9 (Ah rfl) rfl (Ca rfl) rfl fun H s104 => Aq s104 (.here) rfl (Al (B4 s104 ⟨_, rfl, rfl⟩ (Du (.nl (Du (.nl (G6 (.nl (.sc (.sc (.nl (.nl (.nl .nil))))))))))) (Dv ⟨A9, (Dv ⟨A9, (Hb ⟨A9, (E8 ⟨A9, ⟨A9, ⟨A9, trivial⟩⟩⟩)⟩)⟩)⟩)) ?_)))
 have e : Dk first B = (⟨(first / 16), (!(decide ((bits .and .i64 first 8) = 0))), (bits .and .i64 (first / 2) 3), (!(decide ((bits .and .i64 first 1) = 0))), vq99, vq94, ⟨#[]⟩, ⟨#[]⟩, 0, false, 0, false, ⟨#[]⟩, ⟨#[]⟩, 0, false, false, ⟨#[]⟩, false, ⟨#[]⟩, 0, false, [], [], []⟩ : PacketV) := by
  simp only [Cs] at h8 h80 h90 h98
  unfold Dk Fc Gj; simp only [h8, h80, h90, h98, h103, q94, q99, if_true, if_false, or_true, or_false, false_or, true_or, za0, za2, zaa, reduceIte]; simp [B3, h8, h80, h90, h98, h103]
 rw [e]
 rfl
 refine Ap (nT h103) (C5 (Wd (Ao (c := si aq99) s102 Cn rfl (Fs aq99 ((B.size : Nat) : Int) rfl rfl (by omega) (by omega) (by omega) ?_))))
 have z105 := zao (a := B) (b := aq99.toNat) (e := ((B.size : Nat) : Int).toNat)
 refine Bb (cs := [Ad (B.extract aq99.toNat ((B.size : Nat) : Int).toNat)]) rfl (B9 s102 fun i106 H s107 => B7 s107 rfl (.sl (.here) rfl (.cons .ro .nil) .nil) (M6 (n + 6) (by omega) (B.extract aq99.toNat ((B.size : Nat) : Int).toNat) (by omega)) (Cx (B.extract aq99.toNat ((B.size : Nat) : Int).toNat)) fun x108 H lx108 s109 => gf6 (A3 s109 C7 lx108 rfl fun H s110 => Aq s110 (.here) rfl (B8 (cs' := [si (first / 16), sb (!(decide ((bits .and .i64 first 8) = 0))), si (bits .and .i64 (first / 2) 3), sb (!(decide ((bits .and .i64 first 1) = 0))), si vq99, ss vq94, x108, sE, i0, bF, i0, bF, sE, .nl, i0, bF, bF, sE, bF, .nl, i0, bF, .nl, .nl, .nl]) s110 Uz (Ah (Ac rfl (Ac rfl (Ac rfl (Ac rfl (Ac rfl (Ac rfl (Ac lx108 rfl)))))))) rfl (Ca rfl) rfl fun H s111 => Aq s111 (.here) rfl (Al (B4 s111 ⟨_, rfl, rfl⟩ (Du (.own C7 (Du (.nl (G6 (.nl (.sc (.sc (.nl (.nl (.nl .nil))))))))))) (Dv ⟨(Bs (Cx (B.extract aq99.toNat ((B.size : Nat) : Int).toNat)) (by decide)), (Dv ⟨A9, (Hb ⟨A9, (E8 ⟨A9, ⟨A9, ⟨A9, trivial⟩⟩⟩)⟩)⟩)⟩)) ?_))))
 have e : Dk first B = (⟨(first / 16), (!(decide ((bits .and .i64 first 8) = 0))), (bits .and .i64 (first / 2) 3), (!(decide ((bits .and .i64 first 1) = 0))), vq99, vq94, (B.extract aq99.toNat ((B.size : Nat) : Int).toNat), ⟨#[]⟩, 0, false, 0, false, ⟨#[]⟩, ⟨#[]⟩, 0, false, false, ⟨#[]⟩, false, ⟨#[]⟩, 0, false, [], [], []⟩ : PacketV) := by
  simp only [Cs] at h8 h80 h90 h98
  unfold Dk Fc Gj; simp only [h8, h80, h90, h98, h103, q94, q99, if_true, if_false, or_true, or_false, false_or, true_or, za0, za2, zaa, reduceIte]; simp [B3, h8, h80, h90, h98, h103]
 rw [e]
 rfl
 have dh98 := of_decide_eq_false h98
 refine Au h98 (C5 (Ox (Ao (c := sb bq94) s97 C7 rfl (Cr (Aa (bq94) (fun h112 => ?_) fun h112 => ?_)))))
 refine Au (nF h112) (Aq s97 (.here) rfl (B8 (cs' := [si (first / 16), sb (!(decide ((bits .and .i64 first 8) = 0))), si (bits .and .i64 (first / 2) 3), sb (!(decide ((bits .and .i64 first 1) = 0))), i0, ss vq94, .nl, sE, i0, bF, i0, bF, sE, .nl, i0, bF, bF, sE, bF, .nl, i0, bF, .nl, .nl, .nl]) s97 L9 (Ah rfl) rfl (Ca rfl) rfl fun H s113 => Aq s113 (.here) rfl (Al (B4 s113 ⟨_, rfl, rfl⟩ (Du (.nl (Du (.nl (G6 (.nl (.sc (.sc (.nl (.nl (.nl .nil))))))))))) (Dv ⟨A9, (Dv ⟨A9, (Hb ⟨A9, (E8 ⟨A9, ⟨A9, ⟨A9, trivial⟩⟩⟩)⟩)⟩)⟩)) ?_)))
 have e : Dk first B = (⟨(first / 16), (!(decide ((bits .and .i64 first 8) = 0))), (bits .and .i64 (first / 2) 3), (!(decide ((bits .and .i64 first 1) = 0))), 0, vq94, ⟨#[]⟩, ⟨#[]⟩, 0, false, 0, false, ⟨#[]⟩, ⟨#[]⟩, 0, false, false, ⟨#[]⟩, false, ⟨#[]⟩, 0, false, [], [], []⟩ : PacketV) := by
  simp only [Cs] at h8 h80 h90 h98
  unfold Dk Fc Gj; simp only [h8, h80, h90, h98, h112, q94, if_true, if_false, or_true, or_false, false_or, true_or, za0, za2, zaa, reduceIte]; simp [B3, h8, h80, h90, h98, h112]
 rw [e]
 rfl
 refine Ap (nT h112) (C5 (Wd (Ao (c := si aq94) s97 C7 rfl (Fs aq94 ((B.size : Nat) : Int) rfl rfl (by omega) (by omega) (by omega) ?_))))
 have z114 := zao (a := B) (b := aq94.toNat) (e := ((B.size : Nat) : Int).toNat)
 refine Bb (cs := [Ad (B.extract aq94.toNat ((B.size : Nat) : Int).toNat)]) rfl (B9 s97 fun i115 H s116 => B7 s116 rfl (.sl (.here) rfl (.cons .ro .nil) .nil) (M6 (n + 6) (by omega) (B.extract aq94.toNat ((B.size : Nat) : Int).toNat) (by omega)) (Cx (B.extract aq94.toNat ((B.size : Nat) : Int).toNat)) fun x117 H lx117 s118 => gf6 (A3 s118 C7 lx117 rfl fun H s119 => Aq s119 (.here) rfl (B8 (cs' := [si (first / 16), sb (!(decide ((bits .and .i64 first 8) = 0))), si (bits .and .i64 (first / 2) 3), sb (!(decide ((bits .and .i64 first 1) = 0))), i0, ss vq94, x117, sE, i0, bF, i0, bF, sE, .nl, i0, bF, bF, sE, bF, .nl, i0, bF, .nl, .nl, .nl]) s119 Uz (Ah (Ac rfl (Ac rfl (Ac rfl (Ac rfl (Ac rfl (Ac rfl (Ac lx117 rfl)))))))) rfl (Ca rfl) rfl fun H s120 => Aq s120 (.here) rfl (Al (B4 s120 ⟨_, rfl, rfl⟩ (Du (.own C7 (Du (.nl (G6 (.nl (.sc (.sc (.nl (.nl (.nl .nil))))))))))) (Dv ⟨(Bs (Cx (B.extract aq94.toNat ((B.size : Nat) : Int).toNat)) (by decide)), (Dv ⟨A9, (Hb ⟨A9, (E8 ⟨A9, ⟨A9, ⟨A9, trivial⟩⟩⟩)⟩)⟩)⟩)) ?_))))
 have e : Dk first B = (⟨(first / 16), (!(decide ((bits .and .i64 first 8) = 0))), (bits .and .i64 (first / 2) 3), (!(decide ((bits .and .i64 first 1) = 0))), 0, vq94, (B.extract aq94.toNat ((B.size : Nat) : Int).toNat), ⟨#[]⟩, 0, false, 0, false, ⟨#[]⟩, ⟨#[]⟩, 0, false, false, ⟨#[]⟩, false, ⟨#[]⟩, 0, false, [], [], []⟩ : PacketV) := by
  simp only [Cs] at h8 h80 h90 h98
  unfold Dk Fc Gj; simp only [h8, h80, h90, h98, h112, q94, if_true, if_false, or_true, or_false, false_or, true_or, za0, za2, zaa, reduceIte]; simp [B3, h8, h80, h90, h98, h112]
 rw [e]
 rfl
 have dh90 := of_decide_eq_false h90
 refine Au h90 (Ba (C8 (Aa ((decide ((first / 16) = 12))) (fun h121 => ?_) fun h121 => ?_)))
 have dh121 := of_decide_eq_true h121
 refine Ap h121 (Ap h121 (Aq s7 (.here) rfl (B8 (cs' := [si (first / 16), bF, i0, bF, i0, sE, .nl, sE, i0, bF, i0, bF, sE, .nl, i0, bF, bF, sE, bF, .nl, i0, bF, .nl, .nl, .nl]) s7 C7 (Ah rfl) rfl (Ca rfl) rfl fun H s122 => Aq s122 (.here) rfl (Al (B4 s122 ⟨_, rfl, rfl⟩ (Du (.nl (Du (.nl (G6 (.nl (.sc (.sc (.nl (.nl (.nl .nil))))))))))) (Dv ⟨A9, (Dv ⟨A9, (Hb ⟨A9, (E8 ⟨A9, ⟨A9, ⟨A9, trivial⟩⟩⟩)⟩)⟩)⟩)) ?_))))
 have e : Dk first B = (⟨(first / 16), false, 0, false, 0, ⟨#[]⟩, ⟨#[]⟩, ⟨#[]⟩, 0, false, 0, false, ⟨#[]⟩, ⟨#[]⟩, 0, false, false, ⟨#[]⟩, false, ⟨#[]⟩, 0, false, [], [], []⟩ : PacketV) := by
  simp only [Cs] at h8 h80 h90 h121
  unfold Dk Fc Gj; simp only [h8, h80, h90, h121, if_true, if_false, or_true, or_false, false_or, true_or, za0, za2, zaa, reduceIte]; simp [B3, h8, h80, h90, h121]
 rw [e]
 rfl
 have dh121 := of_decide_eq_false h121
 refine Au h121 (Ba (Aa ((decide ((first / 16) = 13))) (fun h123 => ?_) fun h123 => ?_))
 have dh123 := of_decide_eq_true h123
 refine Ap h123 (Ap h123 (Aq s7 (.here) rfl (B8 (cs' := [si (first / 16), bF, i0, bF, i0, sE, .nl, sE, i0, bF, i0, bF, sE, .nl, i0, bF, bF, sE, bF, .nl, i0, bF, .nl, .nl, .nl]) s7 C7 (Ah rfl) rfl (Ca rfl) rfl fun H s124 => Aq s124 (.here) rfl (Al (B4 s124 ⟨_, rfl, rfl⟩ (Du (.nl (Du (.nl (G6 (.nl (.sc (.sc (.nl (.nl (.nl .nil))))))))))) (Dv ⟨A9, (Dv ⟨A9, (Hb ⟨A9, (E8 ⟨A9, ⟨A9, ⟨A9, trivial⟩⟩⟩)⟩)⟩)⟩)) ?_))))
 have e : Dk first B = (⟨(first / 16), false, 0, false, 0, ⟨#[]⟩, ⟨#[]⟩, ⟨#[]⟩, 0, false, 0, false, ⟨#[]⟩, ⟨#[]⟩, 0, false, false, ⟨#[]⟩, false, ⟨#[]⟩, 0, false, [], [], []⟩ : PacketV) := by
  simp only [Cs] at h8 h80 h90 h121 h123
  unfold Dk Fc Gj; simp only [h8, h80, h90, h121, h123, if_true, if_false, or_true, or_false, false_or, true_or, za0, za2, zaa, reduceIte]; simp [B3, h8, h80, h90, h121, h123]
 rw [e]
 rfl
 have dh123 := of_decide_eq_false h123
 refine Au h123 (Ba (Aa ((decide ((first / 16) = 14))) (fun h125 => ?_) fun h125 => ?_))
 have dh125 := of_decide_eq_true h125
 refine Ap h125 (Aq s7 (.here) rfl (B8 (cs' := [si (first / 16), bF, i0, bF, i0, sE, .nl, sE, i0, bF, i0, bF, sE, .nl, i0, bF, bF, sE, bF, .nl, i0, bF, .nl, .nl, .nl]) s7 C7 (Ah rfl) rfl (Ca rfl) rfl fun H s126 => Aq s126 (.here) rfl (Al (B4 s126 ⟨_, rfl, rfl⟩ (Du (.nl (Du (.nl (G6 (.nl (.sc (.sc (.nl (.nl (.nl .nil))))))))))) (Dv ⟨A9, (Dv ⟨A9, (Hb ⟨A9, (E8 ⟨A9, ⟨A9, ⟨A9, trivial⟩⟩⟩)⟩)⟩)⟩)) ?_)))
 have e : Dk first B = (⟨(first / 16), false, 0, false, 0, ⟨#[]⟩, ⟨#[]⟩, ⟨#[]⟩, 0, false, 0, false, ⟨#[]⟩, ⟨#[]⟩, 0, false, false, ⟨#[]⟩, false, ⟨#[]⟩, 0, false, [], [], []⟩ : PacketV) := by
  simp only [Cs] at h8 h80 h90 h121 h123 h125
  unfold Dk Fc Gj; simp only [h8, h80, h90, h121, h123, h125, if_true, if_false, or_true, or_false, false_or, true_or, za0, za2, zaa, reduceIte]; simp [B3, h8, h80, h90, h121, h123, h125]
 rw [e]
 rfl
 have dh125 := of_decide_eq_false h125
 refine Au h125 ?_
 have s128 := s7.pick Cn
 refine Jw rfl rfl (AhG (n + 8) (by omega) i3 B 0 (false) hB (by omega) (by omega) s128 fun vq127 aq127 bq127 H q127 s129 => ?_)
 have b_q127 := Tr q127 (by omega) (by omega)
 refine Ig (A3 s129 Cn rfl rfl fun H s130 => Pc rfl rfl ?_)
 rw [AhY, f103]
 have s131 := s130.nl (ty := 56) ⟨_, _, rfl, rfl⟩
 have s132 := s131.nl (ty := 57) ⟨_, _, rfl, rfl⟩
 have s133 := s132.nl (ty := 55) ⟨_, _, rfl, rfl⟩
 have s135a := s133.sel (.cons .here (.cons .here (.cons .here (.cons Cn (.cons (.here) .rest)))))
 refine Wr (n + 1) (by omega) (first / 16) B i3 i5 vq127 hB _ 8 _ aq127 bq127 [] [] [] .nl .nl .nl _ (by omega) (Or.inr (by decide)) (by decide) (by omega) (by omega) rfl rfl rfl s135a fun wq134 cq134 nq134 aq134 bq134 H lwq134 lcq134 lnq134 s135 => Aq s135 Ma rfl (B8 (cs' := [si (first / 16), bF, i0, bF, si vq127, sE, .nl, sE, i0, bF, i0, bF, sE, .nl, i0, bF, bF, sE, bF, .nl, i0, bF, wq134, nq134, cq134]) s135 Uz (Ah (Ac rfl (Ac rfl (Ac rfl (Ac rfl (Ac rfl (Ac rfl (Ac rfl (Ac rfl (Ac rfl (Ac rfl (Ac rfl (Ac rfl (Ac rfl (Ac rfl (Ac rfl (Ac rfl (Ac rfl (Ac rfl (Ac rfl (Ac rfl (Ac rfl (Ac rfl (Ac lwq134 (Ac lnq134 (Ac lcq134 rfl)))))))))))))))))))))))))) rfl (Ca rfl) rfl fun H s136 => Aq s136 (.here) rfl (Al (B4 s136 ⟨_, rfl, rfl⟩ (Du (.nl (Du (.nl (G6 (.nl (.sc (.sc (.own Cn (.own C7 (.own Cn .nil))))))))))) (Dv ⟨A9, (Dv ⟨A9, (Hb ⟨A9, (E8 ⟨(Bs (K6 ((Cb (first / 16) B 8 (aq127, bq127) [] [] []).1)) (by decide)), ⟨(Bs (Wy ((Cb (first / 16) B 8 (aq127, bq127) [] [] []).2.2)) (by decide)), ⟨(Bs (Z3 ((Cb (first / 16) B 8 (aq127, bq127) [] [] []).2.1)) (by decide)), trivial⟩⟩⟩)⟩)⟩)⟩)) ?_))
 have e : Dk first B = (⟨(first / 16), false, 0, false, vq127, ⟨#[]⟩, ⟨#[]⟩, ⟨#[]⟩, 0, false, 0, false, ⟨#[]⟩, ⟨#[]⟩, 0, false, false, ⟨#[]⟩, false, ⟨#[]⟩, 0, false, ((Cb (first / 16) B 8 (aq127, bq127) [] [] []).1), (Cb (first / 16) B 8 (aq127, bq127) [] [] []).2.2, (Cb (first / 16) B 8 (aq127, bq127) [] [] []).2.1⟩ : PacketV) := by
  simp only [Cs] at h8 h80 h90 h121 h123 h125
  unfold Dk Fc Gj; simp only [h8, h80, h90, h121, h123, h125, q127, if_true, if_false, or_true, or_false, false_or, true_or, za0, za2, zaa, reduceIte]; simp [B3, h8, h80, h90, h121, h123, h125]
 rw [e]
 rfl
end
section
open Go
theorem Ack (n : Nat) (hn : 1048576 < n) (B : ByteArray) (hB : B.size ≤ 1048576) : C0 E0 (n + 6) 59 86 [Ad B] = some (.agg (An (Ax B))) := by
 rw [A7, Al2, f86]
 refine Cm (G := (· = some (.agg (An (Ax B))))) ?_
 try simp only [Fa, E9]
 have s0 : Sep [] [] := Ch
 refine Ie s0 fun i1 H s2 => Bb (cs := [si 1, bF, i0, bF, i0, sE, .nl, sE, i0, bF, i0, bF, sE, .nl, i0, bF, bF, sE, bF, .nl, i0, bF, .nl, .nl, .nl]) rfl (Ie s2 fun i3 H s4 => B8 (cs' := [si 1, bF, i0, bF, i0, sE, .nl, sE, i0, bF, i0, bF, sE, .nl, i0, bF, bF, sE, bF, .nl, i0, bF, .nl, .nl, .nl]) s4 (.here) (Ah rfl) rfl (Ca rfl) rfl fun H s5 => ?_)
 obtain ⟨vq6, yq6, oq6, q6⟩ : ∃ w y o, Bz B 0 = (w, y, o) := ⟨_, _, _, rfl⟩
 have bq6 := Gp q6
 refine D3 s5 rfl (.cons .ro (.cons .sc .nil)) (by have h := K8 n (by omega) B 0 (by omega) (by omega); rw [q6] at h; exact h) rfl (Bd (Bd (Bd Dz))) ?_
 rintro _ _ H ⟨_, rfl, ⟨_, rfl, ⟨_, rfl, ⟨rfl, rfl⟩⟩⟩⟩ s7
 simp only [zal] at s7
 refine Bm (v := ss vq6) rfl (Bm (v := si yq6) rfl (Bm (v := sb oq6) rfl (Cr (Aa (oq6) (fun h8 => ?_) fun h8 => ?_))))
 refine Af (nF h8) (Af (nF h8) (S6 (E1 (nF h8) (Aa ((vq6.toList == (⟨#[77, 81, 84, 84]⟩ : ByteArray).toList)) (fun h9 => ?_) fun h9 => ?_))))
 refine Af (nF h9) (Af (nF h9) (Af (nF h9) (Cu (Af (nF h9) (Pf (by omega) (by omega) (Af (nF h9) (Eb (E1 (nF h9) (Aa ((decide ((((B.size : Nat) : Int) - 2) < yq6))) (fun h10 => ?_) fun h10 => ?_)))))))))
 have dh10 := of_decide_eq_true h10
 refine Ap h10 (Bb (cs := Ek) rfl (B8 (cs' := Ek) s7 Cn (Ah rfl) rfl (Ca rfl) rfl fun H s11 => Aq s11 (.here) rfl (Al (B4 s11 ⟨_, rfl, rfl⟩ (Du (.nl (Du (.nl (G6 (.nl (.sc (.sc (.nl (.nl (.nl .nil))))))))))) (Dv ⟨A9, (Dv ⟨A9, (Hb ⟨A9, (E8 ⟨A9, ⟨A9, ⟨A9, trivial⟩⟩⟩)⟩)⟩)⟩)) ?_)))
 have e : Ax B = (⟨0, false, 0, false, 0, ⟨#[]⟩, ⟨#[]⟩, ⟨#[]⟩, 0, false, 0, false, ⟨#[]⟩, ⟨#[]⟩, 0, false, false, ⟨#[]⟩, false, ⟨#[]⟩, 0, false, [], [], []⟩ : PacketV) := by
  unfold Ax Hr Hg Hf Ea He F2; simp only [h8, h9, h10, q6, if_true, if_false, or_true, or_false, false_or, true_or, zaa, reduceIte, mqtt, D9]; (rfl)
 rw [e]
 rfl
 have dh10 := of_decide_eq_false h10
 refine Au h10 ?_
 have w12 := D0 B yq6
 refine Gn (by omega) (by omega) fun _ => E5 (c := su (A2 B yq6)) rfl (Kr (by omega) (by omega) (gf8 (A3 s7 (.here) rfl rfl fun H s13 => Bw (by omega) (by omega) ?_)))
 have w14 := D0 B (yq6 + 1)
 refine Gn (by omega) (by omega) fun _ => E5 (c := su (A2 B (yq6 + 1))) rfl (Kr (by omega) (by omega) (Gm rfl (Eb (gf9 (A3 s13 (.here) rfl rfl fun H s15 => Gm rfl (Eb (Qp (A3 s15 (.here) rfl rfl fun H s16 => T2 8 rfl (by decide) (Gm rfl (Wh (A3 s16 (.here) rfl rfl fun H s17 => Gm rfl (Eb (AaB (A3 s17 (.here) rfl rfl fun H s18 => Gm rfl (Eb (Ke (A3 s18 (.here) rfl rfl fun H s19 => Gm rfl (Eb (Ow (A3 s19 (.here) rfl rfl fun H s20 => Bw (by omega) (by omega) ?_))))))))))))))))))))
 obtain ⟨wq21, yq21, oq21, q21⟩ : ∃ w y o, Bn B (yq6 + 2) = (w, y, o) := ⟨_, _, _, rfl⟩
 have bq21 := Fy q21
 refine D3 s20 rfl (.cons .ro (.cons .sc .nil)) (by have h := Ql (n + 4) (by omega) B (yq6 + 2) (by omega) (by omega); rw [q21] at h; exact h) rfl (Bd (Bd (Bd Dz))) ?_
 rintro _ _ H ⟨_, rfl, ⟨_, rfl, ⟨_, rfl, ⟨rfl, rfl⟩⟩⟩⟩ s22
 simp only [zal] at s22
 refine Bm (v := si wq21) rfl (Bm (v := si yq21) rfl (Bm (v := sb oq21) rfl (We (A3 s22 (.here) rfl rfl fun H s23 => ?_))))
 obtain ⟨vq24, yq24, oq24, q24⟩ : ∃ w y o, Bz B yq21 = (w, y, o) := ⟨_, _, _, rfl⟩
 have bq24 := Gp q24
 refine D3 s23 rfl (.cons .ro (.cons .sc .nil)) (by have h := K8 n (by omega) B yq21 (by omega) (by omega); rw [q24] at h; exact h) rfl (Bd (Bd (Bd Dz))) ?_
 rintro _ _ H ⟨_, rfl, ⟨_, rfl, ⟨_, rfl, ⟨rfl, rfl⟩⟩⟩⟩ s25
 simp only [zal] at s25
 refine Bm (v := ss vq24) rfl (Bm (v := si yq24) rfl (Bm (v := sb oq24) rfl (gf7 (A3 s25 (.here) rfl rfl fun H s26 => Cr (Aa (oq21) (fun h27 => ?_) fun h27 => ?_)))))
 refine Af (nF h27) (Af (nF h27) (Cr (E1 (nF h27) (Aa (oq24) (fun h28 => ?_) fun h28 => ?_))))
 refine Au (nF h28) (Qp (Ao (c := .sc (.bool (decide (0 < (bits .and .i64 (A2 B (yq6 + 1)) 4))))) s26 (.here) rfl (C8 (Aa ((decide (0 < (bits .and .i64 (A2 B (yq6 + 1)) 4)))) (fun h29 => ?_) fun h29 => ?_))))
 have dh29 := of_decide_eq_true h29
 refine Ap h29 ?_
 obtain ⟨vq30, yq30, oq30, q30⟩ : ∃ w y o, Bz B yq24 = (w, y, o) := ⟨_, _, _, rfl⟩
 have bq30 := Gp q30
 refine D3 s26 rfl (.cons .ro (.cons .sc .nil)) (by have h := K8 n (by omega) B yq24 (by omega) (by omega); rw [q30] at h; exact h) rfl (Bd (Bd (Bd Dz))) ?_
 rintro _ _ H ⟨_, rfl, ⟨_, rfl, ⟨_, rfl, ⟨rfl, rfl⟩⟩⟩⟩ s31
 simp only [zal] at s31
 refine Bm (v := ss vq30) rfl (Bm (v := si yq30) rfl (Bm (v := sb oq30) rfl ?_))
 obtain ⟨vq32, yq32, oq32, q32⟩ : ∃ w y o, Bf B yq30 = (w, y, o) := ⟨_, _, _, rfl⟩
 have bq32 := Fd q32
 refine D3 s31 rfl (.cons .ro (.cons .sc .nil)) (by have h := Qk (n + 3) (by omega) B yq30 (by omega) (by omega); rw [q32] at h; exact h) rfl (Jd (ty := 22) rfl (Cx vq32) (Bd (Bd Dz))) ?_
 rintro _ _ H ⟨x33, _, _, lx33, rfl, rfl, ⟨_, rfl, ⟨_, rfl, ⟨rfl, rfl⟩⟩⟩⟩ s34
 simp only [zal, zau] at s34
 refine Bm (v := x33) rfl (Bm (v := si yq32) rfl (Bm (v := sb oq32) rfl (Cr (Aa (oq30) (fun h35 => ?_) fun h35 => ?_))))
 refine Af (nF h35) (Af (nF h35) (Cr (E1 (nF h35) (Aa (oq32) (fun h36 => ?_) fun h36 => ?_))))
 refine Au (nF h36) (Wf (A3 s34 Cn rfl rfl fun H s37 => Wg (A3 s37 (.here) lx33 rfl fun H s38 => Ow (Ao (c := .sc (.bool (decide (0 < (bits .and .i64 (A2 B (yq6 + 1)) 128))))) s38 (.here) rfl (C8 (Aa ((decide (0 < (bits .and .i64 (A2 B (yq6 + 1)) 128)))) (fun h39 => ?_) fun h39 => ?_))))))
 have dh39 := of_decide_eq_true h39
 refine Ap h39 ?_
 obtain ⟨vq40, yq40, oq40, q40⟩ : ∃ w y o, Bz B yq32 = (w, y, o) := ⟨_, _, _, rfl⟩
 have bq40 := Gp q40
 refine D3 s38 rfl (.cons .ro (.cons .sc .nil)) (by have h := K8 n (by omega) B yq32 (by omega) (by omega); rw [q40] at h; exact h) rfl (Bd (Bd (Bd Dz))) ?_
 rintro _ _ H ⟨_, rfl, ⟨_, rfl, ⟨_, rfl, ⟨rfl, rfl⟩⟩⟩⟩ s41
 simp only [zal] at s41
 refine Bm (v := ss vq40) rfl (Bm (v := si yq40) rfl (Bm (v := sb oq40) rfl (Cr (Aa (oq40) (fun h42 => ?_) fun h42 => ?_))))
 refine Au (nF h42) (Pg (A3 s41 (.here) rfl rfl fun H s43 => Ke (Ao (c := .sc (.bool (decide (0 < (bits .and .i64 (A2 B (yq6 + 1)) 64))))) s43 (.here) rfl (C8 (Aa ((decide (0 < (bits .and .i64 (A2 B (yq6 + 1)) 64)))) (fun h44 => ?_) fun h44 => ?_)))))
 have dh44 := of_decide_eq_true h44
 refine Ap h44 ?_
 obtain ⟨vq45, yq45, oq45, q45⟩ : ∃ w y o, Bf B yq40 = (w, y, o) := ⟨_, _, _, rfl⟩
 have bq45 := Fd q45
 refine D3 s43 rfl (.cons .ro (.cons .sc .nil)) (by have h := Qk (n + 3) (by omega) B yq40 (by omega) (by omega); rw [q45] at h; exact h) rfl (Jd (ty := 22) rfl (Cx vq45) (Bd (Bd Dz))) ?_
 rintro _ _ H ⟨x46, _, _, lx46, rfl, rfl, ⟨_, rfl, ⟨_, rfl, ⟨rfl, rfl⟩⟩⟩⟩ s47
 simp only [zal, zau] at s47
 refine Bm (v := x46) rfl (Bm (v := si yq45) rfl (Bm (v := sb oq45) rfl (Cr (Aa (oq45) (fun h48 => ?_) fun h48 => ?_))))
 refine Au (nF h48) (Ms (A3 s47 Cn lx46 rfl fun H s49 => Aq s49 (.here) rfl (B8 (cs' := [si 1, bF, i0, bF, i0, sE, .nl, ss vq24, si (A2 B yq6), .sc (.bool (decide (0 < (bits .and .i64 (A2 B (yq6 + 1)) 2)))), si wq21, .sc (.bool (decide (0 < (bits .and .i64 (A2 B (yq6 + 1)) 4)))), ss vq30, x33, si (bits .and .i64 ((A2 B (yq6 + 1)) / 8) 3), .sc (.bool (decide (0 < (bits .and .i64 (A2 B (yq6 + 1)) 32)))), .sc (.bool (decide (0 < (bits .and .i64 (A2 B (yq6 + 1)) 128)))), ss vq40, .sc (.bool (decide (0 < (bits .and .i64 (A2 B (yq6 + 1)) 64)))), x46, i0, bF, .nl, .nl, .nl]) s49 L9 (Ah (Ac rfl (Ac rfl (Ac rfl (Ac rfl (Ac rfl (Ac rfl (Ac rfl (Ac rfl (Ac rfl (Ac rfl (Ac rfl (Ac rfl (Ac rfl (Ac lx33 (Ac rfl (Ac rfl (Ac rfl (Ac rfl (Ac rfl (Ac lx46 rfl))))))))))))))))))))) rfl (Ca rfl) rfl fun H s50 => Aq s50 (.here) rfl (Al (B4 s50 ⟨_, rfl, rfl⟩ (Du (.nl (Du (.own L9 (G6 (.own C7 (.sc (.sc (.nl (.nl (.nl .nil))))))))))) (Dv ⟨A9, (Dv ⟨(Bs (Cx vq32) (by decide)), (Hb ⟨(Bs (Cx vq45) (by decide)), (E8 ⟨A9, ⟨A9, ⟨A9, trivial⟩⟩⟩)⟩)⟩)⟩)) ?_))))
 have e : Ax B = (⟨1, false, 0, false, 0, ⟨#[]⟩, ⟨#[]⟩, vq24, (A2 B yq6), (decide (0 < (bits .and .i64 (A2 B (yq6 + 1)) 2))), wq21, (decide (0 < (bits .and .i64 (A2 B (yq6 + 1)) 4))), vq30, vq32, (bits .and .i64 ((A2 B (yq6 + 1)) / 8) 3), (decide (0 < (bits .and .i64 (A2 B (yq6 + 1)) 32))), (decide (0 < (bits .and .i64 (A2 B (yq6 + 1)) 128))), vq40, (decide (0 < (bits .and .i64 (A2 B (yq6 + 1)) 64))), vq45, 0, false, [], [], []⟩ : PacketV) := by
  unfold Ax Hr Hg Hf Ea He F2; simp only [h8, h9, h10, h27, h28, h29, h35, h36, h39, h42, h44, h48, q6, q21, q24, q30, q32, q40, q45, if_true, if_false, or_true, or_false, false_or, true_or, zaa, reduceIte, mqtt, D9]; (rfl)
 rw [e]
 rfl
 refine Ap (nT h48) (Bb (cs := Ek) rfl (B8 (cs' := Ek) s47 L9 (Ah rfl) rfl (Ca rfl) rfl fun H s51 => Aq s51 (.here) rfl (Al (B4 s51 ⟨_, rfl, rfl⟩ (Du (.nl (Du (.nl (G6 (.nl (.sc (.sc (.nl (.nl (.nl .nil))))))))))) (Dv ⟨A9, (Dv ⟨A9, (Hb ⟨A9, (E8 ⟨A9, ⟨A9, ⟨A9, trivial⟩⟩⟩)⟩)⟩)⟩)) ?_)))
 have e : Ax B = (⟨0, false, 0, false, 0, ⟨#[]⟩, ⟨#[]⟩, ⟨#[]⟩, 0, false, 0, false, ⟨#[]⟩, ⟨#[]⟩, 0, false, false, ⟨#[]⟩, false, ⟨#[]⟩, 0, false, [], [], []⟩ : PacketV) := by
  unfold Ax Hr Hg Hf Ea He F2; simp only [h8, h9, h10, h27, h28, h29, h35, h36, h39, h42, h44, h48, q6, q21, q24, q30, q32, q40, q45, if_true, if_false, or_true, or_false, false_or, true_or, zaa, reduceIte, mqtt, D9]; (rfl)
 rw [e]
 rfl
 have dh44 := of_decide_eq_false h44
 refine Au h44 (Aq s43 (.here) rfl (B8 (cs' := [si 1, bF, i0, bF, i0, sE, .nl, ss vq24, si (A2 B yq6), .sc (.bool (decide (0 < (bits .and .i64 (A2 B (yq6 + 1)) 2)))), si wq21, .sc (.bool (decide (0 < (bits .and .i64 (A2 B (yq6 + 1)) 4)))), ss vq30, x33, si (bits .and .i64 ((A2 B (yq6 + 1)) / 8) 3), .sc (.bool (decide (0 < (bits .and .i64 (A2 B (yq6 + 1)) 32)))), .sc (.bool (decide (0 < (bits .and .i64 (A2 B (yq6 + 1)) 128)))), ss vq40, .sc (.bool (decide (0 < (bits .and .i64 (A2 B (yq6 + 1)) 64)))), .nl, i0, bF, .nl, .nl, .nl]) s43 C7 (Ah (Ac rfl (Ac rfl (Ac rfl (Ac rfl (Ac rfl (Ac rfl (Ac rfl (Ac rfl (Ac rfl (Ac rfl (Ac rfl (Ac rfl (Ac rfl (Ac lx33 rfl))))))))))))))) rfl (Ca rfl) rfl fun H s52 => Aq s52 (.here) rfl (Al (B4 s52 ⟨_, rfl, rfl⟩ (Du (.nl (Du (.own C7 (G6 (.nl (.sc (.sc (.nl (.nl (.nl .nil))))))))))) (Dv ⟨A9, (Dv ⟨(Bs (Cx vq32) (by decide)), (Hb ⟨A9, (E8 ⟨A9, ⟨A9, ⟨A9, trivial⟩⟩⟩)⟩)⟩)⟩)) ?_)))
 have e : Ax B = (⟨1, false, 0, false, 0, ⟨#[]⟩, ⟨#[]⟩, vq24, (A2 B yq6), (decide (0 < (bits .and .i64 (A2 B (yq6 + 1)) 2))), wq21, (decide (0 < (bits .and .i64 (A2 B (yq6 + 1)) 4))), vq30, vq32, (bits .and .i64 ((A2 B (yq6 + 1)) / 8) 3), (decide (0 < (bits .and .i64 (A2 B (yq6 + 1)) 32))), (decide (0 < (bits .and .i64 (A2 B (yq6 + 1)) 128))), vq40, (decide (0 < (bits .and .i64 (A2 B (yq6 + 1)) 64))), ⟨#[]⟩, 0, false, [], [], []⟩ : PacketV) := by
  unfold Ax Hr Hg Hf Ea He F2; simp only [h8, h9, h10, h27, h28, h29, h35, h36, h39, h42, h44, q6, q21, q24, q30, q32, q40, if_true, if_false, or_true, or_false, false_or, true_or, zaa, reduceIte, mqtt, D9]; (rfl)
 rw [e]
 rfl
 refine Ap (nT h42) (Bb (cs := Ek) rfl (B8 (cs' := Ek) s41 C7 (Ah rfl) rfl (Ca rfl) rfl fun H s53 => Aq s53 (.here) rfl (Al (B4 s53 ⟨_, rfl, rfl⟩ (Du (.nl (Du (.nl (G6 (.nl (.sc (.sc (.nl (.nl (.nl .nil))))))))))) (Dv ⟨A9, (Dv ⟨A9, (Hb ⟨A9, (E8 ⟨A9, ⟨A9, ⟨A9, trivial⟩⟩⟩)⟩)⟩)⟩)) ?_)))
 have e : Ax B = (⟨0, false, 0, false, 0, ⟨#[]⟩, ⟨#[]⟩, ⟨#[]⟩, 0, false, 0, false, ⟨#[]⟩, ⟨#[]⟩, 0, false, false, ⟨#[]⟩, false, ⟨#[]⟩, 0, false, [], [], []⟩ : PacketV) := by
  unfold Ax Hr Hg Hf Ea He F2; simp only [h8, h9, h10, h27, h28, h29, h35, h36, h39, h42, q6, q21, q24, q30, q32, q40, if_true, if_false, or_true, or_false, false_or, true_or, zaa, reduceIte, mqtt, D9]; (rfl)
 rw [e]
 rfl
 have dh39 := of_decide_eq_false h39
 refine Au h39 (Ke (Ao (c := .sc (.bool (decide (0 < (bits .and .i64 (A2 B (yq6 + 1)) 64))))) s38 (.here) rfl (C8 (Aa ((decide (0 < (bits .and .i64 (A2 B (yq6 + 1)) 64)))) (fun h54 => ?_) fun h54 => ?_))))
 have dh54 := of_decide_eq_true h54
 refine Ap h54 ?_
 obtain ⟨vq55, yq55, oq55, q55⟩ : ∃ w y o, Bf B yq32 = (w, y, o) := ⟨_, _, _, rfl⟩
 have bq55 := Fd q55
 refine D3 s38 rfl (.cons .ro (.cons .sc .nil)) (by have h := Qk (n + 3) (by omega) B yq32 (by omega) (by omega); rw [q55] at h; exact h) rfl (Jd (ty := 22) rfl (Cx vq55) (Bd (Bd Dz))) ?_
 rintro _ _ H ⟨x56, _, _, lx56, rfl, rfl, ⟨_, rfl, ⟨_, rfl, ⟨rfl, rfl⟩⟩⟩⟩ s57
 simp only [zal, zau] at s57
 refine Bm (v := x56) rfl (Bm (v := si yq55) rfl (Bm (v := sb oq55) rfl (Cr (Aa (oq55) (fun h58 => ?_) fun h58 => ?_))))
 refine Au (nF h58) (Ms (A3 s57 Cn lx56 rfl fun H s59 => Aq s59 (.here) rfl (B8 (cs' := [si 1, bF, i0, bF, i0, sE, .nl, ss vq24, si (A2 B yq6), .sc (.bool (decide (0 < (bits .and .i64 (A2 B (yq6 + 1)) 2)))), si wq21, .sc (.bool (decide (0 < (bits .and .i64 (A2 B (yq6 + 1)) 4)))), ss vq30, x33, si (bits .and .i64 ((A2 B (yq6 + 1)) / 8) 3), .sc (.bool (decide (0 < (bits .and .i64 (A2 B (yq6 + 1)) 32)))), .sc (.bool (decide (0 < (bits .and .i64 (A2 B (yq6 + 1)) 128)))), sE, .sc (.bool (decide (0 < (bits .and .i64 (A2 B (yq6 + 1)) 64)))), x56, i0, bF, .nl, .nl, .nl]) s59 L9 (Ah (Ac rfl (Ac rfl (Ac rfl (Ac rfl (Ac rfl (Ac rfl (Ac rfl (Ac rfl (Ac rfl (Ac rfl (Ac rfl (Ac rfl (Ac rfl (Ac lx33 (Ac rfl (Ac rfl (Ac rfl (Ac rfl (Ac rfl (Ac lx56 rfl))))))))))))))))))))) rfl (Ca rfl) rfl fun H s60 => Aq s60 (.here) rfl (Al (B4 s60 ⟨_, rfl, rfl⟩ (Du (.nl (Du (.own L9 (G6 (.own C7 (.sc (.sc (.nl (.nl (.nl .nil))))))))))) (Dv ⟨A9, (Dv ⟨(Bs (Cx vq32) (by decide)), (Hb ⟨(Bs (Cx vq55) (by decide)), (E8 ⟨A9, ⟨A9, ⟨A9, trivial⟩⟩⟩)⟩)⟩)⟩)) ?_))))
 have e : Ax B = (⟨1, false, 0, false, 0, ⟨#[]⟩, ⟨#[]⟩, vq24, (A2 B yq6), (decide (0 < (bits .and .i64 (A2 B (yq6 + 1)) 2))), wq21, (decide (0 < (bits .and .i64 (A2 B (yq6 + 1)) 4))), vq30, vq32, (bits .and .i64 ((A2 B (yq6 + 1)) / 8) 3), (decide (0 < (bits .and .i64 (A2 B (yq6 + 1)) 32))), (decide (0 < (bits .and .i64 (A2 B (yq6 + 1)) 128))), ⟨#[]⟩, (decide (0 < (bits .and .i64 (A2 B (yq6 + 1)) 64))), vq55, 0, false, [], [], []⟩ : PacketV) := by
  unfold Ax Hr Hg Hf Ea He F2; simp only [h8, h9, h10, h27, h28, h29, h35, h36, h39, h54, h58, q6, q21, q24, q30, q32, q55, if_true, if_false, or_true, or_false, false_or, true_or, zaa, reduceIte, mqtt, D9]; (rfl)
 rw [e]
 rfl
 refine Ap (nT h58) (Bb (cs := Ek) rfl (B8 (cs' := Ek) s57 L9 (Ah rfl) rfl (Ca rfl) rfl fun H s61 => Aq s61 (.here) rfl (Al (B4 s61 ⟨_, rfl, rfl⟩ (Du (.nl (Du (.nl (G6 (.nl (.sc (.sc (.nl (.nl (.nl .nil))))))))))) (Dv ⟨A9, (Dv ⟨A9, (Hb ⟨A9, (E8 ⟨A9, ⟨A9, ⟨A9, trivial⟩⟩⟩)⟩)⟩)⟩)) ?_)))
 have e : Ax B = (⟨0, false, 0, false, 0, ⟨#[]⟩, ⟨#[]⟩, ⟨#[]⟩, 0, false, 0, false, ⟨#[]⟩, ⟨#[]⟩, 0, false, false, ⟨#[]⟩, false, ⟨#[]⟩, 0, false, [], [], []⟩ : PacketV) := by
  unfold Ax Hr Hg Hf Ea He F2; simp only [h8, h9, h10, h27, h28, h29, h35, h36, h39, h54, h58, q6, q21, q24, q30, q32, q55, if_true, if_false, or_true, or_false, false_or, true_or, zaa, reduceIte, mqtt, D9]; (rfl)
 rw [e]
 rfl
 have dh54 := of_decide_eq_false h54
 refine Au h54 (Aq s38 (.here) rfl (B8 (cs' := [si 1, bF, i0, bF, i0, sE, .nl, ss vq24, si (A2 B yq6), .sc (.bool (decide (0 < (bits .and .i64 (A2 B (yq6 + 1)) 2)))), si wq21, .sc (.bool (decide (0 < (bits .and .i64 (A2 B (yq6 + 1)) 4)))), ss vq30, x33, si (bits .and .i64 ((A2 B (yq6 + 1)) / 8) 3), .sc (.bool (decide (0 < (bits .and .i64 (A2 B (yq6 + 1)) 32)))), .sc (.bool (decide (0 < (bits .and .i64 (A2 B (yq6 + 1)) 128)))), sE, .sc (.bool (decide (0 < (bits .and .i64 (A2 B (yq6 + 1)) 64)))), .nl, i0, bF, .nl, .nl, .nl]) s38 C7 (Ah (Ac rfl (Ac rfl (Ac rfl (Ac rfl (Ac rfl (Ac rfl (Ac rfl (Ac rfl (Ac rfl (Ac rfl (Ac rfl (Ac rfl (Ac rfl (Ac lx33 rfl))))))))))))))) rfl (Ca rfl) rfl fun H s62 => Aq s62 (.here) rfl (Al (B4 s62 ⟨_, rfl, rfl⟩ (Du (.nl (Du (.own C7 (G6 (.nl (.sc (.sc (.nl (.nl (.nl .nil))))))))))) (Dv ⟨A9, (Dv ⟨(Bs (Cx vq32) (by decide)), (Hb ⟨A9, (E8 ⟨A9, ⟨A9, ⟨A9, trivial⟩⟩⟩)⟩)⟩)⟩)) ?_)))
 have e : Ax B = (⟨1, false, 0, false, 0, ⟨#[]⟩, ⟨#[]⟩, vq24, (A2 B yq6), (decide (0 < (bits .and .i64 (A2 B (yq6 + 1)) 2))), wq21, (decide (0 < (bits .and .i64 (A2 B (yq6 + 1)) 4))), vq30, vq32, (bits .and .i64 ((A2 B (yq6 + 1)) / 8) 3), (decide (0 < (bits .and .i64 (A2 B (yq6 + 1)) 32))), (decide (0 < (bits .and .i64 (A2 B (yq6 + 1)) 128))), ⟨#[]⟩, (decide (0 < (bits .and .i64 (A2 B (yq6 + 1)) 64))), ⟨#[]⟩, 0, false, [], [], []⟩ : PacketV) := by
  unfold Ax Hr Hg Hf Ea He F2; simp only [h8, h9, h10, h27, h28, h29, h35, h36, h39, h54, q6, q21, q24, q30, q32, if_true, if_false, or_true, or_false, false_or, true_or, zaa, reduceIte, mqtt, D9]; (rfl)
 rw [e]
 rfl
 refine Ap (nT h36) (Bb (cs := Ek) rfl (B8 (cs' := Ek) s34 C7 (Ah rfl) rfl (Ca rfl) rfl fun H s63 => Aq s63 (.here) rfl (Al (B4 s63 ⟨_, rfl, rfl⟩ (Du (.nl (Du (.nl (G6 (.nl (.sc (.sc (.nl (.nl (.nl .nil))))))))))) (Dv ⟨A9, (Dv ⟨A9, (Hb ⟨A9, (E8 ⟨A9, ⟨A9, ⟨A9, trivial⟩⟩⟩)⟩)⟩)⟩)) ?_)))
 have e : Ax B = (⟨0, false, 0, false, 0, ⟨#[]⟩, ⟨#[]⟩, ⟨#[]⟩, 0, false, 0, false, ⟨#[]⟩, ⟨#[]⟩, 0, false, false, ⟨#[]⟩, false, ⟨#[]⟩, 0, false, [], [], []⟩ : PacketV) := by
  unfold Ax Hr Hg Hf Ea He F2; simp only [h8, h9, h10, h27, h28, h29, h35, h36, q6, q21, q24, q30, q32, if_true, if_false, or_true, or_false, false_or, true_or, zaa, reduceIte, mqtt, D9]; (rfl)
 rw [e]
 rfl
 refine Ae (nT h35) (Ae (nT h35) (E2 (nT h35) (Ap rfl (Bb (cs := Ek) rfl (B8 (cs' := Ek) s34 C7 (Ah rfl) rfl (Ca rfl) rfl fun H s64 => Aq s64 (.here) rfl (Al (B4 s64 ⟨_, rfl, rfl⟩ (Du (.nl (Du (.nl (G6 (.nl (.sc (.sc (.nl (.nl (.nl .nil))))))))))) (Dv ⟨A9, (Dv ⟨A9, (Hb ⟨A9, (E8 ⟨A9, ⟨A9, ⟨A9, trivial⟩⟩⟩)⟩)⟩)⟩)) ?_))))))
 have e : Ax B = (⟨0, false, 0, false, 0, ⟨#[]⟩, ⟨#[]⟩, ⟨#[]⟩, 0, false, 0, false, ⟨#[]⟩, ⟨#[]⟩, 0, false, false, ⟨#[]⟩, false, ⟨#[]⟩, 0, false, [], [], []⟩ : PacketV) := by
  unfold Ax Hr Hg Hf Ea He F2; simp only [h8, h9, h10, h27, h28, h29, h35, q6, q21, q24, q30, q32, if_true, if_false, or_true, or_false, false_or, true_or, zaa, reduceIte, mqtt, D9]; (rfl)
 rw [e]
 rfl
 have dh29 := of_decide_eq_false h29
 refine Au h29 (Ow (Ao (c := .sc (.bool (decide (0 < (bits .and .i64 (A2 B (yq6 + 1)) 128))))) s26 (.here) rfl (C8 (Aa ((decide (0 < (bits .and .i64 (A2 B (yq6 + 1)) 128)))) (fun h65 => ?_) fun h65 => ?_))))
 have dh65 := of_decide_eq_true h65
 refine Ap h65 ?_
 obtain ⟨vq66, yq66, oq66, q66⟩ : ∃ w y o, Bz B yq24 = (w, y, o) := ⟨_, _, _, rfl⟩
 have bq66 := Gp q66
 refine D3 s26 rfl (.cons .ro (.cons .sc .nil)) (by have h := K8 n (by omega) B yq24 (by omega) (by omega); rw [q66] at h; exact h) rfl (Bd (Bd (Bd Dz))) ?_
 rintro _ _ H ⟨_, rfl, ⟨_, rfl, ⟨_, rfl, ⟨rfl, rfl⟩⟩⟩⟩ s67
 simp only [zal] at s67
 refine Bm (v := ss vq66) rfl (Bm (v := si yq66) rfl (Bm (v := sb oq66) rfl (Cr (Aa (oq66) (fun h68 => ?_) fun h68 => ?_))))
 refine Au (nF h68) (Pg (A3 s67 (.here) rfl rfl fun H s69 => Ke (Ao (c := .sc (.bool (decide (0 < (bits .and .i64 (A2 B (yq6 + 1)) 64))))) s69 (.here) rfl (C8 (Aa ((decide (0 < (bits .and .i64 (A2 B (yq6 + 1)) 64)))) (fun h70 => ?_) fun h70 => ?_)))))
 have dh70 := of_decide_eq_true h70
 refine Ap h70 ?_
 obtain ⟨vq71, yq71, oq71, q71⟩ : ∃ w y o, Bf B yq66 = (w, y, o) := ⟨_, _, _, rfl⟩
 have bq71 := Fd q71
 refine D3 s69 rfl (.cons .ro (.cons .sc .nil)) (by have h := Qk (n + 3) (by omega) B yq66 (by omega) (by omega); rw [q71] at h; exact h) rfl (Jd (ty := 22) rfl (Cx vq71) (Bd (Bd Dz))) ?_
 rintro _ _ H ⟨x72, _, _, lx72, rfl, rfl, ⟨_, rfl, ⟨_, rfl, ⟨rfl, rfl⟩⟩⟩⟩ s73
 simp only [zal, zau] at s73
 refine Bm (v := x72) rfl (Bm (v := si yq71) rfl (Bm (v := sb oq71) rfl (Cr (Aa (oq71) (fun h74 => ?_) fun h74 => ?_))))
 refine Au (nF h74) (Ms (A3 s73 Cn lx72 rfl fun H s75 => Aq s75 (.here) rfl (B8 (cs' := [si 1, bF, i0, bF, i0, sE, .nl, ss vq24, si (A2 B yq6), .sc (.bool (decide (0 < (bits .and .i64 (A2 B (yq6 + 1)) 2)))), si wq21, .sc (.bool (decide (0 < (bits .and .i64 (A2 B (yq6 + 1)) 4)))), sE, .nl, si (bits .and .i64 ((A2 B (yq6 + 1)) / 8) 3), .sc (.bool (decide (0 < (bits .and .i64 (A2 B (yq6 + 1)) 32)))), .sc (.bool (decide (0 < (bits .and .i64 (A2 B (yq6 + 1)) 128)))), ss vq66, .sc (.bool (decide (0 < (bits .and .i64 (A2 B (yq6 + 1)) 64)))), x72, i0, bF, .nl, .nl, .nl]) s75 C7 (Ah (Ac rfl (Ac rfl (Ac rfl (Ac rfl (Ac rfl (Ac rfl (Ac rfl (Ac rfl (Ac rfl (Ac rfl (Ac rfl (Ac rfl (Ac rfl (Ac rfl (Ac rfl (Ac rfl (Ac rfl (Ac rfl (Ac rfl (Ac lx72 rfl))))))))))))))))))))) rfl (Ca rfl) rfl fun H s76 => Aq s76 (.here) rfl (Al (B4 s76 ⟨_, rfl, rfl⟩ (Du (.nl (Du (.nl (G6 (.own C7 (.sc (.sc (.nl (.nl (.nl .nil))))))))))) (Dv ⟨A9, (Dv ⟨A9, (Hb ⟨(Bs (Cx vq71) (by decide)), (E8 ⟨A9, ⟨A9, ⟨A9, trivial⟩⟩⟩)⟩)⟩)⟩)) ?_))))
 have e : Ax B = (⟨1, false, 0, false, 0, ⟨#[]⟩, ⟨#[]⟩, vq24, (A2 B yq6), (decide (0 < (bits .and .i64 (A2 B (yq6 + 1)) 2))), wq21, (decide (0 < (bits .and .i64 (A2 B (yq6 + 1)) 4))), ⟨#[]⟩, ⟨#[]⟩, (bits .and .i64 ((A2 B (yq6 + 1)) / 8) 3), (decide (0 < (bits .and .i64 (A2 B (yq6 + 1)) 32))), (decide (0 < (bits .and .i64 (A2 B (yq6 + 1)) 128))), vq66, (decide (0 < (bits .and .i64 (A2 B (yq6 + 1)) 64))), vq71, 0, false, [], [], []⟩ : PacketV) := by
  unfold Ax Hr Hg Hf Ea He F2; simp only [h8, h9, h10, h27, h28, h29, h65, h68, h70, h74, q6, q21, q24, q66, q71, if_true, if_false, or_true, or_false, false_or, true_or, zaa, reduceIte, mqtt, D9]; (rfl)
 rw [e]
 rfl
 refine Ap (nT h74) (Bb (cs := Ek) rfl (B8 (cs' := Ek) s73 C7 (Ah rfl) rfl (Ca rfl) rfl fun H s77 => Aq s77 (.here) rfl (Al (B4 s77 ⟨_, rfl, rfl⟩ (Du (.nl (Du (.nl (G6 (.nl (.sc (.sc (.nl (.nl (.nl .nil))))))))))) (Dv ⟨A9, (Dv ⟨A9, (Hb ⟨A9, (E8 ⟨A9, ⟨A9, ⟨A9, trivial⟩⟩⟩)⟩)⟩)⟩)) ?_)))
 have e : Ax B = (⟨0, false, 0, false, 0, ⟨#[]⟩, ⟨#[]⟩, ⟨#[]⟩, 0, false, 0, false, ⟨#[]⟩, ⟨#[]⟩, 0, false, false, ⟨#[]⟩, false, ⟨#[]⟩, 0, false, [], [], []⟩ : PacketV) := by
  unfold Ax Hr Hg Hf Ea He F2; simp only [h8, h9, h10, h27, h28, h29, h65, h68, h70, h74, q6, q21, q24, q66, q71, if_true, if_false, or_true, or_false, false_or, true_or, zaa, reduceIte, mqtt, D9]; (rfl)
 rw [e]
 rfl
 have dh70 := of_decide_eq_false h70
 refine Au h70 (Aq s69 (.here) rfl (B8 (cs' := [si 1, bF, i0, bF, i0, sE, .nl, ss vq24, si (A2 B yq6), .sc (.bool (decide (0 < (bits .and .i64 (A2 B (yq6 + 1)) 2)))), si wq21, .sc (.bool (decide (0 < (bits .and .i64 (A2 B (yq6 + 1)) 4)))), sE, .nl, si (bits .and .i64 ((A2 B (yq6 + 1)) / 8) 3), .sc (.bool (decide (0 < (bits .and .i64 (A2 B (yq6 + 1)) 32)))), .sc (.bool (decide (0 < (bits .and .i64 (A2 B (yq6 + 1)) 128)))), ss vq66, .sc (.bool (decide (0 < (bits .and .i64 (A2 B (yq6 + 1)) 64)))), .nl, i0, bF, .nl, .nl, .nl]) s69 Cn (Ah rfl) rfl (Ca rfl) rfl fun H s78 => Aq s78 (.here) rfl (Al (B4 s78 ⟨_, rfl, rfl⟩ (Du (.nl (Du (.nl (G6 (.nl (.sc (.sc (.nl (.nl (.nl .nil))))))))))) (Dv ⟨A9, (Dv ⟨A9, (Hb ⟨A9, (E8 ⟨A9, ⟨A9, ⟨A9, trivial⟩⟩⟩)⟩)⟩)⟩)) ?_)))
 have e : Ax B = (⟨1, false, 0, false, 0, ⟨#[]⟩, ⟨#[]⟩, vq24, (A2 B yq6), (decide (0 < (bits .and .i64 (A2 B (yq6 + 1)) 2))), wq21, (decide (0 < (bits .and .i64 (A2 B (yq6 + 1)) 4))), ⟨#[]⟩, ⟨#[]⟩, (bits .and .i64 ((A2 B (yq6 + 1)) / 8) 3), (decide (0 < (bits .and .i64 (A2 B (yq6 + 1)) 32))), (decide (0 < (bits .and .i64 (A2 B (yq6 + 1)) 128))), vq66, (decide (0 < (bits .and .i64 (A2 B (yq6 + 1)) 64))), ⟨#[]⟩, 0, false, [], [], []⟩ : PacketV) := by
  unfold Ax Hr Hg Hf Ea He F2; simp only [h8, h9, h10, h27, h28, h29, h65, h68, h70, q6, q21, q24, q66, if_true, if_false, or_true, or_false, false_or, true_or, zaa, reduceIte, mqtt, D9]; (rfl)
 rw [e]
 rfl
 refine Ap (nT h68) (Bb (cs := Ek) rfl (B8 (cs' := Ek) s67 Cn (Ah rfl) rfl (Ca rfl) rfl fun H s79 => Aq s79 (.here) rfl (Al (B4 s79 ⟨_, rfl, rfl⟩ (Du (.nl (Du (.nl (G6 (.nl (.sc (.sc (.nl (.nl (.nl .nil))))))))))) (Dv ⟨A9, (Dv ⟨A9, (Hb ⟨A9, (E8 ⟨A9, ⟨A9, ⟨A9, trivial⟩⟩⟩)⟩)⟩)⟩)) ?_)))
 have e : Ax B = (⟨0, false, 0, false, 0, ⟨#[]⟩, ⟨#[]⟩, ⟨#[]⟩, 0, false, 0, false, ⟨#[]⟩, ⟨#[]⟩, 0, false, false, ⟨#[]⟩, false, ⟨#[]⟩, 0, false, [], [], []⟩ : PacketV) := by
  unfold Ax Hr Hg Hf Ea He F2; simp only [h8, h9, h10, h27, h28, h29, h65, h68, q6, q21, q24, q66, if_true, if_false, or_true, or_false, false_or, true_or, zaa, reduceIte, mqtt, D9]; (rfl)
 rw [e]
 rfl
 have dh65 := of_decide_eq_false h65
 refine Au h65 (Ke (Ao (c := .sc (.bool (decide (0 < (bits .and .i64 (A2 B (yq6 + 1)) 64))))) s26 (.here) rfl (C8 (Aa ((decide (0 < (bits .and .i64 (A2 B (yq6 + 1)) 64)))) (fun h80 => ?_) fun h80 => ?_))))
 have dh80 := of_decide_eq_true h80
 refine Ap h80 ?_
 obtain ⟨vq81, yq81, oq81, q81⟩ : ∃ w y o, Bf B yq24 = (w, y, o) := ⟨_, _, _, rfl⟩
 have bq81 := Fd q81
 refine D3 s26 rfl (.cons .ro (.cons .sc .nil)) (by have h := Qk (n + 3) (by omega) B yq24 (by omega) (by omega); rw [q81] at h; exact h) rfl (Jd (ty := 22) rfl (Cx vq81) (Bd (Bd Dz))) ?_
 rintro _ _ H ⟨x82, _, _, lx82, rfl, rfl, ⟨_, rfl, ⟨_, rfl, ⟨rfl, rfl⟩⟩⟩⟩ s83
 simp only [zal, zau] at s83
 refine Bm (v := x82) rfl (Bm (v := si yq81) rfl (Bm (v := sb oq81) rfl (Cr (Aa (oq81) (fun h84 => ?_) fun h84 => ?_))))
 refine Au (nF h84) (Ms (A3 s83 Cn lx82 rfl fun H s85 => Aq s85 (.here) rfl (B8 (cs' := [si 1, bF, i0, bF, i0, sE, .nl, ss vq24, si (A2 B yq6), .sc (.bool (decide (0 < (bits .and .i64 (A2 B (yq6 + 1)) 2)))), si wq21, .sc (.bool (decide (0 < (bits .and .i64 (A2 B (yq6 + 1)) 4)))), sE, .nl, si (bits .and .i64 ((A2 B (yq6 + 1)) / 8) 3), .sc (.bool (decide (0 < (bits .and .i64 (A2 B (yq6 + 1)) 32)))), .sc (.bool (decide (0 < (bits .and .i64 (A2 B (yq6 + 1)) 128)))), sE, .sc (.bool (decide (0 < (bits .and .i64 (A2 B (yq6 + 1)) 64)))), x82, i0, bF, .nl, .nl, .nl]) s85 C7 (Ah (Ac rfl (Ac rfl (Ac rfl (Ac rfl (Ac rfl (Ac rfl (Ac rfl (Ac rfl (Ac rfl (Ac rfl (Ac rfl (Ac rfl (Ac rfl (Ac rfl (Ac rfl (Ac rfl (Ac rfl (Ac rfl (Ac rfl (Ac lx82 rfl))))))))))))))))))))) rfl (Ca rfl) rfl fun H s86 => Aq s86 (.here) rfl (Al (B4 s86 ⟨_, rfl, rfl⟩ (Du (.nl (Du (.nl (G6 (.own C7 (.sc (.sc (.nl (.nl (.nl .nil))))))))))) (Dv ⟨A9, (Dv ⟨A9, (Hb ⟨(Bs (Cx vq81) (by decide)), (E8 ⟨A9, ⟨A9, ⟨A9, trivial⟩⟩⟩)⟩)⟩)⟩)) ?_))))
 have e : Ax B = (⟨1, false, 0, false, 0, ⟨#[]⟩, ⟨#[]⟩, vq24, (A2 B yq6), (decide (0 < (bits .and .i64 (A2 B (yq6 + 1)) 2))), wq21, (decide (0 < (bits .and .i64 (A2 B (yq6 + 1)) 4))), ⟨#[]⟩, ⟨#[]⟩, (bits .and .i64 ((A2 B (yq6 + 1)) / 8) 3), (decide (0 < (bits .and .i64 (A2 B (yq6 + 1)) 32))), (decide (0 < (bits .and .i64 (A2 B (yq6 + 1)) 128))), ⟨#[]⟩, (decide (0 < (bits .and .i64 (A2 B (yq6 + 1)) 64))), vq81, 0, false, [], [], []⟩ : PacketV) := by
  unfold Ax Hr Hg Hf Ea He F2; simp only [h8, h9, h10, h27, h28, h29, h65, h80, h84, q6, q21, q24, q81, if_true, if_false, or_true, or_false, false_or, true_or, zaa, reduceIte, mqtt, D9]; (rfl)
 rw [e]
 rfl
 refine Ap (nT h84) (Bb (cs := Ek) rfl (B8 (cs' := Ek) s83 C7 (Ah rfl) rfl (Ca rfl) rfl fun H s87 => Aq s87 (.here) rfl (Al (B4 s87 ⟨_, rfl, rfl⟩ (Du (.nl (Du (.nl (G6 (.nl (.sc (.sc (.nl (.nl (.nl .nil))))))))))) (Dv ⟨A9, (Dv ⟨A9, (Hb ⟨A9, (E8 ⟨A9, ⟨A9, ⟨A9, trivial⟩⟩⟩)⟩)⟩)⟩)) ?_)))
 have e : Ax B = (⟨0, false, 0, false, 0, ⟨#[]⟩, ⟨#[]⟩, ⟨#[]⟩, 0, false, 0, false, ⟨#[]⟩, ⟨#[]⟩, 0, false, false, ⟨#[]⟩, false, ⟨#[]⟩, 0, false, [], [], []⟩ : PacketV) := by
  unfold Ax Hr Hg Hf Ea He F2; simp only [h8, h9, h10, h27, h28, h29, h65, h80, h84, q6, q21, q24, q81, if_true, if_false, or_true, or_false, false_or, true_or, zaa, reduceIte, mqtt, D9]; (rfl)
 rw [e]
 rfl
 have dh80 := of_decide_eq_false h80
 refine Au h80 (Aq s26 (.here) rfl (B8 (cs' := [si 1, bF, i0, bF, i0, sE, .nl, ss vq24, si (A2 B yq6), .sc (.bool (decide (0 < (bits .and .i64 (A2 B (yq6 + 1)) 2)))), si wq21, .sc (.bool (decide (0 < (bits .and .i64 (A2 B (yq6 + 1)) 4)))), sE, .nl, si (bits .and .i64 ((A2 B (yq6 + 1)) / 8) 3), .sc (.bool (decide (0 < (bits .and .i64 (A2 B (yq6 + 1)) 32)))), .sc (.bool (decide (0 < (bits .and .i64 (A2 B (yq6 + 1)) 128)))), sE, .sc (.bool (decide (0 < (bits .and .i64 (A2 B (yq6 + 1)) 64)))), .nl, i0, bF, .nl, .nl, .nl]) s26 Cn (Ah rfl) rfl (Ca rfl) rfl fun H s88 => Aq s88 (.here) rfl (Al (B4 s88 ⟨_, rfl, rfl⟩ (Du (.nl (Du (.nl (G6 (.nl (.sc (.sc (.nl (.nl (.nl .nil))))))))))) (Dv ⟨A9, (Dv ⟨A9, (Hb ⟨A9, (E8 ⟨A9, ⟨A9, ⟨A9, trivial⟩⟩⟩)⟩)⟩)⟩)) ?_)))
 have e : Ax B = (⟨1, false, 0, false, 0, ⟨#[]⟩, ⟨#[]⟩, vq24, (A2 B yq6), (decide (0 < (bits .and .i64 (A2 B (yq6 + 1)) 2))), wq21, (decide (0 < (bits .and .i64 (A2 B (yq6 + 1)) 4))), ⟨#[]⟩, ⟨#[]⟩, (bits .and .i64 ((A2 B (yq6 + 1)) / 8) 3), (decide (0 < (bits .and .i64 (A2 B (yq6 + 1)) 32))), (decide (0 < (bits .and .i64 (A2 B (yq6 + 1)) 128))), ⟨#[]⟩, (decide (0 < (bits .and .i64 (A2 B (yq6 + 1)) 64))), ⟨#[]⟩, 0, false, [], [], []⟩ : PacketV) := by
  unfold Ax Hr Hg Hf Ea He F2; simp only [h8, h9, h10, h27, h28, h29, h65, h80, q6, q21, q24, if_true, if_false, or_true, or_false, false_or, true_or, zaa, reduceIte, mqtt, D9]; (rfl)
 rw [e]
 rfl
 refine Ap (nT h28) (Bb (cs := Ek) rfl (B8 (cs' := Ek) s26 Cn (Ah rfl) rfl (Ca rfl) rfl fun H s89 => Aq s89 (.here) rfl (Al (B4 s89 ⟨_, rfl, rfl⟩ (Du (.nl (Du (.nl (G6 (.nl (.sc (.sc (.nl (.nl (.nl .nil))))))))))) (Dv ⟨A9, (Dv ⟨A9, (Hb ⟨A9, (E8 ⟨A9, ⟨A9, ⟨A9, trivial⟩⟩⟩)⟩)⟩)⟩)) ?_)))
 have e : Ax B = (⟨0, false, 0, false, 0, ⟨#[]⟩, ⟨#[]⟩, ⟨#[]⟩, 0, false, 0, false, ⟨#[]⟩, ⟨#[]⟩, 0, false, false, ⟨#[]⟩, false, ⟨#[]⟩, 0, false, [], [], []⟩ : PacketV) := by
  unfold Ax Hr Hg Hf Ea He F2; simp only [h8, h9, h10, h27, h28, q6, q21, q24, if_true, if_false, or_true, or_false, false_or, true_or, zaa, reduceIte, mqtt, D9]; (rfl)
 rw [e]
 rfl
 refine Ae (nT h27) (Ae (nT h27) (E2 (nT h27) (Ap rfl (Bb (cs := Ek) rfl (B8 (cs' := Ek) s26 Cn (Ah rfl) rfl (Ca rfl) rfl fun H s90 => Aq s90 (.here) rfl (Al (B4 s90 ⟨_, rfl, rfl⟩ (Du (.nl (Du (.nl (G6 (.nl (.sc (.sc (.nl (.nl (.nl .nil))))))))))) (Dv ⟨A9, (Dv ⟨A9, (Hb ⟨A9, (E8 ⟨A9, ⟨A9, ⟨A9, trivial⟩⟩⟩)⟩)⟩)⟩)) ?_))))))
 have e : Ax B = (⟨0, false, 0, false, 0, ⟨#[]⟩, ⟨#[]⟩, ⟨#[]⟩, 0, false, 0, false, ⟨#[]⟩, ⟨#[]⟩, 0, false, false, ⟨#[]⟩, false, ⟨#[]⟩, 0, false, [], [], []⟩ : PacketV) := by
  unfold Ax Hr Hg Hf Ea He F2; simp only [h8, h9, h10, h27, q6, q21, q24, if_true, if_false, or_true, or_false, false_or, true_or, zaa, reduceIte, mqtt, D9]; (rfl)
 rw [e]
 rfl
 refine Ae (nT h9) (Ae (nT h9) (Ae (nT h9) (Ae (nT h9) (Ae (nT h9) (E2 (nT h9) (Ap rfl (Bb (cs := Ek) rfl (B8 (cs' := Ek) s7 Cn (Ah rfl) rfl (Ca rfl) rfl fun H s91 => Aq s91 (.here) rfl (Al (B4 s91 ⟨_, rfl, rfl⟩ (Du (.nl (Du (.nl (G6 (.nl (.sc (.sc (.nl (.nl (.nl .nil))))))))))) (Dv ⟨A9, (Dv ⟨A9, (Hb ⟨A9, (E8 ⟨A9, ⟨A9, ⟨A9, trivial⟩⟩⟩)⟩)⟩)⟩)) ?_)))))))))
 have e : Ax B = (⟨0, false, 0, false, 0, ⟨#[]⟩, ⟨#[]⟩, ⟨#[]⟩, 0, false, 0, false, ⟨#[]⟩, ⟨#[]⟩, 0, false, false, ⟨#[]⟩, false, ⟨#[]⟩, 0, false, [], [], []⟩ : PacketV) := by
  unfold Ax Hr Hg Hf Ea He F2; simp only [h8, h9, q6, if_true, if_false, or_true, or_false, false_or, true_or, zaa, reduceIte, mqtt, D9]; (rfl)
 rw [e]
 rfl
 refine Ae (nT h8) (Ae (nT h8) (E2 (nT h8) (Ae rfl (Ae rfl (Ae rfl (Ae rfl (Ae rfl (E2 rfl (Ap rfl (Bb (cs := Ek) rfl (B8 (cs' := Ek) s7 Cn (Ah rfl) rfl (Ca rfl) rfl fun H s92 => Aq s92 (.here) rfl (Al (B4 s92 ⟨_, rfl, rfl⟩ (Du (.nl (Du (.nl (G6 (.nl (.sc (.sc (.nl (.nl (.nl .nil))))))))))) (Dv ⟨A9, (Dv ⟨A9, (Hb ⟨A9, (E8 ⟨A9, ⟨A9, ⟨A9, trivial⟩⟩⟩)⟩)⟩)⟩)) ?_))))))))))))
 have e : Ax B = (⟨0, false, 0, false, 0, ⟨#[]⟩, ⟨#[]⟩, ⟨#[]⟩, 0, false, 0, false, ⟨#[]⟩, ⟨#[]⟩, 0, false, false, ⟨#[]⟩, false, ⟨#[]⟩, 0, false, [], [], []⟩ : PacketV) := by
  unfold Ax Hr Hg Hf Ea He F2; simp only [h8, q6, if_true, if_false, or_true, or_false, false_or, true_or, zaa, reduceIte, mqtt, D9]; (rfl)
 rw [e]
 rfl
theorem O4 (n : Nat) (hn : 1048576 < n) (t id : Int) (B : ByteArray) (d4 d5 : Nat) (hB : B.size ≤ 1048576) (cs : List Int) : ∀ (f m : Nat) (a : Int) (ws : List WantV) (ns : List ByteArray) (xw xc xn : AV) (H : Ab), f ≤ m → ((B.size : Nat) : Int) - a < f → 0 ≤ a → ((ws.length + ns.length : Nat) : Int) ≤ a ∧ a ≤ ((B.size : Nat) : Int) → Bk xw = true → Bk xc = true → Bk xn = true → Sep H [.own xw 55 (Bt Bp ws), .own xc 57 (D5 cs), .own xn 56 (D6 ns), .blk d4 [.sc (.int .i64 0), .sc (.bool false), .sc (.int .i64 0), .sc (.bool false), .sc (.int .i64 0), .sc (.string (⟨#[]⟩)), .nl, .sc (.string (⟨#[]⟩)), .sc (.int .i64 0), .sc (.bool false), .sc (.int .i64 0), .sc (.bool false), .sc (.string (⟨#[]⟩)), .nl, .sc (.int .i64 0), .sc (.bool false), .sc (.bool false), .sc (.string (⟨#[]⟩)), .sc (.bool false), .nl, .sc (.int .i64 0), .sc (.bool false), .nl, .nl, .nl] true, .blk d5 [.sc (.int .i64 t), .sc (.bool false), .sc (.int .i64 0), .sc (.bool false), .sc (.int .i64 id), .sc (.string (⟨#[]⟩)), .nl, .sc (.string (⟨#[]⟩)), .sc (.int .i64 0), .sc (.bool false), .sc (.int .i64 0), .sc (.bool false), .sc (.string (⟨#[]⟩)), .nl, .sc (.int .i64 0), .sc (.bool false), .sc (.bool false), .sc (.string (⟨#[]⟩)), .sc (.bool false), .nl, .sc (.int .i64 0), .sc (.bool false), xw, xn, xc] true] → Gd (· = some (.agg (An (L5 t id cs (Cy t B f a ws ns))))) (O8 (PR (n + 6) AV) (n + 6) (fun x H => A8 As E0.tp 59 H x) m (Ad B) (.ptr d4 0) (.ptr d5 0) (.sc (.int .i64 a)) H)
 | 0, m, a, ws, ns, xw, xc, xn, H, hm, hM, h0, h1, lxw, lxc, lxn, s0 => by
  exfalso
  omega
 | f + 1, m + 1, a, ws, ns, xw, xc, xn, H, hm, hM, h0, h1, lxw, lxc, lxn, s0 => by
  rw [O8]
  try simp only [Fa, E9]
  refine Cu (Di (Aa ((decide (a < ((B.size : Nat) : Int)))) (fun h1 => ?_) fun h1 => ?_))
  have dh1 := of_decide_eq_true h1
  refine Af h1 (Nl (Af h1 (Ao (c := si t) s0 Ma rfl (Af h1 (Ba (Af h1 (Aa ((decide (t = 8))) (fun h2 => ?_) fun h2 => ?_)))))))
  have dh2 := of_decide_eq_true h2
  refine Ae h2 (Ae h2 (Ae h2 (Af h1 (E2 h2 (E2 h1 (Ap rfl ?_))))))
  obtain ⟨vq3, yq3, oq3, q3⟩ : ∃ w y o, Bz B a = (w, y, o) := ⟨_, _, _, rfl⟩
  have bq3 := Gp q3
  refine D3 s0 rfl (.cons .ro (.cons .sc .nil)) (by have h := K8 (n + 1) (by omega) B a (by omega) (by omega); rw [q3] at h; exact h) rfl (Bd (Bd (Bd Dz))) ?_
  rintro _ _ H ⟨_, rfl, ⟨_, rfl, ⟨_, rfl, ⟨rfl, rfl⟩⟩⟩⟩ s4
  simp only [zal] at s4
  refine Bm (v := ss vq3) rfl (Bm (v := si yq3) rfl (Bm (v := sb oq3) rfl (Cr (Aa (oq3) (fun h5 => ?_) fun h5 => ?_))))
  refine Au (nF h5) (Nl (Ao (c := si t) s4 Ma rfl (Ba (Aa ((decide (t = 10))) (fun h6 => ?_) fun h6 => ?_))))
  have dh6 := of_decide_eq_true h6
  refine Ap h6 (Km (Ao (c := xn) s4 Ma rfl (Bb (cs := [ss vq3]) rfl (B9 s4 fun i7 H s8 => Zt s8 L9 (.here) ⟨_, _, rfl, rfl, rfl, rfl⟩ rfl (by omega) fun x9 H lx9 s10 => Km (B8 (cs' := [si t, bF, i0, bF, si id, sE, .nl, sE, i0, bF, i0, bF, sE, .nl, i0, bF, bF, sE, bF, .nl, i0, bF, xw, x9, xc]) s10 Ma (D2 lx9) rfl (Ca rfl) rfl fun H s11 => ?_)))))
  have e : Cy t B (f + 1) a ws ns = Cy t B f yq3 ws (ns ++ [vq3]) := by
   clear s0 s4 s8 s10 s11
   simp only [Cs] at h1 h2 h6
   (exfalso; omega)
  rw [e]
  have hk := bq3.2.2.2 h5
  exact O4 n hn t id B d4 d5 hB cs f m yq3 ws (ns ++ [vq3]) xw xc x9 _ (by omega) (by omega) (by omega) (by omega) lxw lxc lx9 (s11.sel (.cons C7 (.cons C7 (.cons Cn (.cons Cn (.cons (.here) .nil))))))
  have dh6 := of_decide_eq_false h6
  refine Au h6 (Cu (Ba (Aa ((decide (yq3 = ((B.size : Nat) : Int)))) (fun h12 => ?_) fun h12 => ?_)))
  have dh12 := of_decide_eq_true h12
  refine Ap h12 (Bb (cs := Ek) rfl (B8 (cs' := Ek) s4 L9 (Ah rfl) rfl (Ca rfl) rfl fun H s13 => Aq s13 (.here) rfl (Al (B4 s13 ⟨_, rfl, rfl⟩ (Du (.nl (Du (.nl (G6 (.nl (.sc (.sc (.nl (.nl (.nl .nil))))))))))) (Dv ⟨A9, (Dv ⟨A9, (Hb ⟨A9, (E8 ⟨A9, ⟨A9, ⟨A9, trivial⟩⟩⟩)⟩)⟩)⟩)) ?_)))
  have e : L5 t id cs (Cy t B (f + 1) a ws ns) = (⟨0, false, 0, false, 0, ⟨#[]⟩, ⟨#[]⟩, ⟨#[]⟩, 0, false, 0, false, ⟨#[]⟩, ⟨#[]⟩, 0, false, false, ⟨#[]⟩, false, ⟨#[]⟩, 0, false, [], [], []⟩ : PacketV) := by
   simp only [Cs] at h1 h2 h6 h12
   rw [Cy]; simp only [q3]; simp [L5, B3, h1, h2, h5, h6, h12]
  rw [e]
  rfl
  have dh12 := of_decide_eq_false h12
  refine Au h12 (Kf (Ao (c := xw) s4 Ma rfl ?_))
  have w14 := D0 B yq3
  refine Gn (by omega) (by omega) fun _ => E5 (c := su (A2 B yq3)) rfl (Kr (by omega) (by omega) (Bb (cs := [ss vq3, si (A2 B yq3)]) rfl (Bb (cs := [ss vq3, si (A2 B yq3)]) (Jb (z' := [ss vq3, si (A2 B yq3)]) (Ah rfl) rfl (Ca rfl) rfl (rfl)) (B9 s4 fun i15 H s16 => Zs (cty := [9, 3]) (e := (⟨vq3, (A2 B yq3)⟩ : WantV)) s16 ⟨_, _, rfl, rfl, rfl, rfl⟩ Cn (.here) rfl rfl (.sc (.sc .nil)) (E8 trivial) rfl (by omega) fun x17 H lx17 s18 => Kf (B8 (cs' := [si t, bF, i0, bF, si id, sE, .nl, sE, i0, bF, i0, bF, sE, .nl, i0, bF, bF, sE, bF, .nl, i0, bF, x17, xn, xc]) s18 Ma (D2 lx17) rfl (Ca rfl) rfl fun H s19 => Bw (by omega) (by omega) ?_)))))
  have e : Cy t B (f + 1) a ws ns = Cy t B f (yq3 + 1) (ws ++ [⟨vq3, (A2 B yq3)⟩]) ns := by
   simp only [Cs] at h1 h2 h6 h12
   (rw [Cy]; simp only [q3]; simp [h1, h2, h5, h6, h12])
  rw [e]
  have hk := bq3.2.2.2 h5
  exact O4 n hn t id B d4 d5 hB cs f m (yq3 + 1) (ws ++ [⟨vq3, (A2 B yq3)⟩]) ns x17 xc xn _ (by omega) (by omega) (by omega) (by (simp only [zad, zas]; omega)) lx17 lxc lxn (s19.sel (.cons Cn (.cons Cn (.cons Cn (.cons Cn (.cons (.here) .nil))))))
  refine Ap (nT h5) (Bb (cs := Ek) rfl (B8 (cs' := Ek) s4 L9 (Ah rfl) rfl (Ca rfl) rfl fun H s20 => Aq s20 (.here) rfl (Al (B4 s20 ⟨_, rfl, rfl⟩ (Du (.nl (Du (.nl (G6 (.nl (.sc (.sc (.nl (.nl (.nl .nil))))))))))) (Dv ⟨A9, (Dv ⟨A9, (Hb ⟨A9, (E8 ⟨A9, ⟨A9, ⟨A9, trivial⟩⟩⟩)⟩)⟩)⟩)) ?_)))
  have e : L5 t id cs (Cy t B (f + 1) a ws ns) = (⟨0, false, 0, false, 0, ⟨#[]⟩, ⟨#[]⟩, ⟨#[]⟩, 0, false, 0, false, ⟨#[]⟩, ⟨#[]⟩, 0, false, false, ⟨#[]⟩, false, ⟨#[]⟩, 0, false, [], [], []⟩ : PacketV) := by
   simp only [Cs] at h1 h2
   rw [Cy]; simp only [q3]; simp [L5, B3, h1, h2, h5]
  rw [e]
  rfl
  have dh2 := of_decide_eq_false h2
  refine Af h2 (Nl (Af h2 (Ao (c := si t) s0 Ma rfl (Af h2 (Ba (Af h1 (E1 h2 (E2 h1 (Aa ((decide (t = 10))) (fun h21 => ?_) fun h21 => ?_)))))))))
  have dh21 := of_decide_eq_true h21
  refine Ap h21 ?_
  obtain ⟨vq22, yq22, oq22, q22⟩ : ∃ w y o, Bz B a = (w, y, o) := ⟨_, _, _, rfl⟩
  have bq22 := Gp q22
  refine D3 s0 rfl (.cons .ro (.cons .sc .nil)) (by have h := K8 (n + 1) (by omega) B a (by omega) (by omega); rw [q22] at h; exact h) rfl (Bd (Bd (Bd Dz))) ?_
  rintro _ _ H ⟨_, rfl, ⟨_, rfl, ⟨_, rfl, ⟨rfl, rfl⟩⟩⟩⟩ s23
  simp only [zal] at s23
  refine Bm (v := ss vq22) rfl (Bm (v := si yq22) rfl (Bm (v := sb oq22) rfl (Cr (Aa (oq22) (fun h24 => ?_) fun h24 => ?_))))
  refine Au (nF h24) (Nl (Ao (c := si t) s23 Ma rfl (Ba (Ap h21 (Km (Ao (c := xn) s23 Ma rfl (Bb (cs := [ss vq22]) rfl (B9 s23 fun i25 H s26 => Zt s26 L9 (.here) ⟨_, _, rfl, rfl, rfl, rfl⟩ rfl (by omega) fun x27 H lx27 s28 => Km (B8 (cs' := [si t, bF, i0, bF, si id, sE, .nl, sE, i0, bF, i0, bF, sE, .nl, i0, bF, bF, sE, bF, .nl, i0, bF, xw, x27, xc]) s28 Ma (D2 lx27) rfl (Ca rfl) rfl fun H s29 => ?_)))))))))
  have e : Cy t B (f + 1) a ws ns = Cy t B f yq22 ws (ns ++ [vq22]) := by
   simp only [Cs] at h1 h2 h21
   (rw [Cy]; simp only [q22]; simp [h1, h2, h21, h24])
  rw [e]
  have hk := bq22.2.2.2 h24
  exact O4 n hn t id B d4 d5 hB cs f m yq22 ws (ns ++ [vq22]) xw xc x27 _ (by omega) (by omega) (by omega) (by (simp only [zad, zas]; omega)) lxw lxc lx27 (s29.sel (.cons C7 (.cons C7 (.cons Cn (.cons Cn (.cons (.here) .nil))))))
  refine Ap (nT h24) (Bb (cs := Ek) rfl (B8 (cs' := Ek) s23 L9 (Ah rfl) rfl (Ca rfl) rfl fun H s30 => Aq s30 (.here) rfl (Al (B4 s30 ⟨_, rfl, rfl⟩ (Du (.nl (Du (.nl (G6 (.nl (.sc (.sc (.nl (.nl (.nl .nil))))))))))) (Dv ⟨A9, (Dv ⟨A9, (Hb ⟨A9, (E8 ⟨A9, ⟨A9, ⟨A9, trivial⟩⟩⟩)⟩)⟩)⟩)) ?_)))
  have e : L5 t id cs (Cy t B (f + 1) a ws ns) = (⟨0, false, 0, false, 0, ⟨#[]⟩, ⟨#[]⟩, ⟨#[]⟩, 0, false, 0, false, ⟨#[]⟩, ⟨#[]⟩, 0, false, false, ⟨#[]⟩, false, ⟨#[]⟩, 0, false, [], [], []⟩ : PacketV) := by
   simp only [Cs] at h1 h2 h21
   rw [Cy]; simp only [q22]; simp [L5, B3, h1, h2, h21, h24]
  rw [e]
  rfl
  have dh21 := of_decide_eq_false h21
  refine Au h21 (Aq s0 Ma rfl (B8 (cs' := [si t, bF, i0, bF, si id, sE, .nl, sE, i0, bF, i0, bF, sE, .nl, i0, bF, bF, sE, bF, .nl, i0, bF, xw, xn, xc]) s0 L9 (Ah (Ac rfl (Ac rfl (Ac rfl (Ac rfl (Ac rfl (Ac rfl (Ac rfl (Ac rfl (Ac rfl (Ac rfl (Ac rfl (Ac rfl (Ac rfl (Ac rfl (Ac rfl (Ac rfl (Ac rfl (Ac rfl (Ac rfl (Ac rfl (Ac rfl (Ac rfl (Ac lxw (Ac lxn (Ac lxc rfl)))))))))))))))))))))))))) rfl (Ca rfl) rfl fun H s31 => Aq s31 (.here) rfl (Al (B4 s31 ⟨_, rfl, rfl⟩ (Du (.nl (Du (.nl (G6 (.nl (.sc (.sc (.own Cn (.own C7 (.own Cn .nil))))))))))) (Dv ⟨A9, (Dv ⟨A9, (Hb ⟨A9, (E8 ⟨(Bs (K6 ws) (by decide)), ⟨(Bs (Wy ns) (by decide)), ⟨(Bs (Z3 cs) (by decide)), trivial⟩⟩⟩)⟩)⟩)⟩)) ?_)))
  have e : L5 t id cs (Cy t B (f + 1) a ws ns) = (⟨t, false, 0, false, id, ⟨#[]⟩, ⟨#[]⟩, ⟨#[]⟩, 0, false, 0, false, ⟨#[]⟩, ⟨#[]⟩, 0, false, false, ⟨#[]⟩, false, ⟨#[]⟩, 0, false, ws, ns, cs⟩ : PacketV) := by
   simp only [Cs] at h1 h2 h21
   rw [Cy]; simp [L5, B3, h1, h2, h21]
  rw [e]
  rfl
  have dh1 := of_decide_eq_false h1
  refine Ae h1 (Ae h1 (Ae h1 (Ae h1 (Ef (Ef (Ef (Ae h1 (E1 h1 (Au rfl (Aq s0 Ma rfl (B8 (cs' := [si t, bF, i0, bF, si id, sE, .nl, sE, i0, bF, i0, bF, sE, .nl, i0, bF, bF, sE, bF, .nl, i0, bF, xw, xn, xc]) s0 L9 (Ah (Ac rfl (Ac rfl (Ac rfl (Ac rfl (Ac rfl (Ac rfl (Ac rfl (Ac rfl (Ac rfl (Ac rfl (Ac rfl (Ac rfl (Ac rfl (Ac rfl (Ac rfl (Ac rfl (Ac rfl (Ac rfl (Ac rfl (Ac rfl (Ac rfl (Ac rfl (Ac lxw (Ac lxn (Ac lxc rfl)))))))))))))))))))))))))) rfl (Ca rfl) rfl fun H s32 => Aq s32 (.here) rfl (Al (B4 s32 ⟨_, rfl, rfl⟩ (Du (.nl (Du (.nl (G6 (.nl (.sc (.sc (.own Cn (.own C7 (.own Cn .nil))))))))))) (Dv ⟨A9, (Dv ⟨A9, (Hb ⟨A9, (E8 ⟨(Bs (K6 ws) (by decide)), ⟨(Bs (Wy ns) (by decide)), ⟨(Bs (Z3 cs) (by decide)), trivial⟩⟩⟩)⟩)⟩)⟩)) ?_))))))))))))
  have e : L5 t id cs (Cy t B (f + 1) a ws ns) = (⟨t, false, 0, false, id, ⟨#[]⟩, ⟨#[]⟩, ⟨#[]⟩, 0, false, 0, false, ⟨#[]⟩, ⟨#[]⟩, 0, false, false, ⟨#[]⟩, false, ⟨#[]⟩, 0, false, ws, ns, cs⟩ : PacketV) := by
   simp only [Cs] at h1
   rw [Cy]; simp [L5, B3, h1]
  rw [e]
  rfl
theorem U7 (n : Nat) (hn : 1048576 < n) (t id : Int) (B : ByteArray) (d4 d5 : Nat) (hB : B.size ≤ 1048576) (a : Int) (ha : 0 ≤ a ∧ a ≤ ((B.size : Nat) : Int)) : ∀ (f m : Nat) (i : Int) (cs : List Int) (xc : AV) (H : Ab), f ≤ m → ((B.size : Nat) : Int) - i < f → 0 ≤ i → ((cs.length : Nat) : Int) ≤ i ∧ i ≤ ((B.size : Nat) : Int) → Bk xc = true → Sep H [.own xc 57 (D5 cs), .blk d4 [.sc (.int .i64 0), .sc (.bool false), .sc (.int .i64 0), .sc (.bool false), .sc (.int .i64 0), .sc (.string (⟨#[]⟩)), .nl, .sc (.string (⟨#[]⟩)), .sc (.int .i64 0), .sc (.bool false), .sc (.int .i64 0), .sc (.bool false), .sc (.string (⟨#[]⟩)), .nl, .sc (.int .i64 0), .sc (.bool false), .sc (.bool false), .sc (.string (⟨#[]⟩)), .sc (.bool false), .nl, .sc (.int .i64 0), .sc (.bool false), .nl, .nl, .nl] true, .blk d5 [.sc (.int .i64 t), .sc (.bool false), .sc (.int .i64 0), .sc (.bool false), .sc (.int .i64 id), .sc (.string (⟨#[]⟩)), .nl, .sc (.string (⟨#[]⟩)), .sc (.int .i64 0), .sc (.bool false), .sc (.int .i64 0), .sc (.bool false), .sc (.string (⟨#[]⟩)), .nl, .sc (.int .i64 0), .sc (.bool false), .sc (.bool false), .sc (.string (⟨#[]⟩)), .sc (.bool false), .nl, .sc (.int .i64 0), .sc (.bool false), .nl, .nl, xc] true] → Gd (· = some (.agg (An (L5 t id (F7 B f i cs) (Cy t B (B.size + 1) a [] []))))) (O9 (PR (n + 6) AV) (n + 6) (fun x H => A8 As E0.tp 59 H x) m (Ad B) (.ptr d4 0) (.ptr d5 0) (.sc (.int .i64 a)) (.sc (.int .i64 i)) H)
 | 0, m, i, cs, xc, H, hm, hM, h0, h1, lxc, s0 => by
  exfalso
  omega
 | f + 1, m + 1, i, cs, xc, H, hm, hM, h0, h1, lxc, s0 => by
  rw [O9]
  try simp only [Fa, E9]
  refine Cu (Di (Aa ((decide (i < ((B.size : Nat) : Int)))) (fun h1 => ?_) fun h1 => ?_))
  have dh1 := of_decide_eq_true h1
  refine Ap h1 (Kn (Ao (c := xc) s0 C7 rfl ?_))
  have w2 := D0 B i
  refine Gn (by omega) (by omega) fun _ => E5 (c := su (A2 B i)) rfl (Kr (by omega) (by omega) (Bb (cs := [si (A2 B i)]) rfl (B9 s0 fun i3 H s4 => AcL s4 Cn (.here) ⟨_, _, rfl, rfl, rfl, rfl⟩ rfl (by omega) fun x5 H lx5 s6 => Kn (A3 s6 C7 lx5 rfl fun H s7 => Bw (by omega) (by omega) ?_))))
  have e : F7 B (f + 1) i cs = F7 B f (i + 1) (cs ++ [(A2 B i)]) := by
   simp only [Cs] at h1
   rw [F7]; simp [h1]
  rw [e]
  exact U7 n hn t id B d4 d5 hB a ha f m (i + 1) (cs ++ [(A2 B i)]) x5 _ (by omega) (by omega) (by omega) (by (simp only [zad, zas]; omega)) lx5 (s7.sel (.cons Cn (.cons Cn (.cons (.here) .nil))))
  have dh1 := of_decide_eq_false h1
  refine Au h1 ?_
  have e : F7 B (f + 1) i cs = cs := by
   simp only [Cs] at h1
   rw [F7]; simp [h1]
  rw [e]
  have s8 := s0.nl (ty := 56) ⟨_, _, rfl, rfl⟩
  have s9 := s8.nl (ty := 55) ⟨_, _, rfl, rfl⟩
  exact O4 n hn t id B d4 d5 hB cs (B.size + 1) _ a [] [] .nl xc .nl _ (by omega) (by omega) (by omega) (by omega) rfl lxc rfl (s9.sel (.cons (.here) (.cons Cn (.cons (.here) (.cons (.here) (.cons (.here) .nil))))))
theorem AjW (n : Nat) (hn : 1048576 < n) (first : Int) (B : ByteArray) (hf : 0 ≤ first ∧ first < 256) (hB : B.size ≤ 1048576) : C0 E0 (n + 7) 59 63 [.sc (.int .i64 first), Ad B] = some (.agg (An (Dh first B))) := by
 rw [A7, Alm, f63]
 refine Cm (G := (· = some (.agg (An (Dh first B))))) ?_
 try simp only [Fa, E9]
 have s0 : Sep [] [] := Ch
 refine Ie s0 fun i1 H s2 => Pe (by omega) (by omega) (by decide) (Bb (cs := [si (first / 16), bF, i0, bF, i0, sE, .nl, sE, i0, bF, i0, bF, sE, .nl, i0, bF, bF, sE, bF, .nl, i0, bF, .nl, .nl, .nl]) rfl (Ie s2 fun i3 H s4 => B8 (cs' := [si (first / 16), bF, i0, bF, i0, sE, .nl, sE, i0, bF, i0, bF, sE, .nl, i0, bF, bF, sE, bF, .nl, i0, bF, .nl, .nl, .nl]) s4 (.here) (Ah rfl) rfl (Ca rfl) rfl fun H s5 => Nl (Ao (c := si (first / 16)) s5 (.here) rfl (Ba (Aa ((decide ((first / 16) = 1))) (fun h6 => ?_) fun h6 => ?_)))))
 have dh6 := of_decide_eq_true h6
 refine Ap h6 (Rx s5 rfl (.cons .ro .nil) (Ack n (by omega) B hB) ⟨_, rfl, rfl⟩ (J3 _) ?_)
 rintro _ _ H ⟨x7, x8, x9, x10, x11, x12, lx7, lx8, lx9, lx10, lx11, lx12, rfl, rfl⟩ s13
 simp only [zal, zau] at s13
 refine B8 (cs' := [si ((Ax B).fType), .sc (.bool (Ax B).fDup), si ((Ax B).fQos), .sc (.bool (Ax B).fRetain), si ((Ax B).fId), ss ((Ax B).fTopic), x7, ss ((Ax B).fClient), si ((Ax B).fLevel), .sc (.bool (Ax B).fClean), si ((Ax B).fKeep), .sc (.bool (Ax B).fHasWill), ss ((Ax B).fWTopic), x8, si ((Ax B).fWQos), .sc (.bool (Ax B).fWRetain), .sc (.bool (Ax B).fHasUser), ss ((Ax B).fUser), .sc (.bool (Ax B).fHasPass), x9, si ((Ax B).fCode), .sc (.bool (Ax B).fPresent), x10, x11, x12]) s13 zP7 (Ah (Ac rfl (Ac rfl (Ac rfl (Ac rfl (Ac rfl (Ac rfl (Ac lx7 (Ac rfl (Ac rfl (Ac rfl (Ac rfl (Ac rfl (Ac rfl (Ac lx8 (Ac rfl (Ac rfl (Ac rfl (Ac rfl (Ac rfl (Ac lx9 (Ac rfl (Ac rfl (Ac lx10 (Ac lx11 (Ac lx12 rfl)))))))))))))))))))))))))) rfl (Ca rfl) rfl fun H s14 => Aq s14 (.here) rfl (Al (B4 s14 ⟨_, rfl, rfl⟩ (Du (.own Yb (Du (.own Uz (G6 (.own Ma (.sc (.sc (.own L9 (.own C7 (.own Cn .nil))))))))))) (Dv ⟨(Bs (Cx ((Ax B).fBody)) (by decide)), (Dv ⟨(Bs (Cx ((Ax B).fWBody)) (by decide)), (Hb ⟨(Bs (Cx ((Ax B).fPass)) (by decide)), (E8 ⟨(Bs (K6 ((Ax B).fWants)) (by decide)), ⟨(Bs (Wy ((Ax B).fNames)) (by decide)), ⟨(Bs (Z3 ((Ax B).fCodes)) (by decide)), trivial⟩⟩⟩)⟩)⟩)⟩)) ?_)
 have e : Dh first B = (⟨(Ax B).fType, (Ax B).fDup, (Ax B).fQos, (Ax B).fRetain, (Ax B).fId, (Ax B).fTopic, (Ax B).fBody, (Ax B).fClient, (Ax B).fLevel, (Ax B).fClean, (Ax B).fKeep, (Ax B).fHasWill, (Ax B).fWTopic, (Ax B).fWBody, (Ax B).fWQos, (Ax B).fWRetain, (Ax B).fHasUser, (Ax B).fUser, (Ax B).fHasPass, (Ax B).fPass, (Ax B).fCode, (Ax B).fPresent, ((Ax B).fWants), (Ax B).fNames, (Ax B).fCodes⟩ : PacketV) := by
  simp only [Cs] at h6
  unfold Dh Hs Fl Lc; ((simp only [h6, if_true, if_false, or_true, or_false, false_or, true_or, zaa, reduceIte, and_true, and_false, true_and, false_and, D9]; done))
 rw [e]
 rfl
 have dh6 := of_decide_eq_false h6
 refine Au h6 (Nl (Ao (c := si (first / 16)) s5 (.here) rfl (Ba (Aa ((decide ((first / 16) = 2))) (fun h15 => ?_) fun h15 => ?_))))
 have dh15 := of_decide_eq_true h15
 refine Af h15 (Af h15 (Cu (Af h15 (Ba (E2 h15 (Aa ((decide (((B.size : Nat) : Int) = 2))) (fun h16 => ?_) fun h16 => ?_))))))
 have dh16 := of_decide_eq_true h16
 refine Ap h16 ?_
 have w17 := D0 B 0
 refine Gn (by omega) (by omega) fun _ => E5 (c := su (A2 B 0)) rfl (Qs (v := sb ((A2 B 0) == 1)) (fun k => rfl) (Wi (A3 s5 (.here) rfl rfl fun H s18 => ?_)))
 have w19 := D0 B 1
 refine Gn (by omega) (by omega) fun _ => E5 (c := su (A2 B 1)) rfl (Kr (by omega) (by omega) (Q9 (A3 s18 (.here) rfl rfl fun H s20 => Aq s20 (.here) rfl (B8 (cs' := [si (first / 16), bF, i0, bF, i0, sE, .nl, sE, i0, bF, i0, bF, sE, .nl, i0, bF, bF, sE, bF, .nl, si (A2 B 1), sb ((A2 B 0) == 1), .nl, .nl, .nl]) s20 Cn (Ah rfl) rfl (Ca rfl) rfl fun H s21 => Aq s21 (.here) rfl (Al (B4 s21 ⟨_, rfl, rfl⟩ (Du (.nl (Du (.nl (G6 (.nl (.sc (.sc (.nl (.nl (.nl .nil))))))))))) (Dv ⟨A9, (Dv ⟨A9, (Hb ⟨A9, (E8 ⟨A9, ⟨A9, ⟨A9, trivial⟩⟩⟩)⟩)⟩)⟩)) ?_)))))
 have e : Dh first B = (⟨(first / 16), false, 0, false, 0, ⟨#[]⟩, ⟨#[]⟩, ⟨#[]⟩, 0, false, 0, false, ⟨#[]⟩, ⟨#[]⟩, 0, false, false, ⟨#[]⟩, false, ⟨#[]⟩, (A2 B 1), ((A2 B 0) == 1), [], [], []⟩ : PacketV) := by
  simp only [Cs] at h6 h15 h16
  unfold Dh Hs Fl Lc; ((simp only [h6, h15, h16, if_true, if_false, or_true, or_false, false_or, true_or, zaa, reduceIte, and_true, and_false, true_and, false_and, D9]; rfl))
 rw [e]
 rfl
 have dh16 := of_decide_eq_false h16
 refine Au h16 (Nl (Ao (c := si (first / 16)) s5 (.here) rfl (Ba (Aa ((decide ((first / 16) = 3))) (fun h22 => ?_) fun h22 => ?_))))
 have dh22 := of_decide_eq_true h22
 refine Ap h22 (Gm rfl (Eb (Wd (A3 s5 (.here) rfl rfl fun H s23 => T2 2 rfl (by decide) (Gm rfl (Ox (A3 s23 (.here) rfl rfl fun H s24 => Gm rfl (Eb (gf3 (A3 s24 (.here) rfl rfl fun H s25 => ?_))))))))))
 obtain ⟨vq26, yq26, oq26, q26⟩ : ∃ w y o, Bz B 0 = (w, y, o) := ⟨_, _, _, rfl⟩
 have bq26 := Gp q26
 refine D3 s25 rfl (.cons .ro (.cons .sc .nil)) (by have h := K8 (n + 1) (by omega) B 0 (by omega) (by omega); rw [q26] at h; exact h) rfl (Bd (Bd (Bd Dz))) ?_
 rintro _ _ H ⟨_, rfl, ⟨_, rfl, ⟨_, rfl, ⟨rfl, rfl⟩⟩⟩⟩ s27
 simp only [zal] at s27
 refine Bm (v := ss vq26) rfl (Bm (v := si yq26) rfl (Bm (v := sb oq26) rfl (Cr (Aa (oq26) (fun h28 => ?_) fun h28 => ?_))))
 refine Au (nF h28) (gf5 (A3 s27 (.here) rfl rfl fun H s29 => Ox (Ao (c := si (bits .and .i64 (first / 2) 3)) s29 (.here) rfl (Eb (C8 (Aa ((decide (0 < (bits .and .i64 (first / 2) 3)))) (fun h30 => ?_) fun h30 => ?_))))))
 have dh30 := of_decide_eq_true h30
 refine Ap h30 ?_
 obtain ⟨wq31, yq31, oq31, q31⟩ : ∃ w y o, Bn B yq26 = (w, y, o) := ⟨_, _, _, rfl⟩
 have bq31 := Fy q31
 refine D3 s29 rfl (.cons .ro (.cons .sc .nil)) (by have h := Ql (n + 5) (by omega) B yq26 (by omega) (by omega); rw [q31] at h; exact h) rfl (Bd (Bd (Bd Dz))) ?_
 rintro _ _ H ⟨_, rfl, ⟨_, rfl, ⟨_, rfl, ⟨rfl, rfl⟩⟩⟩⟩ s32
 simp only [zal] at s32
 refine Bm (v := si wq31) rfl (Bm (v := si yq31) rfl (Bm (v := sb oq31) rfl (Cr (Aa (oq31) (fun h33 => ?_) fun h33 => ?_))))
 refine Au (nF h33) (Ig (A3 s32 (.here) rfl rfl fun H s34 => Fs yq31 ((B.size : Nat) : Int) rfl rfl (by omega) (by omega) (by omega) ?_))
 have z35 := zao (a := B) (b := yq31.toNat) (e := ((B.size : Nat) : Int).toNat)
 refine Jc s34 (by omega) fun x36 H lx36 s37 => gf6 (A3 s37 Cn lx36 rfl fun H s38 => Aq s38 (.here) rfl (B8 (cs' := [si (first / 16), sb (decide (0 < (bits .and .i64 first 8))), si (bits .and .i64 (first / 2) 3), sb (decide (0 < (bits .and .i64 first 1))), si wq31, ss vq26, x36, sE, i0, bF, i0, bF, sE, .nl, i0, bF, bF, sE, bF, .nl, i0, bF, .nl, .nl, .nl]) s38 C7 (Ah (Ac rfl (Ac rfl (Ac rfl (Ac rfl (Ac rfl (Ac rfl (Ac lx36 rfl)))))))) rfl (Ca rfl) rfl fun H s39 => Aq s39 (.here) rfl (Al (B4 s39 ⟨_, rfl, rfl⟩ (Du (.own C7 (Du (.nl (G6 (.nl (.sc (.sc (.nl (.nl (.nl .nil))))))))))) (Dv ⟨(Bs (Cx (B.extract yq31.toNat ((B.size : Nat) : Int).toNat)) (by decide)), (Dv ⟨A9, (Hb ⟨A9, (E8 ⟨A9, ⟨A9, ⟨A9, trivial⟩⟩⟩)⟩)⟩)⟩)) ?_)))
 have e : Dh first B = (⟨(first / 16), (decide (0 < (bits .and .i64 first 8))), (bits .and .i64 (first / 2) 3), (decide (0 < (bits .and .i64 first 1))), wq31, vq26, (B.extract yq31.toNat ((B.size : Nat) : Int).toNat), ⟨#[]⟩, 0, false, 0, false, ⟨#[]⟩, ⟨#[]⟩, 0, false, false, ⟨#[]⟩, false, ⟨#[]⟩, 0, false, [], [], []⟩ : PacketV) := by
  clear s0 s2 s4 s5 s23 s24 s25 s27 s29 s32 s34 s37 s38 s39
  simp only [Cs] at h6 h15 h16 h22 h30
  unfold Dh Hs Fl Lc; ((simp only [h6, h15, h16, h22, h30, h28, h33, q26, q31, if_true, if_false, or_true, or_false, false_or, true_or, zaa, reduceIte, and_true, and_false, true_and, false_and, D9]; simp [B3, h6, h15, h16, h22, h30, h28, h33]; omega))
 rw [e]
 rfl
 refine Ap (nT h33) (Bb (cs := Ek) rfl (B8 (cs' := Ek) s32 Cn (Ah rfl) rfl (Ca rfl) rfl fun H s40 => Aq s40 (.here) rfl (Al (B4 s40 ⟨_, rfl, rfl⟩ (Du (.nl (Du (.nl (G6 (.nl (.sc (.sc (.nl (.nl (.nl .nil))))))))))) (Dv ⟨A9, (Dv ⟨A9, (Hb ⟨A9, (E8 ⟨A9, ⟨A9, ⟨A9, trivial⟩⟩⟩)⟩)⟩)⟩)) ?_)))
 have e : Dh first B = (⟨0, false, 0, false, 0, ⟨#[]⟩, ⟨#[]⟩, ⟨#[]⟩, 0, false, 0, false, ⟨#[]⟩, ⟨#[]⟩, 0, false, false, ⟨#[]⟩, false, ⟨#[]⟩, 0, false, [], [], []⟩ : PacketV) := by
  clear s0 s2 s4 s5 s23 s24 s25 s27 s29 s32 s40
  simp only [Cs] at h6 h15 h16 h22 h30
  unfold Dh Hs Fl Lc; ((simp only [h6, h15, h16, h22, h30, h28, h33, q26, q31, if_true, if_false, or_true, or_false, false_or, true_or, zaa, reduceIte, and_true, and_false, true_and, false_and, D9]; simp [B3, h6, h15, h16, h22, h30, h28, h33]; omega))
 rw [e]
 rfl
 have dh30 := of_decide_eq_false h30
 refine Au h30 (Fs yq26 ((B.size : Nat) : Int) rfl rfl (by omega) (by omega) (by omega) ?_)
 have z41 := zao (a := B) (b := yq26.toNat) (e := ((B.size : Nat) : Int).toNat)
 refine Jc s29 (by omega) fun x42 H lx42 s43 => gf6 (A3 s43 Cn lx42 rfl fun H s44 => Aq s44 (.here) rfl (B8 (cs' := [si (first / 16), sb (decide (0 < (bits .and .i64 first 8))), si (bits .and .i64 (first / 2) 3), sb (decide (0 < (bits .and .i64 first 1))), i0, ss vq26, x42, sE, i0, bF, i0, bF, sE, .nl, i0, bF, bF, sE, bF, .nl, i0, bF, .nl, .nl, .nl]) s44 C7 (Ah (Ac rfl (Ac rfl (Ac rfl (Ac rfl (Ac rfl (Ac rfl (Ac lx42 rfl)))))))) rfl (Ca rfl) rfl fun H s45 => Aq s45 (.here) rfl (Al (B4 s45 ⟨_, rfl, rfl⟩ (Du (.own C7 (Du (.nl (G6 (.nl (.sc (.sc (.nl (.nl (.nl .nil))))))))))) (Dv ⟨(Bs (Cx (B.extract yq26.toNat ((B.size : Nat) : Int).toNat)) (by decide)), (Dv ⟨A9, (Hb ⟨A9, (E8 ⟨A9, ⟨A9, ⟨A9, trivial⟩⟩⟩)⟩)⟩)⟩)) ?_)))
 have e : Dh first B = (⟨(first / 16), (decide (0 < (bits .and .i64 first 8))), (bits .and .i64 (first / 2) 3), (decide (0 < (bits .and .i64 first 1))), 0, vq26, (B.extract yq26.toNat ((B.size : Nat) : Int).toNat), ⟨#[]⟩, 0, false, 0, false, ⟨#[]⟩, ⟨#[]⟩, 0, false, false, ⟨#[]⟩, false, ⟨#[]⟩, 0, false, [], [], []⟩ : PacketV) := by
  clear s0 s2 s4 s5 s23 s24 s25 s27 s29 s43 s44 s45
  simp only [Cs] at h6 h15 h16 h22 h30
  unfold Dh Hs Fl Lc; ((simp only [h6, h15, h16, h22, h30, h28, q26, if_true, if_false, or_true, or_false, false_or, true_or, zaa, reduceIte, and_true, and_false, true_and, false_and, D9]; simp [B3, h6, h15, h16, h22, h30, h28]; omega))
 rw [e]
 rfl
 refine Ap (nT h28) (Bb (cs := Ek) rfl (B8 (cs' := Ek) s27 Cn (Ah rfl) rfl (Ca rfl) rfl fun H s46 => Aq s46 (.here) rfl (Al (B4 s46 ⟨_, rfl, rfl⟩ (Du (.nl (Du (.nl (G6 (.nl (.sc (.sc (.nl (.nl (.nl .nil))))))))))) (Dv ⟨A9, (Dv ⟨A9, (Hb ⟨A9, (E8 ⟨A9, ⟨A9, ⟨A9, trivial⟩⟩⟩)⟩)⟩)⟩)) ?_)))
 have e : Dh first B = (⟨0, false, 0, false, 0, ⟨#[]⟩, ⟨#[]⟩, ⟨#[]⟩, 0, false, 0, false, ⟨#[]⟩, ⟨#[]⟩, 0, false, false, ⟨#[]⟩, false, ⟨#[]⟩, 0, false, [], [], []⟩ : PacketV) := by
  clear s0 s2 s4 s5 s23 s24 s25 s27 s46
  simp only [Cs] at h6 h15 h16 h22
  unfold Dh Hs Fl Lc; ((simp only [h6, h15, h16, h22, h28, q26, if_true, if_false, or_true, or_false, false_or, true_or, zaa, reduceIte, and_true, and_false, true_and, false_and, D9]; simp [B3, h6, h15, h16, h22, h28]; omega))
 rw [e]
 rfl
 have dh22 := of_decide_eq_false h22
 refine Au h22 (Nl (Ao (c := si (first / 16)) s5 (.here) rfl (Di (C8 (Aa ((decide ((first / 16) < 12))) (fun h47 => ?_) fun h47 => ?_)))))
 have dh47 := of_decide_eq_true h47
 refine Ap h47 ?_
 obtain ⟨wq48, yq48, oq48, q48⟩ : ∃ w y o, Bn B 0 = (w, y, o) := ⟨_, _, _, rfl⟩
 have bq48 := Fy q48
 refine D3 s5 rfl (.cons .ro (.cons .sc .nil)) (by have h := Ql (n + 5) (by omega) B 0 (by omega) (by omega); rw [q48] at h; exact h) rfl (Bd (Bd (Bd Dz))) ?_
 rintro _ _ H ⟨_, rfl, ⟨_, rfl, ⟨_, rfl, ⟨rfl, rfl⟩⟩⟩⟩ s49
 simp only [zal] at s49
 refine Bm (v := si wq48) rfl (Bm (v := si yq48) rfl (Bm (v := sb oq48) rfl (Cr (Aa (oq48) (fun h50 => ?_) fun h50 => ?_))))
 refine Au (nF h50) (Ig (A3 s49 (.here) rfl rfl fun H s51 => Nl (Ao (c := si (first / 16)) s51 (.here) rfl (Ba (C8 (Aa ((decide ((first / 16) = 9))) (fun h52 => ?_) fun h52 => ?_))))))
 have dh52 := of_decide_eq_true h52
 refine Ap h52 ?_
 have e : Dh first B = L5 (first / 16) wq48 (F7 B (B.size + 1) yq48 []) (Cy (first / 16) B (B.size + 1) yq48 [] []) := by
  clear s0 s2 s4 s5 s49 s51
  simp only [Cs] at h6 h15 h16 h22 h47 h52
  unfold Dh Hs Fl Lc; ((simp only [h6, h15, h16, h22, h47, h52, h50, q48, if_true, if_false, or_true, or_false, false_or, true_or, zaa, reduceIte, and_true, and_false, true_and, false_and, D9]; simp [B3, h6, h15, h16, h22, h47, h52, h50]; omega))
 rw [e]
 have s53 := s51.nl (ty := 57) ⟨_, _, rfl, rfl⟩
 exact U7 n hn (first / 16) wq48 B i1 i3 hB yq48 (by omega) (B.size + 1) _ yq48 [] .nl _ (by omega) (by omega) (by omega) (by omega) rfl (s53.sel (.cons (.here) (.cons Cn (.cons (.here) .nil))))
 have dh52 := of_decide_eq_false h52
 refine Au h52 ?_
 have e : Dh first B = L5 (first / 16) wq48 [] (Cy (first / 16) B (B.size + 1) yq48 [] []) := by
  simp only [Cs] at h6 h15 h16 h22 h47 h52
  unfold Dh Hs Fl Lc; ((simp only [h6, h15, h16, h22, h47, h52, h50, q48, if_true, if_false, or_true, or_false, false_or, true_or, zaa, reduceIte, and_true, and_false, true_and, false_and, D9]; rfl))
 rw [e]
 have s54 := s51.nl (ty := 57) ⟨_, _, rfl, rfl⟩
 have s55 := s54.nl (ty := 56) ⟨_, _, rfl, rfl⟩
 have s56 := s55.nl (ty := 55) ⟨_, _, rfl, rfl⟩
 exact O4 n hn (first / 16) wq48 B i1 i3 hB [] (B.size + 1) _ yq48 [] [] .nl .nl .nl _ (by omega) (by omega) (by omega) (by (simp only [zaw]; omega)) rfl rfl rfl (s56.sel (.cons (.here) (.cons Cn (.cons (.here) (.cons Cn (.cons (.here) .nil))))))
 refine Ap (nT h50) (Bb (cs := Ek) rfl (B8 (cs' := Ek) s49 Cn (Ah rfl) rfl (Ca rfl) rfl fun H s57 => Aq s57 (.here) rfl (Al (B4 s57 ⟨_, rfl, rfl⟩ (Du (.nl (Du (.nl (G6 (.nl (.sc (.sc (.nl (.nl (.nl .nil))))))))))) (Dv ⟨A9, (Dv ⟨A9, (Hb ⟨A9, (E8 ⟨A9, ⟨A9, ⟨A9, trivial⟩⟩⟩)⟩)⟩)⟩)) ?_)))
 have e : Dh first B = (⟨0, false, 0, false, 0, ⟨#[]⟩, ⟨#[]⟩, ⟨#[]⟩, 0, false, 0, false, ⟨#[]⟩, ⟨#[]⟩, 0, false, false, ⟨#[]⟩, false, ⟨#[]⟩, 0, false, [], [], []⟩ : PacketV) := by
  simp only [Cs] at h6 h15 h16 h22 h47
  unfold Dh Hs Fl Lc; ((simp only [h6, h15, h16, h22, h47, h50, q48, if_true, if_false, or_true, or_false, false_or, true_or, zaa, reduceIte, and_true, and_false, true_and, false_and, D9]; rfl))
 rw [e]
 rfl
 have dh47 := of_decide_eq_false h47
 refine Au h47 (Nl (Ao (c := si (first / 16)) s5 (.here) rfl (Ba (C8 (Aa ((decide ((first / 16) = 9))) (fun h58 => ?_) fun h58 => ?_)))))
 have dh58 := of_decide_eq_true h58
 refine Ap h58 ?_
 have e : Dh first B = L5 (first / 16) 0 (F7 B (B.size + 1) 0 []) (Cy (first / 16) B (B.size + 1) 0 [] []) := by
  clear s0 s2 s4 s5
  simp only [Cs] at h6 h15 h16 h22 h47 h58
  unfold Dh Hs Fl Lc; ((simp only [h6, h15, h16, h22, h47, h58, if_true, if_false, or_true, or_false, false_or, true_or, zaa, reduceIte, and_true, and_false, true_and, false_and, D9]; simp [B3, h6, h15, h16, h22, h47, h58]; omega))
 rw [e]
 have s59 := s5.nl (ty := 57) ⟨_, _, rfl, rfl⟩
 exact U7 n hn (first / 16) 0 B i1 i3 hB 0 (by omega) (B.size + 1) _ 0 [] .nl _ (by omega) (by omega) (by omega) (by omega) rfl (s59.sel (.cons (.here) (.cons Cn (.cons (.here) .nil))))
 have dh58 := of_decide_eq_false h58
 refine Au h58 ?_
 have e : Dh first B = L5 (first / 16) 0 [] (Cy (first / 16) B (B.size + 1) 0 [] []) := by
  clear s0 s2 s4 s5
  simp only [Cs] at h6 h15 h16 h22 h47 h58
  unfold Dh Hs Fl Lc; ((simp only [h6, h15, h16, h22, h47, h58, if_true, if_false, or_true, or_false, false_or, true_or, zaa, reduceIte, and_true, and_false, true_and, false_and, D9]; simp [B3, h6, h15, h16, h22, h47, h58]; omega))
 rw [e]
 have s60 := s5.nl (ty := 57) ⟨_, _, rfl, rfl⟩
 have s61 := s60.nl (ty := 56) ⟨_, _, rfl, rfl⟩
 have s62 := s61.nl (ty := 55) ⟨_, _, rfl, rfl⟩
 exact O4 n hn (first / 16) 0 B i1 i3 hB [] (B.size + 1) _ 0 [] [] .nl .nl .nl _ (by omega) (by omega) (by omega) (by omega) rfl rfl rfl (s62.sel (.cons (.here) (.cons Cn (.cons (.here) (.cons Cn (.cons (.here) .nil))))))
 have dh15 := of_decide_eq_false h15
 refine Ae h15 (Ae h15 (Ae h15 (E1 h15 (Au rfl (Nl (Ao (c := si (first / 16)) s5 (.here) rfl (Ba (Aa ((decide ((first / 16) = 3))) (fun h63 => ?_) fun h63 => ?_))))))))
 have dh63 := of_decide_eq_true h63
 refine Ap h63 (Gm rfl (Eb (Wd (A3 s5 (.here) rfl rfl fun H s64 => T2 2 rfl (by decide) (Gm rfl (Ox (A3 s64 (.here) rfl rfl fun H s65 => Gm rfl (Eb (gf3 (A3 s65 (.here) rfl rfl fun H s66 => ?_))))))))))
 obtain ⟨vq67, yq67, oq67, q67⟩ : ∃ w y o, Bz B 0 = (w, y, o) := ⟨_, _, _, rfl⟩
 have bq67 := Gp q67
 refine D3 s66 rfl (.cons .ro (.cons .sc .nil)) (by have h := K8 (n + 1) (by omega) B 0 (by omega) (by omega); rw [q67] at h; exact h) rfl (Bd (Bd (Bd Dz))) ?_
 rintro _ _ H ⟨_, rfl, ⟨_, rfl, ⟨_, rfl, ⟨rfl, rfl⟩⟩⟩⟩ s68
 simp only [zal] at s68
 refine Bm (v := ss vq67) rfl (Bm (v := si yq67) rfl (Bm (v := sb oq67) rfl (Cr (Aa (oq67) (fun h69 => ?_) fun h69 => ?_))))
 refine Au (nF h69) (gf5 (A3 s68 (.here) rfl rfl fun H s70 => Ox (Ao (c := si (bits .and .i64 (first / 2) 3)) s70 (.here) rfl (Eb (C8 (Aa ((decide (0 < (bits .and .i64 (first / 2) 3)))) (fun h71 => ?_) fun h71 => ?_))))))
 have dh71 := of_decide_eq_true h71
 refine Ap h71 ?_
 obtain ⟨wq72, yq72, oq72, q72⟩ : ∃ w y o, Bn B yq67 = (w, y, o) := ⟨_, _, _, rfl⟩
 have bq72 := Fy q72
 refine D3 s70 rfl (.cons .ro (.cons .sc .nil)) (by have h := Ql (n + 5) (by omega) B yq67 (by omega) (by omega); rw [q72] at h; exact h) rfl (Bd (Bd (Bd Dz))) ?_
 rintro _ _ H ⟨_, rfl, ⟨_, rfl, ⟨_, rfl, ⟨rfl, rfl⟩⟩⟩⟩ s73
 simp only [zal] at s73
 refine Bm (v := si wq72) rfl (Bm (v := si yq72) rfl (Bm (v := sb oq72) rfl (Cr (Aa (oq72) (fun h74 => ?_) fun h74 => ?_))))
 refine Au (nF h74) (Ig (A3 s73 (.here) rfl rfl fun H s75 => Fs yq72 ((B.size : Nat) : Int) rfl rfl (by omega) (by omega) (by omega) ?_))
 have z76 := zao (a := B) (b := yq72.toNat) (e := ((B.size : Nat) : Int).toNat)
 refine Jc s75 (by omega) fun x77 H lx77 s78 => gf6 (A3 s78 Cn lx77 rfl fun H s79 => Aq s79 (.here) rfl (B8 (cs' := [si (first / 16), sb (decide (0 < (bits .and .i64 first 8))), si (bits .and .i64 (first / 2) 3), sb (decide (0 < (bits .and .i64 first 1))), si wq72, ss vq67, x77, sE, i0, bF, i0, bF, sE, .nl, i0, bF, bF, sE, bF, .nl, i0, bF, .nl, .nl, .nl]) s79 C7 (Ah (Ac rfl (Ac rfl (Ac rfl (Ac rfl (Ac rfl (Ac rfl (Ac lx77 rfl)))))))) rfl (Ca rfl) rfl fun H s80 => Aq s80 (.here) rfl (Al (B4 s80 ⟨_, rfl, rfl⟩ (Du (.own C7 (Du (.nl (G6 (.nl (.sc (.sc (.nl (.nl (.nl .nil))))))))))) (Dv ⟨(Bs (Cx (B.extract yq72.toNat ((B.size : Nat) : Int).toNat)) (by decide)), (Dv ⟨A9, (Hb ⟨A9, (E8 ⟨A9, ⟨A9, ⟨A9, trivial⟩⟩⟩)⟩)⟩)⟩)) ?_)))
 have e : Dh first B = (⟨(first / 16), (decide (0 < (bits .and .i64 first 8))), (bits .and .i64 (first / 2) 3), (decide (0 < (bits .and .i64 first 1))), wq72, vq67, (B.extract yq72.toNat ((B.size : Nat) : Int).toNat), ⟨#[]⟩, 0, false, 0, false, ⟨#[]⟩, ⟨#[]⟩, 0, false, false, ⟨#[]⟩, false, ⟨#[]⟩, 0, false, [], [], []⟩ : PacketV) := by
  simp only [Cs] at h6 h15 h63 h71
  unfold Dh Hs Fl Lc; ((simp only [h6, h15, h63, h71, h69, h74, q67, q72, if_true, if_false, or_true, or_false, false_or, true_or, zaa, reduceIte, and_true, and_false, true_and, false_and, D9]; rfl))
 rw [e]
 rfl
 refine Ap (nT h74) (Bb (cs := Ek) rfl (B8 (cs' := Ek) s73 Cn (Ah rfl) rfl (Ca rfl) rfl fun H s81 => Aq s81 (.here) rfl (Al (B4 s81 ⟨_, rfl, rfl⟩ (Du (.nl (Du (.nl (G6 (.nl (.sc (.sc (.nl (.nl (.nl .nil))))))))))) (Dv ⟨A9, (Dv ⟨A9, (Hb ⟨A9, (E8 ⟨A9, ⟨A9, ⟨A9, trivial⟩⟩⟩)⟩)⟩)⟩)) ?_)))
 have e : Dh first B = (⟨0, false, 0, false, 0, ⟨#[]⟩, ⟨#[]⟩, ⟨#[]⟩, 0, false, 0, false, ⟨#[]⟩, ⟨#[]⟩, 0, false, false, ⟨#[]⟩, false, ⟨#[]⟩, 0, false, [], [], []⟩ : PacketV) := by
  simp only [Cs] at h6 h15 h63 h71
  unfold Dh Hs Fl Lc; ((simp only [h6, h15, h63, h71, h69, h74, q67, q72, if_true, if_false, or_true, or_false, false_or, true_or, zaa, reduceIte, and_true, and_false, true_and, false_and, D9]; rfl))
 rw [e]
 rfl
 have dh71 := of_decide_eq_false h71
 refine Au h71 (Fs yq67 ((B.size : Nat) : Int) rfl rfl (by omega) (by omega) (by omega) ?_)
 have z82 := zao (a := B) (b := yq67.toNat) (e := ((B.size : Nat) : Int).toNat)
 refine Jc s70 (by omega) fun x83 H lx83 s84 => gf6 (A3 s84 Cn lx83 rfl fun H s85 => Aq s85 (.here) rfl (B8 (cs' := [si (first / 16), sb (decide (0 < (bits .and .i64 first 8))), si (bits .and .i64 (first / 2) 3), sb (decide (0 < (bits .and .i64 first 1))), i0, ss vq67, x83, sE, i0, bF, i0, bF, sE, .nl, i0, bF, bF, sE, bF, .nl, i0, bF, .nl, .nl, .nl]) s85 C7 (Ah (Ac rfl (Ac rfl (Ac rfl (Ac rfl (Ac rfl (Ac rfl (Ac lx83 rfl)))))))) rfl (Ca rfl) rfl fun H s86 => Aq s86 (.here) rfl (Al (B4 s86 ⟨_, rfl, rfl⟩ (Du (.own C7 (Du (.nl (G6 (.nl (.sc (.sc (.nl (.nl (.nl .nil))))))))))) (Dv ⟨(Bs (Cx (B.extract yq67.toNat ((B.size : Nat) : Int).toNat)) (by decide)), (Dv ⟨A9, (Hb ⟨A9, (E8 ⟨A9, ⟨A9, ⟨A9, trivial⟩⟩⟩)⟩)⟩)⟩)) ?_)))
 have e : Dh first B = (⟨(first / 16), (decide (0 < (bits .and .i64 first 8))), (bits .and .i64 (first / 2) 3), (decide (0 < (bits .and .i64 first 1))), 0, vq67, (B.extract yq67.toNat ((B.size : Nat) : Int).toNat), ⟨#[]⟩, 0, false, 0, false, ⟨#[]⟩, ⟨#[]⟩, 0, false, false, ⟨#[]⟩, false, ⟨#[]⟩, 0, false, [], [], []⟩ : PacketV) := by
  simp only [Cs] at h6 h15 h63 h71
  unfold Dh Hs Fl Lc; ((simp only [h6, h15, h63, h71, h69, q67, if_true, if_false, or_true, or_false, false_or, true_or, zaa, reduceIte, and_true, and_false, true_and, false_and, D9]; rfl))
 rw [e]
 rfl
 refine Ap (nT h69) (Bb (cs := Ek) rfl (B8 (cs' := Ek) s68 Cn (Ah rfl) rfl (Ca rfl) rfl fun H s87 => Aq s87 (.here) rfl (Al (B4 s87 ⟨_, rfl, rfl⟩ (Du (.nl (Du (.nl (G6 (.nl (.sc (.sc (.nl (.nl (.nl .nil))))))))))) (Dv ⟨A9, (Dv ⟨A9, (Hb ⟨A9, (E8 ⟨A9, ⟨A9, ⟨A9, trivial⟩⟩⟩)⟩)⟩)⟩)) ?_)))
 have e : Dh first B = (⟨0, false, 0, false, 0, ⟨#[]⟩, ⟨#[]⟩, ⟨#[]⟩, 0, false, 0, false, ⟨#[]⟩, ⟨#[]⟩, 0, false, false, ⟨#[]⟩, false, ⟨#[]⟩, 0, false, [], [], []⟩ : PacketV) := by
  simp only [Cs] at h6 h15 h63
  unfold Dh Hs Fl Lc; ((simp only [h6, h15, h63, h69, q67, if_true, if_false, or_true, or_false, false_or, true_or, zaa, reduceIte, and_true, and_false, true_and, false_and, D9]; rfl))
 rw [e]
 rfl
 have dh63 := of_decide_eq_false h63
 refine Au h63 (Nl (Ao (c := si (first / 16)) s5 (.here) rfl (Di (C8 (Aa ((decide ((first / 16) < 12))) (fun h88 => ?_) fun h88 => ?_)))))
 have dh88 := of_decide_eq_true h88
 refine Ap h88 ?_
 obtain ⟨wq89, yq89, oq89, q89⟩ : ∃ w y o, Bn B 0 = (w, y, o) := ⟨_, _, _, rfl⟩
 have bq89 := Fy q89
 refine D3 s5 rfl (.cons .ro (.cons .sc .nil)) (by have h := Ql (n + 5) (by omega) B 0 (by omega) (by omega); rw [q89] at h; exact h) rfl (Bd (Bd (Bd Dz))) ?_
 rintro _ _ H ⟨_, rfl, ⟨_, rfl, ⟨_, rfl, ⟨rfl, rfl⟩⟩⟩⟩ s90
 simp only [zal] at s90
 refine Bm (v := si wq89) rfl (Bm (v := si yq89) rfl (Bm (v := sb oq89) rfl (Cr (Aa (oq89) (fun h91 => ?_) fun h91 => ?_))))
 refine Au (nF h91) (Ig (A3 s90 (.here) rfl rfl fun H s92 => Nl (Ao (c := si (first / 16)) s92 (.here) rfl (Ba (C8 (Aa ((decide ((first / 16) = 9))) (fun h93 => ?_) fun h93 => ?_))))))
 have dh93 := of_decide_eq_true h93
 refine Ap h93 ?_
 have e : Dh first B = L5 (first / 16) wq89 (F7 B (B.size + 1) yq89 []) (Cy (first / 16) B (B.size + 1) yq89 [] []) := by
  simp only [Cs] at h6 h15 h63 h88 h93
  unfold Dh Hs Fl Lc; ((simp only [h6, h15, h63, h88, h93, h91, q89, if_true, if_false, or_true, or_false, false_or, true_or, zaa, reduceIte, and_true, and_false, true_and, false_and, D9]; rfl))
 rw [e]
 have s94 := s92.nl (ty := 57) ⟨_, _, rfl, rfl⟩
 exact U7 n hn (first / 16) wq89 B i1 i3 hB yq89 (by omega) (B.size + 1) _ yq89 [] .nl _ (by omega) (by omega) (by omega) (by (simp only [zaw]; omega)) rfl (s94.sel (.cons (.here) (.cons Cn (.cons (.here) .nil))))
 have dh93 := of_decide_eq_false h93
 refine Au h93 ?_
 have e : Dh first B = L5 (first / 16) wq89 [] (Cy (first / 16) B (B.size + 1) yq89 [] []) := by
  simp only [Cs] at h6 h15 h63 h88 h93
  unfold Dh Hs Fl Lc; ((simp only [h6, h15, h63, h88, h93, h91, q89, if_true, if_false, or_true, or_false, false_or, true_or, zaa, reduceIte, and_true, and_false, true_and, false_and, D9]; done))
 rw [e]
 have s95 := s92.nl (ty := 57) ⟨_, _, rfl, rfl⟩
 have s96 := s95.nl (ty := 56) ⟨_, _, rfl, rfl⟩
 have s97 := s96.nl (ty := 55) ⟨_, _, rfl, rfl⟩
 exact O4 n hn (first / 16) wq89 B i1 i3 hB [] (B.size + 1) _ yq89 [] [] .nl .nl .nl _ (by omega) (by omega) (by omega) (by (simp only [zaw]; omega)) rfl rfl rfl (s97.sel (.cons (.here) (.cons Cn (.cons (.here) (.cons Cn (.cons (.here) .nil))))))
 refine Ap (nT h91) (Bb (cs := Ek) rfl (B8 (cs' := Ek) s90 Cn (Ah rfl) rfl (Ca rfl) rfl fun H s98 => Aq s98 (.here) rfl (Al (B4 s98 ⟨_, rfl, rfl⟩ (Du (.nl (Du (.nl (G6 (.nl (.sc (.sc (.nl (.nl (.nl .nil))))))))))) (Dv ⟨A9, (Dv ⟨A9, (Hb ⟨A9, (E8 ⟨A9, ⟨A9, ⟨A9, trivial⟩⟩⟩)⟩)⟩)⟩)) ?_)))
 have e : Dh first B = (⟨0, false, 0, false, 0, ⟨#[]⟩, ⟨#[]⟩, ⟨#[]⟩, 0, false, 0, false, ⟨#[]⟩, ⟨#[]⟩, 0, false, false, ⟨#[]⟩, false, ⟨#[]⟩, 0, false, [], [], []⟩ : PacketV) := by
  simp only [Cs] at h6 h15 h63 h88
  unfold Dh Hs Fl Lc; ((simp only [h6, h15, h63, h88, h91, q89, if_true, if_false, or_true, or_false, false_or, true_or, zaa, reduceIte, and_true, and_false, true_and, false_and, D9]; rfl))
 rw [e]
 rfl
 have dh88 := of_decide_eq_false h88
 refine Au h88 (Nl (Ao (c := si (first / 16)) s5 (.here) rfl (Ba (C8 (Aa ((decide ((first / 16) = 9))) (fun h99 => ?_) fun h99 => ?_)))))
 have dh99 := of_decide_eq_true h99
 refine Ap h99 ?_
 have e : Dh first B = L5 (first / 16) 0 (F7 B (B.size + 1) 0 []) (Cy (first / 16) B (B.size + 1) 0 [] []) := by
  clear s0 s2 s4 s5
  simp only [Cs] at h6 h15 h63 h88 h99
  unfold Dh Hs Fl Lc; ((simp only [h6, h15, h63, h88, h99, if_true, if_false, or_true, or_false, false_or, true_or, zaa, reduceIte, and_true, and_false, true_and, false_and, D9]; simp [B3, h6, h15, h63, h88, h99]; omega))
 rw [e]
 have s100 := s5.nl (ty := 57) ⟨_, _, rfl, rfl⟩
 exact U7 n hn (first / 16) 0 B i1 i3 hB 0 (by omega) (B.size + 1) _ 0 [] .nl _ (by omega) (by omega) (by omega) (by omega) rfl (s100.sel (.cons (.here) (.cons Cn (.cons (.here) .nil))))
 have dh99 := of_decide_eq_false h99
 refine Au h99 ?_
 have e : Dh first B = L5 (first / 16) 0 [] (Cy (first / 16) B (B.size + 1) 0 [] []) := by
  simp only [Cs] at h6 h15 h63 h88 h99
  unfold Dh Hs Fl Lc; ((simp only [h6, h15, h63, h88, h99, if_true, if_false, or_true, or_false, false_or, true_or, zaa, reduceIte, and_true, and_false, true_and, false_and, D9]; done))
 rw [e]
 have s101 := s5.nl (ty := 57) ⟨_, _, rfl, rfl⟩
 have s102 := s101.nl (ty := 56) ⟨_, _, rfl, rfl⟩
 have s103 := s102.nl (ty := 55) ⟨_, _, rfl, rfl⟩
 exact O4 n hn (first / 16) 0 B i1 i3 hB [] (B.size + 1) _ 0 [] [] .nl .nl .nl _ (by omega) (by omega) (by omega) (by (simp only [zaw]; omega)) rfl rfl rfl (s103.sel (.cons (.here) (.cons Cn (.cons (.here) (.cons Cn (.cons (.here) .nil))))))
end
section
open Go
def Ep (p : PacketV) (B : ByteArray) (e : Int) : PacketV × Int × Int :=
 if !Am p || !((Fv p).toList == (B.extract (0 : Int).toNat e.toNat).toList) then (B3 0, 0, 2) else (p, e, 0)
def Er (rd : Int → ByteArray → PacketV) (B : ByteArray) (r : Int × Int × Int) : PacketV × Int × Int :=
 if !decide (r.2.2 = 0) then (B3 0, 0, r.2.2)
 else if decide (340 < r.1) then (B3 0, 0, 2)
 else if decide (((B.size : Nat) : Int) - r.2.1 < r.1) then (B3 0, 0, 1)
 else Ep (rd (A2 B 0) (B.extract r.2.1.toNat (r.2.1 + r.1).toNat)) B (r.2.1 + r.1)
def E3 (rd : Int → ByteArray → PacketV) (B : ByteArray) : PacketV × Int × Int :=
 if decide (((B.size : Nat) : Int) = 0) then (B3 0, 0, 1)
 else if !Dx (A2 B 0) then (B3 0, 0, 2)
 else Er rd B (Cv B 1)
theorem AgT (n : Nat) (hn : 1048576 < n) (B : ByteArray) (hB : B.size ≤ 2097152) : C0 E0 (n + 13) 60 33 [Ad B] = some (.tup [.agg (An (E3 Dk B).1), .sc (.int .i64 (E3 Dk B).2.1), .sc (.int .i64 (E3 Dk B).2.2)]) := by
 rw [A7, AkW, f33]
 refine Cm (G := (· = some (.tup [.agg (An (E3 Dk B).1), .sc (.int .i64 (E3 Dk B).2.1), .sc (.int .i64 (E3 Dk B).2.2)]))) ?_
 try simp only [Fa, E9]
 have s0 : Sep [] [] := Ch
 refine Ie s0 fun i1 H s2 => Cu (Ba (Aa ((decide (((B.size : Nat) : Int) = 0))) (fun h3 => ?_) fun h3 => ?_))
 have dh3 := of_decide_eq_true h3
 refine Ap h3 (Bb (cs := Ek) rfl (B8 (cs' := Ek) s2 (.here) (Ah rfl) rfl (Ca rfl) rfl fun H s4 => Aq s4 (.here) rfl (Al (B0 s4 rfl (.agg ⟨_, rfl, rfl⟩ (Du (.nl (Du (.nl (G6 (.nl (.sc (.sc (.nl (.nl (.nl .nil))))))))))) (.sc (.sc .nil))) ⟨(L7 ⟨_, rfl, rfl⟩ (Dv ⟨A9, (Dv ⟨A9, (Hb ⟨A9, (E8 ⟨A9, ⟨A9, ⟨A9, trivial⟩⟩⟩)⟩)⟩)⟩)), (E8 trivial)⟩) ?_)))
 have e : E3 Dk B = ((B3 0), 0, 1) := by
  unfold E3 Er Ep; simp only [h3, if_true, if_false, zaa, reduceIte, D9]
 rw [e]
 rfl
 have dh3 := of_decide_eq_false h3
 refine Au h3 ?_
 have w5 := D0 B 0
 refine Gn (by omega) (by omega) fun _ => E5 (c := su (A2 B 0)) rfl (Kr (by omega) (by omega) (Ar (v := (.bool (Dx (A2 B 0)))) s2 rfl (.cons .sc .nil) (AbU (n + 10) (by omega) (A2 B 0) (by omega)) (Cr (Aa ((Dx (A2 B 0))) (fun h6 => ?_) fun h6 => ?_))))
 refine Au (nF h6) ?_
 obtain ⟨nq7, yq7, cq7, q7⟩ : ∃ w y o, Cv B 1 = (w, y, o) := ⟨_, _, _, rfl⟩
 have bq7 := Oi (B := B) (a := 1)
 rw [q7] at bq7
 dsimp only at bq7
 refine D3 s2 rfl (.cons .ro (.cons .sc .nil)) (by have h := Ajj (n + 10) (by omega) B 1 (by omega) (by omega); rw [q7] at h; exact h) rfl (Bd (Bd (Bd Dz))) ?_
 rintro _ _ H ⟨_, rfl, ⟨_, rfl, ⟨_, rfl, ⟨rfl, rfl⟩⟩⟩⟩ s8
 simp only [zal] at s8
 refine Bm (v := si nq7) rfl (Bm (v := si yq7) rfl (Bm (v := si cq7) rfl (Ks (Aa ((decide (cq7 = 0))) (fun h9 => ?_) fun h9 => ?_))))
 have dh9 := of_decide_eq_true h9
 replace bq7 := bq7 (of_decide_eq_true h9)
 refine Au (nF h9) (Eb (Aa ((decide (340 < nq7))) (fun h10 => ?_) fun h10 => ?_))
 have dh10 := of_decide_eq_true h10
 refine Ap h10 (Bb (cs := Ek) rfl (B8 (cs' := Ek) s8 (.here) (Ah rfl) rfl (Ca rfl) rfl fun H s11 => Aq s11 (.here) rfl (Al (B0 s11 rfl (.agg ⟨_, rfl, rfl⟩ (Du (.nl (Du (.nl (G6 (.nl (.sc (.sc (.nl (.nl (.nl .nil))))))))))) (.sc (.sc .nil))) ⟨(L7 ⟨_, rfl, rfl⟩ (Dv ⟨A9, (Dv ⟨A9, (Hb ⟨A9, (E8 ⟨A9, ⟨A9, ⟨A9, trivial⟩⟩⟩)⟩)⟩)⟩)), (E8 trivial)⟩) ?_)))
 have e : E3 Dk B = ((B3 0), 0, 2) := by
  unfold E3 Er Ep; simp only [h3, h6, h9, h10, q7, if_true, if_false, zaa, reduceIte, D9]
 rw [e]
 rfl
 have dh10 := of_decide_eq_false h10
 refine Au h10 (Cu (Pf (by omega) (by omega) (Eb (Aa ((decide ((((B.size : Nat) : Int) - yq7) < nq7))) (fun h12 => ?_) fun h12 => ?_))))
 have dh12 := of_decide_eq_true h12
 refine Ap h12 (Bb (cs := Ek) rfl (B8 (cs' := Ek) s8 (.here) (Ah rfl) rfl (Ca rfl) rfl fun H s13 => Aq s13 (.here) rfl (Al (B0 s13 rfl (.agg ⟨_, rfl, rfl⟩ (Du (.nl (Du (.nl (G6 (.nl (.sc (.sc (.nl (.nl (.nl .nil))))))))))) (.sc (.sc .nil))) ⟨(L7 ⟨_, rfl, rfl⟩ (Dv ⟨A9, (Dv ⟨A9, (Hb ⟨A9, (E8 ⟨A9, ⟨A9, ⟨A9, trivial⟩⟩⟩)⟩)⟩)⟩)), (E8 trivial)⟩) ?_)))
 have e : E3 Dk B = ((B3 0), 0, 1) := by
  unfold E3 Er Ep; simp only [h3, h6, h9, h10, h12, q7, if_true, if_false, zaa, reduceIte, D9]
 rw [e]
 rfl
 have dh12 := of_decide_eq_false h12
 refine Au h12 ?_
 have w14 := D0 B 0
 refine Gn (by omega) (by omega) fun _ => E5 (c := su (A2 B 0)) rfl (Kr (by omega) (by omega) (Bw (by omega) (by omega) (Fs yq7 (yq7 + nq7) rfl rfl (by omega) (by omega) (by omega) ?_)))
 have z15 := zao (a := B) (b := yq7.toNat) (e := (yq7 + nq7).toNat)
 refine C8 (Gd.bothE ?_ ?_)
 have hR : (B.extract yq7.toNat (yq7 + nq7).toNat).size ≤ 340 := by rw [zao]; omega
 have hbd := Ak5 (A2 B 0) (B.extract yq7.toNat (yq7 + nq7).toNat) hR
 have hyp := hbd.hyp (by decide)
 refine Rx s8 rfl (.cons .sc (.cons .ro .nil)) (Ak9 (n + 1) (by omega) (A2 B 0) (B.extract yq7.toNat (yq7 + nq7).toNat) (by omega) (by omega)) ⟨_, rfl, rfl⟩ (J3 _) ?_
 rintro _ _ H ⟨x16, x17, x18, x19, x20, x21, lx16, lx17, lx18, lx19, lx20, lx21, rfl, rfl⟩ s22
 simp only [zal, zau] at s22
 refine Ie s22 fun i23 H s24 => B8 (cs' := [si ((Dk (A2 B 0) (B.extract yq7.toNat (yq7 + nq7).toNat)).fType), .sc (.bool (Dk (A2 B 0) (B.extract yq7.toNat (yq7 + nq7).toNat)).fDup), si ((Dk (A2 B 0) (B.extract yq7.toNat (yq7 + nq7).toNat)).fQos), .sc (.bool (Dk (A2 B 0) (B.extract yq7.toNat (yq7 + nq7).toNat)).fRetain), si ((Dk (A2 B 0) (B.extract yq7.toNat (yq7 + nq7).toNat)).fId), ss ((Dk (A2 B 0) (B.extract yq7.toNat (yq7 + nq7).toNat)).fTopic), x16, ss ((Dk (A2 B 0) (B.extract yq7.toNat (yq7 + nq7).toNat)).fClient), si ((Dk (A2 B 0) (B.extract yq7.toNat (yq7 + nq7).toNat)).fLevel), .sc (.bool (Dk (A2 B 0) (B.extract yq7.toNat (yq7 + nq7).toNat)).fClean), si ((Dk (A2 B 0) (B.extract yq7.toNat (yq7 + nq7).toNat)).fKeep), .sc (.bool (Dk (A2 B 0) (B.extract yq7.toNat (yq7 + nq7).toNat)).fHasWill), ss ((Dk (A2 B 0) (B.extract yq7.toNat (yq7 + nq7).toNat)).fWTopic), x17, si ((Dk (A2 B 0) (B.extract yq7.toNat (yq7 + nq7).toNat)).fWQos), .sc (.bool (Dk (A2 B 0) (B.extract yq7.toNat (yq7 + nq7).toNat)).fWRetain), .sc (.bool (Dk (A2 B 0) (B.extract yq7.toNat (yq7 + nq7).toNat)).fHasUser), ss ((Dk (A2 B 0) (B.extract yq7.toNat (yq7 + nq7).toNat)).fUser), .sc (.bool (Dk (A2 B 0) (B.extract yq7.toNat (yq7 + nq7).toNat)).fHasPass), x18, si ((Dk (A2 B 0) (B.extract yq7.toNat (yq7 + nq7).toNat)).fCode), .sc (.bool (Dk (A2 B 0) (B.extract yq7.toNat (yq7 + nq7).toNat)).fPresent), x19, x20, x21]) s24 (.here) (Ah (Ac rfl (Ac rfl (Ac rfl (Ac rfl (Ac rfl (Ac rfl (Ac lx16 (Ac rfl (Ac rfl (Ac rfl (Ac rfl (Ac rfl (Ac rfl (Ac lx17 (Ac rfl (Ac rfl (Ac rfl (Ac rfl (Ac rfl (Ac lx18 (Ac rfl (Ac rfl (Ac lx19 (Ac lx20 (Ac lx21 rfl)))))))))))))))))))))))))) rfl (Ca rfl) rfl fun H s25 => Aq s25 (.here) rfl ?_
 refine Ar (v := (.bool (Am (Dk (A2 B 0) (B.extract yq7.toNat (yq7 + nq7).toNat))))) s25 rfl (.agg (Gf (.cons (.own (by decide) Yb) (Gf (.cons (.own (by decide) Uz) (L8 (.cons (.own (by decide) Ma) (Im (.cons (.own (by decide) L9) (.cons (.own (by decide) C7) (.cons (.own (by decide) Cn) .nil)))))))))) .nil) (S7 (n + 2) (by omega) (Dk (A2 B 0) (B.extract yq7.toNat (yq7 + nq7).toNat)) hyp) (Cr (Aa ((Am (Dk (A2 B 0) (B.extract yq7.toNat (yq7 + nq7).toNat)))) (fun h26 => ?_) fun h26 => ?_))
 refine Af (nF h26) (Aq s25 (.here) rfl (Af (nF h26) (Af (nF h26) (Af (nF h26) (Af (nF h26) (Bw (by omega) (by omega) (Af (nF h26) (Fs 0 (yq7 + nq7) rfl rfl (by omega) (by omega) (by omega) ?_))))))))
 have z27 := zao (a := B) (b := (0 : Int).toNat) (e := (yq7 + nq7).toNat)
 refine Af (nF h26) (B7 s25 rfl (.agg (Gf (.cons (.own (by decide) Yb) (Gf (.cons (.own (by decide) Uz) (L8 (.cons (.own (by decide) Ma) (Im (.cons (.own (by decide) L9) (.cons (.own (by decide) C7) (.cons (.own (by decide) Cn) .nil)))))))))) .nil) (AaD (n + 1) (by omega) (Dk (A2 B 0) (B.extract yq7.toNat (yq7 + nq7).toNat)) hyp (za5 hbd.b1 (by decide)) (za5 hbd.b2 (by decide)) (za5 hbd.b3 (by decide))) (Cx (Fv (Dk (A2 B 0) (B.extract yq7.toNat (yq7 + nq7).toNat)))) fun x28 H lx28 s29 => Af (nF h26) (Ar (v := (.bool ((Fv (Dk (A2 B 0) (B.extract yq7.toNat (yq7 + nq7).toNat))).toList == (B.extract (0 : Int).toNat (yq7 + nq7).toNat).toList))) s29 rfl (.cons (.own (by decide) (.here)) (.cons .ro .nil)) (Kd (n + 11) _ (Fv (Dk (A2 B 0) (B.extract yq7.toNat (yq7 + nq7).toNat))) (B.extract (0 : Int).toNat (yq7 + nq7).toNat)) (Af (nF h26) (Cr (E1 (nF h26) (Aa (((Fv (Dk (A2 B 0) (B.extract yq7.toNat (yq7 + nq7).toNat))).toList == (B.extract (0 : Int).toNat (yq7 + nq7).toNat).toList)) (fun h30 => ?_) fun h30 => ?_))))))
 refine Au (nF h30) (Aq s29 Cn rfl (Bw (by omega) (by omega) (B8 (cs' := [si ((Dk (A2 B 0) (B.extract yq7.toNat (yq7 + nq7).toNat)).fType), .sc (.bool (Dk (A2 B 0) (B.extract yq7.toNat (yq7 + nq7).toNat)).fDup), si ((Dk (A2 B 0) (B.extract yq7.toNat (yq7 + nq7).toNat)).fQos), .sc (.bool (Dk (A2 B 0) (B.extract yq7.toNat (yq7 + nq7).toNat)).fRetain), si ((Dk (A2 B 0) (B.extract yq7.toNat (yq7 + nq7).toNat)).fId), ss ((Dk (A2 B 0) (B.extract yq7.toNat (yq7 + nq7).toNat)).fTopic), x16, ss ((Dk (A2 B 0) (B.extract yq7.toNat (yq7 + nq7).toNat)).fClient), si ((Dk (A2 B 0) (B.extract yq7.toNat (yq7 + nq7).toNat)).fLevel), .sc (.bool (Dk (A2 B 0) (B.extract yq7.toNat (yq7 + nq7).toNat)).fClean), si ((Dk (A2 B 0) (B.extract yq7.toNat (yq7 + nq7).toNat)).fKeep), .sc (.bool (Dk (A2 B 0) (B.extract yq7.toNat (yq7 + nq7).toNat)).fHasWill), ss ((Dk (A2 B 0) (B.extract yq7.toNat (yq7 + nq7).toNat)).fWTopic), x17, si ((Dk (A2 B 0) (B.extract yq7.toNat (yq7 + nq7).toNat)).fWQos), .sc (.bool (Dk (A2 B 0) (B.extract yq7.toNat (yq7 + nq7).toNat)).fWRetain), .sc (.bool (Dk (A2 B 0) (B.extract yq7.toNat (yq7 + nq7).toNat)).fHasUser), ss ((Dk (A2 B 0) (B.extract yq7.toNat (yq7 + nq7).toNat)).fUser), .sc (.bool (Dk (A2 B 0) (B.extract yq7.toNat (yq7 + nq7).toNat)).fHasPass), x18, si ((Dk (A2 B 0) (B.extract yq7.toNat (yq7 + nq7).toNat)).fCode), .sc (.bool (Dk (A2 B 0) (B.extract yq7.toNat (yq7 + nq7).toNat)).fPresent), x19, x20, x21]) s29 zP8 (Ah (Ac rfl (Ac rfl (Ac rfl (Ac rfl (Ac rfl (Ac rfl (Ac lx16 (Ac rfl (Ac rfl (Ac rfl (Ac rfl (Ac rfl (Ac rfl (Ac lx17 (Ac rfl (Ac rfl (Ac rfl (Ac rfl (Ac rfl (Ac lx18 (Ac rfl (Ac rfl (Ac lx19 (Ac lx20 (Ac lx21 rfl)))))))))))))))))))))))))) rfl (Ca rfl) rfl fun H s31 => Aq s31 (.here) rfl ?_)))
 refine Al (B0 s31 rfl (.agg ⟨_, rfl, rfl⟩ (Du (.own zP8 (Du (.own zP7 (G6 (.own Yb (.sc (.sc (.own Uz (.own Ma (.own L9 .nil))))))))))) (.sc (.sc .nil))) ⟨(L7 ⟨_, rfl, rfl⟩ (Dv ⟨(Bs (Cx ((Dk (A2 B 0) (B.extract yq7.toNat (yq7 + nq7).toNat)).fBody)) (by decide)), (Dv ⟨(Bs (Cx ((Dk (A2 B 0) (B.extract yq7.toNat (yq7 + nq7).toNat)).fWBody)) (by decide)), (Hb ⟨(Bs (Cx ((Dk (A2 B 0) (B.extract yq7.toNat (yq7 + nq7).toNat)).fPass)) (by decide)), (E8 ⟨(Bs (K6 ((Dk (A2 B 0) (B.extract yq7.toNat (yq7 + nq7).toNat)).fWants)) (by decide)), ⟨(Bs (Wy ((Dk (A2 B 0) (B.extract yq7.toNat (yq7 + nq7).toNat)).fNames)) (by decide)), ⟨(Bs (Z3 ((Dk (A2 B 0) (B.extract yq7.toNat (yq7 + nq7).toNat)).fCodes)) (by decide)), trivial⟩⟩⟩)⟩)⟩)⟩)), (E8 trivial)⟩) ?_
 have e : E3 Dk B = ((Dk (A2 B 0) (B.extract yq7.toNat (yq7 + nq7).toNat)), (yq7 + nq7), 0) := by
  unfold E3 Er Ep; simp only [h3, h6, h9, h10, h12, h26, h30, q7, if_true, if_false, zaa, reduceIte, D9]
 rw [e]
 rfl
 refine Ap (nT h30) (Bb (cs := Ek) rfl (B8 (cs' := Ek) s29 zP8 (Ah rfl) rfl (Ca rfl) rfl fun H s32 => Aq s32 (.here) rfl (Al (B0 s32 rfl (.agg ⟨_, rfl, rfl⟩ (Du (.nl (Du (.nl (G6 (.nl (.sc (.sc (.nl (.nl (.nl .nil))))))))))) (.sc (.sc .nil))) ⟨(L7 ⟨_, rfl, rfl⟩ (Dv ⟨A9, (Dv ⟨A9, (Hb ⟨A9, (E8 ⟨A9, ⟨A9, ⟨A9, trivial⟩⟩⟩)⟩)⟩)⟩)), (E8 trivial)⟩) ?_)))
 have e : E3 Dk B = ((B3 0), 0, 2) := by
  unfold E3 Er Ep; simp only [h3, h6, h9, h10, h12, h26, h30, q7, if_true, if_false, zaa, reduceIte, D9]
 rw [e]
 rfl
 refine Ae (nT h26) (Ae (nT h26) (Ae (nT h26) (Ae (nT h26) (Ae (nT h26) (Ae (nT h26) (Ae (nT h26) (Ae (nT h26) (Ae (nT h26) (E2 (nT h26) (Ap rfl (Bb (cs := Ek) rfl (B8 (cs' := Ek) s25 zP7 (Ah rfl) rfl (Ca rfl) rfl fun H s33 => Aq s33 (.here) rfl (Al (B0 s33 rfl (.agg ⟨_, rfl, rfl⟩ (Du (.nl (Du (.nl (G6 (.nl (.sc (.sc (.nl (.nl (.nl .nil))))))))))) (.sc (.sc .nil))) ⟨(L7 ⟨_, rfl, rfl⟩ (Dv ⟨A9, (Dv ⟨A9, (Hb ⟨A9, (E8 ⟨A9, ⟨A9, ⟨A9, trivial⟩⟩⟩)⟩)⟩)⟩)), (E8 trivial)⟩) ?_)))))))))))))
 have e : E3 Dk B = ((B3 0), 0, 2) := by
  unfold E3 Er Ep; simp only [h3, h6, h9, h10, h12, h26, q7, if_true, if_false, zaa, reduceIte, D9]
 rw [e]
 rfl
 refine Ie s8 fun i34 H s35 => ?_
 have hR : (B.extract yq7.toNat (yq7 + nq7).toNat).size ≤ 340 := by rw [zao]; omega
 have hbd := Ak5 (A2 B 0) (B.extract yq7.toNat (yq7 + nq7).toNat) hR
 have hyp := hbd.hyp (by decide)
 refine Rx s35 rfl (.cons .sc (.cons .ro .nil)) (Ak9 (n + 1) (by omega) (A2 B 0) (B.extract yq7.toNat (yq7 + nq7).toNat) (by omega) (by omega)) ⟨_, rfl, rfl⟩ (J3 _) ?_
 rintro _ _ H ⟨x36, x37, x38, x39, x40, x41, lx36, lx37, lx38, lx39, lx40, lx41, rfl, rfl⟩ s42
 simp only [zal, zau] at s42
 refine B8 (cs' := [si ((Dk (A2 B 0) (B.extract yq7.toNat (yq7 + nq7).toNat)).fType), .sc (.bool (Dk (A2 B 0) (B.extract yq7.toNat (yq7 + nq7).toNat)).fDup), si ((Dk (A2 B 0) (B.extract yq7.toNat (yq7 + nq7).toNat)).fQos), .sc (.bool (Dk (A2 B 0) (B.extract yq7.toNat (yq7 + nq7).toNat)).fRetain), si ((Dk (A2 B 0) (B.extract yq7.toNat (yq7 + nq7).toNat)).fId), ss ((Dk (A2 B 0) (B.extract yq7.toNat (yq7 + nq7).toNat)).fTopic), x36, ss ((Dk (A2 B 0) (B.extract yq7.toNat (yq7 + nq7).toNat)).fClient), si ((Dk (A2 B 0) (B.extract yq7.toNat (yq7 + nq7).toNat)).fLevel), .sc (.bool (Dk (A2 B 0) (B.extract yq7.toNat (yq7 + nq7).toNat)).fClean), si ((Dk (A2 B 0) (B.extract yq7.toNat (yq7 + nq7).toNat)).fKeep), .sc (.bool (Dk (A2 B 0) (B.extract yq7.toNat (yq7 + nq7).toNat)).fHasWill), ss ((Dk (A2 B 0) (B.extract yq7.toNat (yq7 + nq7).toNat)).fWTopic), x37, si ((Dk (A2 B 0) (B.extract yq7.toNat (yq7 + nq7).toNat)).fWQos), .sc (.bool (Dk (A2 B 0) (B.extract yq7.toNat (yq7 + nq7).toNat)).fWRetain), .sc (.bool (Dk (A2 B 0) (B.extract yq7.toNat (yq7 + nq7).toNat)).fHasUser), ss ((Dk (A2 B 0) (B.extract yq7.toNat (yq7 + nq7).toNat)).fUser), .sc (.bool (Dk (A2 B 0) (B.extract yq7.toNat (yq7 + nq7).toNat)).fHasPass), x38, si ((Dk (A2 B 0) (B.extract yq7.toNat (yq7 + nq7).toNat)).fCode), .sc (.bool (Dk (A2 B 0) (B.extract yq7.toNat (yq7 + nq7).toNat)).fPresent), x39, x40, x41]) s42 Yb (Ah (Ac rfl (Ac rfl (Ac rfl (Ac rfl (Ac rfl (Ac rfl (Ac lx36 (Ac rfl (Ac rfl (Ac rfl (Ac rfl (Ac rfl (Ac rfl (Ac lx37 (Ac rfl (Ac rfl (Ac rfl (Ac rfl (Ac rfl (Ac lx38 (Ac rfl (Ac rfl (Ac lx39 (Ac lx40 (Ac lx41 rfl)))))))))))))))))))))))))) rfl (Ca rfl) rfl fun H s43 => Aq s43 (.here) rfl ?_
 refine Ar (v := (.bool (Am (Dk (A2 B 0) (B.extract yq7.toNat (yq7 + nq7).toNat))))) s43 rfl (.agg (Gf (.cons (.own (by decide) Yb) (Gf (.cons (.own (by decide) Uz) (L8 (.cons (.own (by decide) Ma) (Im (.cons (.own (by decide) L9) (.cons (.own (by decide) C7) (.cons (.own (by decide) Cn) .nil)))))))))) .nil) (S7 (n + 2) (by omega) (Dk (A2 B 0) (B.extract yq7.toNat (yq7 + nq7).toNat)) hyp) (Cr (Aa ((Am (Dk (A2 B 0) (B.extract yq7.toNat (yq7 + nq7).toNat)))) (fun h44 => ?_) fun h44 => ?_))
 refine Af (nF h44) (Aq s43 (.here) rfl (Af (nF h44) (Af (nF h44) (Af (nF h44) (Af (nF h44) (Bw (by omega) (by omega) (Af (nF h44) (Fs 0 (yq7 + nq7) rfl rfl (by omega) (by omega) (by omega) ?_))))))))
 have z45 := zao (a := B) (b := (0 : Int).toNat) (e := (yq7 + nq7).toNat)
 refine Af (nF h44) (B7 s43 rfl (.agg (Gf (.cons (.own (by decide) Yb) (Gf (.cons (.own (by decide) Uz) (L8 (.cons (.own (by decide) Ma) (Im (.cons (.own (by decide) L9) (.cons (.own (by decide) C7) (.cons (.own (by decide) Cn) .nil)))))))))) .nil) (AaD (n + 1) (by omega) (Dk (A2 B 0) (B.extract yq7.toNat (yq7 + nq7).toNat)) hyp (za5 hbd.b1 (by decide)) (za5 hbd.b2 (by decide)) (za5 hbd.b3 (by decide))) (Cx (Fv (Dk (A2 B 0) (B.extract yq7.toNat (yq7 + nq7).toNat)))) fun x46 H lx46 s47 => Af (nF h44) (Ar (v := (.bool ((Fv (Dk (A2 B 0) (B.extract yq7.toNat (yq7 + nq7).toNat))).toList == (B.extract (0 : Int).toNat (yq7 + nq7).toNat).toList))) s47 rfl (.cons (.own (by decide) (.here)) (.cons .ro .nil)) (Kd (n + 11) _ (Fv (Dk (A2 B 0) (B.extract yq7.toNat (yq7 + nq7).toNat))) (B.extract (0 : Int).toNat (yq7 + nq7).toNat)) (Af (nF h44) (Cr (E1 (nF h44) (Aa (((Fv (Dk (A2 B 0) (B.extract yq7.toNat (yq7 + nq7).toNat))).toList == (B.extract (0 : Int).toNat (yq7 + nq7).toNat).toList)) (fun h48 => ?_) fun h48 => ?_))))))
 refine Au (nF h48) (Aq s47 Cn rfl (Bw (by omega) (by omega) (B8 (cs' := [si ((Dk (A2 B 0) (B.extract yq7.toNat (yq7 + nq7).toNat)).fType), .sc (.bool (Dk (A2 B 0) (B.extract yq7.toNat (yq7 + nq7).toNat)).fDup), si ((Dk (A2 B 0) (B.extract yq7.toNat (yq7 + nq7).toNat)).fQos), .sc (.bool (Dk (A2 B 0) (B.extract yq7.toNat (yq7 + nq7).toNat)).fRetain), si ((Dk (A2 B 0) (B.extract yq7.toNat (yq7 + nq7).toNat)).fId), ss ((Dk (A2 B 0) (B.extract yq7.toNat (yq7 + nq7).toNat)).fTopic), x36, ss ((Dk (A2 B 0) (B.extract yq7.toNat (yq7 + nq7).toNat)).fClient), si ((Dk (A2 B 0) (B.extract yq7.toNat (yq7 + nq7).toNat)).fLevel), .sc (.bool (Dk (A2 B 0) (B.extract yq7.toNat (yq7 + nq7).toNat)).fClean), si ((Dk (A2 B 0) (B.extract yq7.toNat (yq7 + nq7).toNat)).fKeep), .sc (.bool (Dk (A2 B 0) (B.extract yq7.toNat (yq7 + nq7).toNat)).fHasWill), ss ((Dk (A2 B 0) (B.extract yq7.toNat (yq7 + nq7).toNat)).fWTopic), x37, si ((Dk (A2 B 0) (B.extract yq7.toNat (yq7 + nq7).toNat)).fWQos), .sc (.bool (Dk (A2 B 0) (B.extract yq7.toNat (yq7 + nq7).toNat)).fWRetain), .sc (.bool (Dk (A2 B 0) (B.extract yq7.toNat (yq7 + nq7).toNat)).fHasUser), ss ((Dk (A2 B 0) (B.extract yq7.toNat (yq7 + nq7).toNat)).fUser), .sc (.bool (Dk (A2 B 0) (B.extract yq7.toNat (yq7 + nq7).toNat)).fHasPass), x38, si ((Dk (A2 B 0) (B.extract yq7.toNat (yq7 + nq7).toNat)).fCode), .sc (.bool (Dk (A2 B 0) (B.extract yq7.toNat (yq7 + nq7).toNat)).fPresent), x39, x40, x41]) s47 zP8 (Ah (Ac rfl (Ac rfl (Ac rfl (Ac rfl (Ac rfl (Ac rfl (Ac lx36 (Ac rfl (Ac rfl (Ac rfl (Ac rfl (Ac rfl (Ac rfl (Ac lx37 (Ac rfl (Ac rfl (Ac rfl (Ac rfl (Ac rfl (Ac lx38 (Ac rfl (Ac rfl (Ac lx39 (Ac lx40 (Ac lx41 rfl)))))))))))))))))))))))))) rfl (Ca rfl) rfl fun H s49 => Aq s49 (.here) rfl ?_)))
 refine Al (B0 s49 rfl (.agg ⟨_, rfl, rfl⟩ (Du (.own zP8 (Du (.own zP7 (G6 (.own Yb (.sc (.sc (.own Uz (.own Ma (.own L9 .nil))))))))))) (.sc (.sc .nil))) ⟨(L7 ⟨_, rfl, rfl⟩ (Dv ⟨(Bs (Cx ((Dk (A2 B 0) (B.extract yq7.toNat (yq7 + nq7).toNat)).fBody)) (by decide)), (Dv ⟨(Bs (Cx ((Dk (A2 B 0) (B.extract yq7.toNat (yq7 + nq7).toNat)).fWBody)) (by decide)), (Hb ⟨(Bs (Cx ((Dk (A2 B 0) (B.extract yq7.toNat (yq7 + nq7).toNat)).fPass)) (by decide)), (E8 ⟨(Bs (K6 ((Dk (A2 B 0) (B.extract yq7.toNat (yq7 + nq7).toNat)).fWants)) (by decide)), ⟨(Bs (Wy ((Dk (A2 B 0) (B.extract yq7.toNat (yq7 + nq7).toNat)).fNames)) (by decide)), ⟨(Bs (Z3 ((Dk (A2 B 0) (B.extract yq7.toNat (yq7 + nq7).toNat)).fCodes)) (by decide)), trivial⟩⟩⟩)⟩)⟩)⟩)), (E8 trivial)⟩) ?_
 have e : E3 Dk B = ((Dk (A2 B 0) (B.extract yq7.toNat (yq7 + nq7).toNat)), (yq7 + nq7), 0) := by
  unfold E3 Er Ep; simp only [h3, h6, h9, h10, h12, h44, h48, q7, if_true, if_false, zaa, reduceIte, D9]
 rw [e]
 rfl
 refine Ap (nT h48) (Bb (cs := Ek) rfl (B8 (cs' := Ek) s47 zP8 (Ah rfl) rfl (Ca rfl) rfl fun H s50 => Aq s50 (.here) rfl (Al (B0 s50 rfl (.agg ⟨_, rfl, rfl⟩ (Du (.nl (Du (.nl (G6 (.nl (.sc (.sc (.nl (.nl (.nl .nil))))))))))) (.sc (.sc .nil))) ⟨(L7 ⟨_, rfl, rfl⟩ (Dv ⟨A9, (Dv ⟨A9, (Hb ⟨A9, (E8 ⟨A9, ⟨A9, ⟨A9, trivial⟩⟩⟩)⟩)⟩)⟩)), (E8 trivial)⟩) ?_)))
 have e : E3 Dk B = ((B3 0), 0, 2) := by
  unfold E3 Er Ep; simp only [h3, h6, h9, h10, h12, h44, h48, q7, if_true, if_false, zaa, reduceIte, D9]
 rw [e]
 rfl
 refine Ae (nT h44) (Ae (nT h44) (Ae (nT h44) (Ae (nT h44) (Ae (nT h44) (Ae (nT h44) (Ae (nT h44) (Ae (nT h44) (Ae (nT h44) (E2 (nT h44) (Ap rfl (Bb (cs := Ek) rfl (B8 (cs' := Ek) s43 zP7 (Ah rfl) rfl (Ca rfl) rfl fun H s51 => Aq s51 (.here) rfl (Al (B0 s51 rfl (.agg ⟨_, rfl, rfl⟩ (Du (.nl (Du (.nl (G6 (.nl (.sc (.sc (.nl (.nl (.nl .nil))))))))))) (.sc (.sc .nil))) ⟨(L7 ⟨_, rfl, rfl⟩ (Dv ⟨A9, (Dv ⟨A9, (Hb ⟨A9, (E8 ⟨A9, ⟨A9, ⟨A9, trivial⟩⟩⟩)⟩)⟩)⟩)), (E8 trivial)⟩) ?_)))))))))))))
 have e : E3 Dk B = ((B3 0), 0, 2) := by
  unfold E3 Er Ep; simp only [h3, h6, h9, h10, h12, h44, q7, if_true, if_false, zaa, reduceIte, D9]
 rw [e]
 rfl
 have dh9 := of_decide_eq_false h9
 refine Ap (nT h9) (Bb (cs := Ek) rfl (B8 (cs' := Ek) s8 (.here) (Ah rfl) rfl (Ca rfl) rfl fun H s52 => Aq s52 (.here) rfl (Al (B0 s52 rfl (.agg ⟨_, rfl, rfl⟩ (Du (.nl (Du (.nl (G6 (.nl (.sc (.sc (.nl (.nl (.nl .nil))))))))))) (.sc (.sc .nil))) ⟨(L7 ⟨_, rfl, rfl⟩ (Dv ⟨A9, (Dv ⟨A9, (Hb ⟨A9, (E8 ⟨A9, ⟨A9, ⟨A9, trivial⟩⟩⟩)⟩)⟩)⟩)), (E8 trivial)⟩) ?_)))
 have e : E3 Dk B = ((B3 0), 0, cq7) := by
  unfold E3 Er Ep; simp only [h3, h6, h9, q7, if_true, if_false, zaa, reduceIte, D9]
 rw [e]
 rfl
 refine Ap (nT h6) (Bb (cs := Ek) rfl (B8 (cs' := Ek) s2 (.here) (Ah rfl) rfl (Ca rfl) rfl fun H s53 => Aq s53 (.here) rfl (Al (B0 s53 rfl (.agg ⟨_, rfl, rfl⟩ (Du (.nl (Du (.nl (G6 (.nl (.sc (.sc (.nl (.nl (.nl .nil))))))))))) (.sc (.sc .nil))) ⟨(L7 ⟨_, rfl, rfl⟩ (Dv ⟨A9, (Dv ⟨A9, (Hb ⟨A9, (E8 ⟨A9, ⟨A9, ⟨A9, trivial⟩⟩⟩)⟩)⟩)⟩)), (E8 trivial)⟩) ?_)))
 have e : E3 Dk B = ((B3 0), 0, 2) := by
  unfold E3 Er Ep; simp only [h3, h6, if_true, if_false, zaa, reduceIte, D9]
 rw [e]
 rfl
theorem Ah0 (n : Nat) (hn : 1048576 < n) (B : ByteArray) (hB : B.size ≤ 2097152) : C0 E0 (n + 13) 60 31 [Ad B] = some (.tup [.agg (An (E3 Dh B).1), .sc (.int .i64 (E3 Dh B).2.1), .sc (.int .i64 (E3 Dh B).2.2)]) := by
 rw [A7, AkU, f31]
 refine Cm (G := (· = some (.tup [.agg (An (E3 Dh B).1), .sc (.int .i64 (E3 Dh B).2.1), .sc (.int .i64 (E3 Dh B).2.2)]))) ?_
 try simp only [Fa, E9]
 have s0 : Sep [] [] := Ch
 refine Ie s0 fun i1 H s2 => Cu (Ba (Aa ((decide (((B.size : Nat) : Int) = 0))) (fun h3 => ?_) fun h3 => ?_))
 have dh3 := of_decide_eq_true h3
 refine Ap h3 (Bb (cs := Ek) rfl (B8 (cs' := Ek) s2 (.here) (Ah rfl) rfl (Ca rfl) rfl fun H s4 => Aq s4 (.here) rfl (Al (B0 s4 rfl (.agg ⟨_, rfl, rfl⟩ (Du (.nl (Du (.nl (G6 (.nl (.sc (.sc (.nl (.nl (.nl .nil))))))))))) (.sc (.sc .nil))) ⟨(L7 ⟨_, rfl, rfl⟩ (Dv ⟨A9, (Dv ⟨A9, (Hb ⟨A9, (E8 ⟨A9, ⟨A9, ⟨A9, trivial⟩⟩⟩)⟩)⟩)⟩)), (E8 trivial)⟩) ?_)))
 have e : E3 Dh B = ((B3 0), 0, 1) := by
  unfold E3 Er Ep; simp only [h3, if_true, if_false, zaa, reduceIte, D9]
 rw [e]
 rfl
 have dh3 := of_decide_eq_false h3
 refine Au h3 ?_
 have w5 := D0 B 0
 refine Gn (by omega) (by omega) fun _ => E5 (c := .sc (.int .u8 (A2 B 0))) rfl (Kr (by omega) (by omega) (Ar (v := (.bool (Dx (A2 B 0)))) s2 rfl (.cons .sc .nil) (by rw [← AgJ (f := (A2 B 0)) (by omega) (by omega)]; exact Acl (n + 11) (by omega) (A2 B 0) (by omega)) (Cr (Aa ((Dx (A2 B 0))) (fun h6 => ?_) fun h6 => ?_))))
 refine Au (nF h6) ?_
 obtain ⟨nq7, yq7, cq7, q7⟩ : ∃ w y o, Cv B 1 = (w, y, o) := ⟨_, _, _, rfl⟩
 have bq7 := Oi (B := B) (a := 1)
 rw [q7] at bq7
 dsimp only at bq7
 refine D3 s2 rfl (.cons .ro (.cons .sc .nil)) (by have h := AjI (n + 10) (by omega) B 1 (by omega) (by omega); rw [q7] at h; exact h) rfl (Bd (Bd (Bd Dz))) ?_
 rintro _ _ H ⟨_, rfl, ⟨_, rfl, ⟨_, rfl, ⟨rfl, rfl⟩⟩⟩⟩ s8
 simp only [zal] at s8
 refine Bm (v := si nq7) rfl (Bm (v := si yq7) rfl (Bm (v := si cq7) rfl (Ks (Aa ((decide (cq7 = 0))) (fun h9 => ?_) fun h9 => ?_))))
 have dh9 := of_decide_eq_true h9
 replace bq7 := bq7 (of_decide_eq_true h9)
 refine Au (nF h9) (Eb (Aa ((decide (340 < nq7))) (fun h10 => ?_) fun h10 => ?_))
 have dh10 := of_decide_eq_true h10
 refine Ap h10 (Bb (cs := Ek) rfl (B8 (cs' := Ek) s8 (.here) (Ah rfl) rfl (Ca rfl) rfl fun H s11 => Aq s11 (.here) rfl (Al (B0 s11 rfl (.agg ⟨_, rfl, rfl⟩ (Du (.nl (Du (.nl (G6 (.nl (.sc (.sc (.nl (.nl (.nl .nil))))))))))) (.sc (.sc .nil))) ⟨(L7 ⟨_, rfl, rfl⟩ (Dv ⟨A9, (Dv ⟨A9, (Hb ⟨A9, (E8 ⟨A9, ⟨A9, ⟨A9, trivial⟩⟩⟩)⟩)⟩)⟩)), (E8 trivial)⟩) ?_)))
 have e : E3 Dh B = ((B3 0), 0, 2) := by
  unfold E3 Er Ep; simp only [h3, h6, h9, h10, q7, if_true, if_false, zaa, reduceIte, D9]
 rw [e]
 rfl
 have dh10 := of_decide_eq_false h10
 refine Au h10 (Cu (Pf (by omega) (by omega) (Eb (Aa ((decide ((((B.size : Nat) : Int) - yq7) < nq7))) (fun h12 => ?_) fun h12 => ?_))))
 have dh12 := of_decide_eq_true h12
 refine Ap h12 (Bb (cs := Ek) rfl (B8 (cs' := Ek) s8 (.here) (Ah rfl) rfl (Ca rfl) rfl fun H s13 => Aq s13 (.here) rfl (Al (B0 s13 rfl (.agg ⟨_, rfl, rfl⟩ (Du (.nl (Du (.nl (G6 (.nl (.sc (.sc (.nl (.nl (.nl .nil))))))))))) (.sc (.sc .nil))) ⟨(L7 ⟨_, rfl, rfl⟩ (Dv ⟨A9, (Dv ⟨A9, (Hb ⟨A9, (E8 ⟨A9, ⟨A9, ⟨A9, trivial⟩⟩⟩)⟩)⟩)⟩)), (E8 trivial)⟩) ?_)))
 have e : E3 Dh B = ((B3 0), 0, 1) := by
  unfold E3 Er Ep; simp only [h3, h6, h9, h10, h12, q7, if_true, if_false, zaa, reduceIte, D9]
 rw [e]
 rfl
 have dh12 := of_decide_eq_false h12
 refine Au h12 ?_
 have w14 := D0 B 0
 refine Gn (by omega) (by omega) fun _ => E5 (c := su (A2 B 0)) rfl (Kr (by omega) (by omega) (Bw (by omega) (by omega) (Fs yq7 (yq7 + nq7) rfl rfl (by omega) (by omega) (by omega) ?_)))
 have z15 := zao (a := B) (b := yq7.toNat) (e := (yq7 + nq7).toNat)
 refine C8 (Gd.bothE ?_ ?_)
 have hR : (B.extract yq7.toNat (yq7 + nq7).toNat).size ≤ 340 := by rw [zao]; omega
 have hbd := Ak8 (A2 B 0) (B.extract yq7.toNat (yq7 + nq7).toNat) hR
 have hyp := hbd.hyp (by decide)
 refine Rx s8 rfl (.cons .sc (.cons .ro .nil)) (AjW (n + 5) (by omega) (A2 B 0) (B.extract yq7.toNat (yq7 + nq7).toNat) (by omega) (by omega)) ⟨_, rfl, rfl⟩ (J3 _) ?_
 rintro _ _ H ⟨x16, x17, x18, x19, x20, x21, lx16, lx17, lx18, lx19, lx20, lx21, rfl, rfl⟩ s22
 simp only [zal, zau] at s22
 refine Ie s22 fun i23 H s24 => B8 (cs' := [si ((Dh (A2 B 0) (B.extract yq7.toNat (yq7 + nq7).toNat)).fType), .sc (.bool (Dh (A2 B 0) (B.extract yq7.toNat (yq7 + nq7).toNat)).fDup), si ((Dh (A2 B 0) (B.extract yq7.toNat (yq7 + nq7).toNat)).fQos), .sc (.bool (Dh (A2 B 0) (B.extract yq7.toNat (yq7 + nq7).toNat)).fRetain), si ((Dh (A2 B 0) (B.extract yq7.toNat (yq7 + nq7).toNat)).fId), ss ((Dh (A2 B 0) (B.extract yq7.toNat (yq7 + nq7).toNat)).fTopic), x16, ss ((Dh (A2 B 0) (B.extract yq7.toNat (yq7 + nq7).toNat)).fClient), si ((Dh (A2 B 0) (B.extract yq7.toNat (yq7 + nq7).toNat)).fLevel), .sc (.bool (Dh (A2 B 0) (B.extract yq7.toNat (yq7 + nq7).toNat)).fClean), si ((Dh (A2 B 0) (B.extract yq7.toNat (yq7 + nq7).toNat)).fKeep), .sc (.bool (Dh (A2 B 0) (B.extract yq7.toNat (yq7 + nq7).toNat)).fHasWill), ss ((Dh (A2 B 0) (B.extract yq7.toNat (yq7 + nq7).toNat)).fWTopic), x17, si ((Dh (A2 B 0) (B.extract yq7.toNat (yq7 + nq7).toNat)).fWQos), .sc (.bool (Dh (A2 B 0) (B.extract yq7.toNat (yq7 + nq7).toNat)).fWRetain), .sc (.bool (Dh (A2 B 0) (B.extract yq7.toNat (yq7 + nq7).toNat)).fHasUser), ss ((Dh (A2 B 0) (B.extract yq7.toNat (yq7 + nq7).toNat)).fUser), .sc (.bool (Dh (A2 B 0) (B.extract yq7.toNat (yq7 + nq7).toNat)).fHasPass), x18, si ((Dh (A2 B 0) (B.extract yq7.toNat (yq7 + nq7).toNat)).fCode), .sc (.bool (Dh (A2 B 0) (B.extract yq7.toNat (yq7 + nq7).toNat)).fPresent), x19, x20, x21]) s24 (.here) (Ah (Ac rfl (Ac rfl (Ac rfl (Ac rfl (Ac rfl (Ac rfl (Ac lx16 (Ac rfl (Ac rfl (Ac rfl (Ac rfl (Ac rfl (Ac rfl (Ac lx17 (Ac rfl (Ac rfl (Ac rfl (Ac rfl (Ac rfl (Ac lx18 (Ac rfl (Ac rfl (Ac lx19 (Ac lx20 (Ac lx21 rfl)))))))))))))))))))))))))) rfl (Ca rfl) rfl fun H s25 => Aq s25 (.here) rfl ?_
 refine Ar (v := (.bool (Am (Dh (A2 B 0) (B.extract yq7.toNat (yq7 + nq7).toNat))))) s25 rfl (.agg (Gf (.cons (.own (by decide) Yb) (Gf (.cons (.own (by decide) Uz) (L8 (.cons (.own (by decide) Ma) (Im (.cons (.own (by decide) L9) (.cons (.own (by decide) C7) (.cons (.own (by decide) Cn) .nil)))))))))) .nil) (Tn (n + 2) (by omega) (Dh (A2 B 0) (B.extract yq7.toNat (yq7 + nq7).toNat)) hyp) (Cr (Aa ((Am (Dh (A2 B 0) (B.extract yq7.toNat (yq7 + nq7).toNat)))) (fun h26 => ?_) fun h26 => ?_))
 refine Af (nF h26) (Aq s25 (.here) rfl (Af (nF h26) (Af (nF h26) (Af (nF h26) (Af (nF h26) (Bw (by omega) (by omega) (Af (nF h26) (Fs 0 (yq7 + nq7) rfl rfl (by omega) (by omega) (by omega) ?_))))))))
 have z27 := zao (a := B) (b := (0 : Int).toNat) (e := (yq7 + nq7).toNat)
 refine Af (nF h26) (B7 s25 rfl (.agg (Gf (.cons (.own (by decide) Yb) (Gf (.cons (.own (by decide) Uz) (L8 (.cons (.own (by decide) Ma) (Im (.cons (.own (by decide) L9) (.cons (.own (by decide) C7) (.cons (.own (by decide) Cn) .nil)))))))))) .nil) (Abg (n + 1) (by omega) (Dh (A2 B 0) (B.extract yq7.toNat (yq7 + nq7).toNat)) hyp (za5 hbd.b1 (by decide)) (za5 hbd.b2 (by decide)) (za5 hbd.b3 (by decide))) (Cx (Fv (Dh (A2 B 0) (B.extract yq7.toNat (yq7 + nq7).toNat)))) fun x28 H lx28 s29 => Af (nF h26) (Ar (v := (.bool ((Fv (Dh (A2 B 0) (B.extract yq7.toNat (yq7 + nq7).toNat))).toList == (B.extract (0 : Int).toNat (yq7 + nq7).toNat).toList))) s29 rfl (.cons (.own (by decide) (.here)) (.cons .ro .nil)) (R7 (n + 11) _ (Fv (Dh (A2 B 0) (B.extract yq7.toNat (yq7 + nq7).toNat))) (B.extract (0 : Int).toNat (yq7 + nq7).toNat)) (Af (nF h26) (Cr (E1 (nF h26) (Aa (((Fv (Dh (A2 B 0) (B.extract yq7.toNat (yq7 + nq7).toNat))).toList == (B.extract (0 : Int).toNat (yq7 + nq7).toNat).toList)) (fun h30 => ?_) fun h30 => ?_))))))
 refine Au (nF h30) (Aq s29 Cn rfl (Bw (by omega) (by omega) (B8 (cs' := [si ((Dh (A2 B 0) (B.extract yq7.toNat (yq7 + nq7).toNat)).fType), .sc (.bool (Dh (A2 B 0) (B.extract yq7.toNat (yq7 + nq7).toNat)).fDup), si ((Dh (A2 B 0) (B.extract yq7.toNat (yq7 + nq7).toNat)).fQos), .sc (.bool (Dh (A2 B 0) (B.extract yq7.toNat (yq7 + nq7).toNat)).fRetain), si ((Dh (A2 B 0) (B.extract yq7.toNat (yq7 + nq7).toNat)).fId), ss ((Dh (A2 B 0) (B.extract yq7.toNat (yq7 + nq7).toNat)).fTopic), x16, ss ((Dh (A2 B 0) (B.extract yq7.toNat (yq7 + nq7).toNat)).fClient), si ((Dh (A2 B 0) (B.extract yq7.toNat (yq7 + nq7).toNat)).fLevel), .sc (.bool (Dh (A2 B 0) (B.extract yq7.toNat (yq7 + nq7).toNat)).fClean), si ((Dh (A2 B 0) (B.extract yq7.toNat (yq7 + nq7).toNat)).fKeep), .sc (.bool (Dh (A2 B 0) (B.extract yq7.toNat (yq7 + nq7).toNat)).fHasWill), ss ((Dh (A2 B 0) (B.extract yq7.toNat (yq7 + nq7).toNat)).fWTopic), x17, si ((Dh (A2 B 0) (B.extract yq7.toNat (yq7 + nq7).toNat)).fWQos), .sc (.bool (Dh (A2 B 0) (B.extract yq7.toNat (yq7 + nq7).toNat)).fWRetain), .sc (.bool (Dh (A2 B 0) (B.extract yq7.toNat (yq7 + nq7).toNat)).fHasUser), ss ((Dh (A2 B 0) (B.extract yq7.toNat (yq7 + nq7).toNat)).fUser), .sc (.bool (Dh (A2 B 0) (B.extract yq7.toNat (yq7 + nq7).toNat)).fHasPass), x18, si ((Dh (A2 B 0) (B.extract yq7.toNat (yq7 + nq7).toNat)).fCode), .sc (.bool (Dh (A2 B 0) (B.extract yq7.toNat (yq7 + nq7).toNat)).fPresent), x19, x20, x21]) s29 zP8 (Ah (Ac rfl (Ac rfl (Ac rfl (Ac rfl (Ac rfl (Ac rfl (Ac lx16 (Ac rfl (Ac rfl (Ac rfl (Ac rfl (Ac rfl (Ac rfl (Ac lx17 (Ac rfl (Ac rfl (Ac rfl (Ac rfl (Ac rfl (Ac lx18 (Ac rfl (Ac rfl (Ac lx19 (Ac lx20 (Ac lx21 rfl)))))))))))))))))))))))))) rfl (Ca rfl) rfl fun H s31 => Aq s31 (.here) rfl ?_)))
 refine Al (B0 s31 rfl (.agg ⟨_, rfl, rfl⟩ (Du (.own zP8 (Du (.own zP7 (G6 (.own Yb (.sc (.sc (.own Uz (.own Ma (.own L9 .nil))))))))))) (.sc (.sc .nil))) ⟨(L7 ⟨_, rfl, rfl⟩ (Dv ⟨(Bs (Cx ((Dh (A2 B 0) (B.extract yq7.toNat (yq7 + nq7).toNat)).fBody)) (by decide)), (Dv ⟨(Bs (Cx ((Dh (A2 B 0) (B.extract yq7.toNat (yq7 + nq7).toNat)).fWBody)) (by decide)), (Hb ⟨(Bs (Cx ((Dh (A2 B 0) (B.extract yq7.toNat (yq7 + nq7).toNat)).fPass)) (by decide)), (E8 ⟨(Bs (K6 ((Dh (A2 B 0) (B.extract yq7.toNat (yq7 + nq7).toNat)).fWants)) (by decide)), ⟨(Bs (Wy ((Dh (A2 B 0) (B.extract yq7.toNat (yq7 + nq7).toNat)).fNames)) (by decide)), ⟨(Bs (Z3 ((Dh (A2 B 0) (B.extract yq7.toNat (yq7 + nq7).toNat)).fCodes)) (by decide)), trivial⟩⟩⟩)⟩)⟩)⟩)), (E8 trivial)⟩) ?_
 have e : E3 Dh B = ((Dh (A2 B 0) (B.extract yq7.toNat (yq7 + nq7).toNat)), (yq7 + nq7), 0) := by
  unfold E3 Er Ep; simp only [h3, h6, h9, h10, h12, h26, h30, q7, if_true, if_false, zaa, reduceIte, D9]
 rw [e]
 rfl
 refine Ap (nT h30) (Bb (cs := Ek) rfl (B8 (cs' := Ek) s29 zP8 (Ah rfl) rfl (Ca rfl) rfl fun H s32 => Aq s32 (.here) rfl (Al (B0 s32 rfl (.agg ⟨_, rfl, rfl⟩ (Du (.nl (Du (.nl (G6 (.nl (.sc (.sc (.nl (.nl (.nl .nil))))))))))) (.sc (.sc .nil))) ⟨(L7 ⟨_, rfl, rfl⟩ (Dv ⟨A9, (Dv ⟨A9, (Hb ⟨A9, (E8 ⟨A9, ⟨A9, ⟨A9, trivial⟩⟩⟩)⟩)⟩)⟩)), (E8 trivial)⟩) ?_)))
 have e : E3 Dh B = ((B3 0), 0, 2) := by
  unfold E3 Er Ep; simp only [h3, h6, h9, h10, h12, h26, h30, q7, if_true, if_false, zaa, reduceIte, D9]
 rw [e]
 rfl
 refine Ae (nT h26) (Ae (nT h26) (Ae (nT h26) (Ae (nT h26) (Ae (nT h26) (Ae (nT h26) (Ae (nT h26) (Ae (nT h26) (Ae (nT h26) (E2 (nT h26) (Ap rfl (Bb (cs := Ek) rfl (B8 (cs' := Ek) s25 zP7 (Ah rfl) rfl (Ca rfl) rfl fun H s33 => Aq s33 (.here) rfl (Al (B0 s33 rfl (.agg ⟨_, rfl, rfl⟩ (Du (.nl (Du (.nl (G6 (.nl (.sc (.sc (.nl (.nl (.nl .nil))))))))))) (.sc (.sc .nil))) ⟨(L7 ⟨_, rfl, rfl⟩ (Dv ⟨A9, (Dv ⟨A9, (Hb ⟨A9, (E8 ⟨A9, ⟨A9, ⟨A9, trivial⟩⟩⟩)⟩)⟩)⟩)), (E8 trivial)⟩) ?_)))))))))))))
 have e : E3 Dh B = ((B3 0), 0, 2) := by
  unfold E3 Er Ep; simp only [h3, h6, h9, h10, h12, h26, q7, if_true, if_false, zaa, reduceIte, D9]
 rw [e]
 rfl
 refine Ie s8 fun i34 H s35 => ?_
 have hR : (B.extract yq7.toNat (yq7 + nq7).toNat).size ≤ 340 := by rw [zao]; omega
 have hbd := Ak8 (A2 B 0) (B.extract yq7.toNat (yq7 + nq7).toNat) hR
 have hyp := hbd.hyp (by decide)
 refine Rx s35 rfl (.cons .sc (.cons .ro .nil)) (AjW (n + 5) (by omega) (A2 B 0) (B.extract yq7.toNat (yq7 + nq7).toNat) (by omega) (by omega)) ⟨_, rfl, rfl⟩ (J3 _) ?_
 rintro _ _ H ⟨x36, x37, x38, x39, x40, x41, lx36, lx37, lx38, lx39, lx40, lx41, rfl, rfl⟩ s42
 simp only [zal, zau] at s42
 refine B8 (cs' := [si ((Dh (A2 B 0) (B.extract yq7.toNat (yq7 + nq7).toNat)).fType), .sc (.bool (Dh (A2 B 0) (B.extract yq7.toNat (yq7 + nq7).toNat)).fDup), si ((Dh (A2 B 0) (B.extract yq7.toNat (yq7 + nq7).toNat)).fQos), .sc (.bool (Dh (A2 B 0) (B.extract yq7.toNat (yq7 + nq7).toNat)).fRetain), si ((Dh (A2 B 0) (B.extract yq7.toNat (yq7 + nq7).toNat)).fId), ss ((Dh (A2 B 0) (B.extract yq7.toNat (yq7 + nq7).toNat)).fTopic), x36, ss ((Dh (A2 B 0) (B.extract yq7.toNat (yq7 + nq7).toNat)).fClient), si ((Dh (A2 B 0) (B.extract yq7.toNat (yq7 + nq7).toNat)).fLevel), .sc (.bool (Dh (A2 B 0) (B.extract yq7.toNat (yq7 + nq7).toNat)).fClean), si ((Dh (A2 B 0) (B.extract yq7.toNat (yq7 + nq7).toNat)).fKeep), .sc (.bool (Dh (A2 B 0) (B.extract yq7.toNat (yq7 + nq7).toNat)).fHasWill), ss ((Dh (A2 B 0) (B.extract yq7.toNat (yq7 + nq7).toNat)).fWTopic), x37, si ((Dh (A2 B 0) (B.extract yq7.toNat (yq7 + nq7).toNat)).fWQos), .sc (.bool (Dh (A2 B 0) (B.extract yq7.toNat (yq7 + nq7).toNat)).fWRetain), .sc (.bool (Dh (A2 B 0) (B.extract yq7.toNat (yq7 + nq7).toNat)).fHasUser), ss ((Dh (A2 B 0) (B.extract yq7.toNat (yq7 + nq7).toNat)).fUser), .sc (.bool (Dh (A2 B 0) (B.extract yq7.toNat (yq7 + nq7).toNat)).fHasPass), x38, si ((Dh (A2 B 0) (B.extract yq7.toNat (yq7 + nq7).toNat)).fCode), .sc (.bool (Dh (A2 B 0) (B.extract yq7.toNat (yq7 + nq7).toNat)).fPresent), x39, x40, x41]) s42 Yb (Ah (Ac rfl (Ac rfl (Ac rfl (Ac rfl (Ac rfl (Ac rfl (Ac lx36 (Ac rfl (Ac rfl (Ac rfl (Ac rfl (Ac rfl (Ac rfl (Ac lx37 (Ac rfl (Ac rfl (Ac rfl (Ac rfl (Ac rfl (Ac lx38 (Ac rfl (Ac rfl (Ac lx39 (Ac lx40 (Ac lx41 rfl)))))))))))))))))))))))))) rfl (Ca rfl) rfl fun H s43 => Aq s43 (.here) rfl ?_
 refine Ar (v := (.bool (Am (Dh (A2 B 0) (B.extract yq7.toNat (yq7 + nq7).toNat))))) s43 rfl (.agg (Gf (.cons (.own (by decide) Yb) (Gf (.cons (.own (by decide) Uz) (L8 (.cons (.own (by decide) Ma) (Im (.cons (.own (by decide) L9) (.cons (.own (by decide) C7) (.cons (.own (by decide) Cn) .nil)))))))))) .nil) (Tn (n + 2) (by omega) (Dh (A2 B 0) (B.extract yq7.toNat (yq7 + nq7).toNat)) hyp) (Cr (Aa ((Am (Dh (A2 B 0) (B.extract yq7.toNat (yq7 + nq7).toNat)))) (fun h44 => ?_) fun h44 => ?_))
 refine Af (nF h44) (Aq s43 (.here) rfl (Af (nF h44) (Af (nF h44) (Af (nF h44) (Af (nF h44) (Bw (by omega) (by omega) (Af (nF h44) (Fs 0 (yq7 + nq7) rfl rfl (by omega) (by omega) (by omega) ?_))))))))
 have z45 := zao (a := B) (b := (0 : Int).toNat) (e := (yq7 + nq7).toNat)
 refine Af (nF h44) (B7 s43 rfl (.agg (Gf (.cons (.own (by decide) Yb) (Gf (.cons (.own (by decide) Uz) (L8 (.cons (.own (by decide) Ma) (Im (.cons (.own (by decide) L9) (.cons (.own (by decide) C7) (.cons (.own (by decide) Cn) .nil)))))))))) .nil) (Abg (n + 1) (by omega) (Dh (A2 B 0) (B.extract yq7.toNat (yq7 + nq7).toNat)) hyp (za5 hbd.b1 (by decide)) (za5 hbd.b2 (by decide)) (za5 hbd.b3 (by decide))) (Cx (Fv (Dh (A2 B 0) (B.extract yq7.toNat (yq7 + nq7).toNat)))) fun x46 H lx46 s47 => Af (nF h44) (Ar (v := (.bool ((Fv (Dh (A2 B 0) (B.extract yq7.toNat (yq7 + nq7).toNat))).toList == (B.extract (0 : Int).toNat (yq7 + nq7).toNat).toList))) s47 rfl (.cons (.own (by decide) (.here)) (.cons .ro .nil)) (R7 (n + 11) _ (Fv (Dh (A2 B 0) (B.extract yq7.toNat (yq7 + nq7).toNat))) (B.extract (0 : Int).toNat (yq7 + nq7).toNat)) (Af (nF h44) (Cr (E1 (nF h44) (Aa (((Fv (Dh (A2 B 0) (B.extract yq7.toNat (yq7 + nq7).toNat))).toList == (B.extract (0 : Int).toNat (yq7 + nq7).toNat).toList)) (fun h48 => ?_) fun h48 => ?_))))))
 refine Au (nF h48) (Aq s47 Cn rfl (Bw (by omega) (by omega) (B8 (cs' := [si ((Dh (A2 B 0) (B.extract yq7.toNat (yq7 + nq7).toNat)).fType), .sc (.bool (Dh (A2 B 0) (B.extract yq7.toNat (yq7 + nq7).toNat)).fDup), si ((Dh (A2 B 0) (B.extract yq7.toNat (yq7 + nq7).toNat)).fQos), .sc (.bool (Dh (A2 B 0) (B.extract yq7.toNat (yq7 + nq7).toNat)).fRetain), si ((Dh (A2 B 0) (B.extract yq7.toNat (yq7 + nq7).toNat)).fId), ss ((Dh (A2 B 0) (B.extract yq7.toNat (yq7 + nq7).toNat)).fTopic), x36, ss ((Dh (A2 B 0) (B.extract yq7.toNat (yq7 + nq7).toNat)).fClient), si ((Dh (A2 B 0) (B.extract yq7.toNat (yq7 + nq7).toNat)).fLevel), .sc (.bool (Dh (A2 B 0) (B.extract yq7.toNat (yq7 + nq7).toNat)).fClean), si ((Dh (A2 B 0) (B.extract yq7.toNat (yq7 + nq7).toNat)).fKeep), .sc (.bool (Dh (A2 B 0) (B.extract yq7.toNat (yq7 + nq7).toNat)).fHasWill), ss ((Dh (A2 B 0) (B.extract yq7.toNat (yq7 + nq7).toNat)).fWTopic), x37, si ((Dh (A2 B 0) (B.extract yq7.toNat (yq7 + nq7).toNat)).fWQos), .sc (.bool (Dh (A2 B 0) (B.extract yq7.toNat (yq7 + nq7).toNat)).fWRetain), .sc (.bool (Dh (A2 B 0) (B.extract yq7.toNat (yq7 + nq7).toNat)).fHasUser), ss ((Dh (A2 B 0) (B.extract yq7.toNat (yq7 + nq7).toNat)).fUser), .sc (.bool (Dh (A2 B 0) (B.extract yq7.toNat (yq7 + nq7).toNat)).fHasPass), x38, si ((Dh (A2 B 0) (B.extract yq7.toNat (yq7 + nq7).toNat)).fCode), .sc (.bool (Dh (A2 B 0) (B.extract yq7.toNat (yq7 + nq7).toNat)).fPresent), x39, x40, x41]) s47 zP8 (Ah (Ac rfl (Ac rfl (Ac rfl (Ac rfl (Ac rfl (Ac rfl (Ac lx36 (Ac rfl (Ac rfl (Ac rfl (Ac rfl (Ac rfl (Ac rfl (Ac lx37 (Ac rfl (Ac rfl (Ac rfl (Ac rfl (Ac rfl (Ac lx38 (Ac rfl (Ac rfl (Ac lx39 (Ac lx40 (Ac lx41 rfl)))))))))))))))))))))))))) rfl (Ca rfl) rfl fun H s49 => Aq s49 (.here) rfl ?_)))
 refine Al (B0 s49 rfl (.agg ⟨_, rfl, rfl⟩ (Du (.own zP8 (Du (.own zP7 (G6 (.own Yb (.sc (.sc (.own Uz (.own Ma (.own L9 .nil))))))))))) (.sc (.sc .nil))) ⟨(L7 ⟨_, rfl, rfl⟩ (Dv ⟨(Bs (Cx ((Dh (A2 B 0) (B.extract yq7.toNat (yq7 + nq7).toNat)).fBody)) (by decide)), (Dv ⟨(Bs (Cx ((Dh (A2 B 0) (B.extract yq7.toNat (yq7 + nq7).toNat)).fWBody)) (by decide)), (Hb ⟨(Bs (Cx ((Dh (A2 B 0) (B.extract yq7.toNat (yq7 + nq7).toNat)).fPass)) (by decide)), (E8 ⟨(Bs (K6 ((Dh (A2 B 0) (B.extract yq7.toNat (yq7 + nq7).toNat)).fWants)) (by decide)), ⟨(Bs (Wy ((Dh (A2 B 0) (B.extract yq7.toNat (yq7 + nq7).toNat)).fNames)) (by decide)), ⟨(Bs (Z3 ((Dh (A2 B 0) (B.extract yq7.toNat (yq7 + nq7).toNat)).fCodes)) (by decide)), trivial⟩⟩⟩)⟩)⟩)⟩)), (E8 trivial)⟩) ?_
 have e : E3 Dh B = ((Dh (A2 B 0) (B.extract yq7.toNat (yq7 + nq7).toNat)), (yq7 + nq7), 0) := by
  unfold E3 Er Ep; simp only [h3, h6, h9, h10, h12, h44, h48, q7, if_true, if_false, zaa, reduceIte, D9]
 rw [e]
 rfl
 refine Ap (nT h48) (Bb (cs := Ek) rfl (B8 (cs' := Ek) s47 zP8 (Ah rfl) rfl (Ca rfl) rfl fun H s50 => Aq s50 (.here) rfl (Al (B0 s50 rfl (.agg ⟨_, rfl, rfl⟩ (Du (.nl (Du (.nl (G6 (.nl (.sc (.sc (.nl (.nl (.nl .nil))))))))))) (.sc (.sc .nil))) ⟨(L7 ⟨_, rfl, rfl⟩ (Dv ⟨A9, (Dv ⟨A9, (Hb ⟨A9, (E8 ⟨A9, ⟨A9, ⟨A9, trivial⟩⟩⟩)⟩)⟩)⟩)), (E8 trivial)⟩) ?_)))
 have e : E3 Dh B = ((B3 0), 0, 2) := by
  unfold E3 Er Ep; simp only [h3, h6, h9, h10, h12, h44, h48, q7, if_true, if_false, zaa, reduceIte, D9]
 rw [e]
 rfl
 refine Ae (nT h44) (Ae (nT h44) (Ae (nT h44) (Ae (nT h44) (Ae (nT h44) (Ae (nT h44) (Ae (nT h44) (Ae (nT h44) (Ae (nT h44) (E2 (nT h44) (Ap rfl (Bb (cs := Ek) rfl (B8 (cs' := Ek) s43 zP7 (Ah rfl) rfl (Ca rfl) rfl fun H s51 => Aq s51 (.here) rfl (Al (B0 s51 rfl (.agg ⟨_, rfl, rfl⟩ (Du (.nl (Du (.nl (G6 (.nl (.sc (.sc (.nl (.nl (.nl .nil))))))))))) (.sc (.sc .nil))) ⟨(L7 ⟨_, rfl, rfl⟩ (Dv ⟨A9, (Dv ⟨A9, (Hb ⟨A9, (E8 ⟨A9, ⟨A9, ⟨A9, trivial⟩⟩⟩)⟩)⟩)⟩)), (E8 trivial)⟩) ?_)))))))))))))
 have e : E3 Dh B = ((B3 0), 0, 2) := by
  unfold E3 Er Ep; simp only [h3, h6, h9, h10, h12, h44, q7, if_true, if_false, zaa, reduceIte, D9]
 rw [e]
 rfl
 have dh9 := of_decide_eq_false h9
 refine Ap (nT h9) (Bb (cs := Ek) rfl (B8 (cs' := Ek) s8 (.here) (Ah rfl) rfl (Ca rfl) rfl fun H s52 => Aq s52 (.here) rfl (Al (B0 s52 rfl (.agg ⟨_, rfl, rfl⟩ (Du (.nl (Du (.nl (G6 (.nl (.sc (.sc (.nl (.nl (.nl .nil))))))))))) (.sc (.sc .nil))) ⟨(L7 ⟨_, rfl, rfl⟩ (Dv ⟨A9, (Dv ⟨A9, (Hb ⟨A9, (E8 ⟨A9, ⟨A9, ⟨A9, trivial⟩⟩⟩)⟩)⟩)⟩)), (E8 trivial)⟩) ?_)))
 have e : E3 Dh B = ((B3 0), 0, cq7) := by
  unfold E3 Er Ep; simp only [h3, h6, h9, q7, if_true, if_false, zaa, reduceIte, D9]
 rw [e]
 rfl
 refine Ap (nT h6) (Bb (cs := Ek) rfl (B8 (cs' := Ek) s2 (.here) (Ah rfl) rfl (Ca rfl) rfl fun H s53 => Aq s53 (.here) rfl (Al (B0 s53 rfl (.agg ⟨_, rfl, rfl⟩ (Du (.nl (Du (.nl (G6 (.nl (.sc (.sc (.nl (.nl (.nl .nil))))))))))) (.sc (.sc .nil))) ⟨(L7 ⟨_, rfl, rfl⟩ (Dv ⟨A9, (Dv ⟨A9, (Hb ⟨A9, (E8 ⟨A9, ⟨A9, ⟨A9, trivial⟩⟩⟩)⟩)⟩)⟩)), (E8 trivial)⟩) ?_)))
 have e : E3 Dh B = ((B3 0), 0, 2) := by
  unfold E3 Er Ep; simp only [h3, h6, if_true, if_false, zaa, reduceIte, D9]
 rw [e]
 rfl
end
section
open Go
theorem Ajp {p : PacketV} (h : Am p = true) (h1 : 4 ≤ p.fType) (h2 : p.fType ≤ 11) : 1 ≤ p.fId ∧ p.fId ≤ 65535 := by
 obtain ⟨_, _, hk⟩ := Fi h
 unfold Cj at hk
 rw [if_neg (by omega), if_neg (by omega), if_neg (by omega)] at hk
 by_cases h4 : p.fType = 4 ∨ p.fType = 5 ∨ p.fType = 6 ∨ p.fType = 7 ∨ p.fType = 11
 rwa [if_pos h4, Gu] at hk
 rw [if_neg h4, if_pos (by omega)] at hk
 simp only [zag, Gu] at hk
 exact hk.1
theorem Rb {p : PacketV} (h : Am p = true) (h1 : p.fType = 8 ∨ p.fType = 9 ∨ p.fType = 10) : (∀ w ∈ p.fWants, Bo w.fFilter = true ∧ 0 ≤ w.fQos ∧ w.fQos < 256) ∧ (∀ w ∈ p.fNames, Bo w = true) ∧ (∀ c ∈ p.fCodes, 0 ≤ c ∧ c < 256) ∧ p.fWants.length + p.fNames.length + p.fCodes.length ≤ 4 := by
 obtain ⟨_, _, hk⟩ := Fi h
 unfold Cj at hk
 rw [if_neg (by omega), if_neg (by omega), if_neg (by omega), if_neg (by omega), if_pos h1] at hk
 unfold Ey Iv Jj F8 at hk
 simp only [zag, Gu, za4] at hk
 obtain ⟨_, k1, k2, k3, k4⟩ := hk
 refine ⟨fun w hw => ?_, fun w hw => T0 (k2 w hw), fun c hc => ?_, by omega⟩
 have := k1 w hw
 unfold Cf at this
 rw [zag, Gu] at this
 exact ⟨T0 this.1, by omega, by omega⟩
 have := k3 c hc
 unfold Cc at this
 rw [zaI, Gu, decide_eq_true_eq] at this
 omega
theorem AcR {p : PacketV} (h : Am p = true) (h1 : 4 ≤ p.fType) (h2 : p.fType ≤ 11) : p = { B3 p.fType with fId := p.fId, fWants := p.fWants, fCodes := p.fCodes, fNames := p.fNames } := by
 obtain ⟨_, hn, _⟩ := Fi h
 obtain ⟨_, _, _, _, _, k6, k7, k8⟩ := Kh h
 unfold Aw at hn
 rw [if_neg (by omega), if_neg (by omega), if_neg (by omega)] at hn
 split at hn
 rw [k6 (by omega), k7 (by omega), k8 (by omega)]
 exact hn
 split at hn
 rw [k7 (by omega), k8 (by omega)]
 exact hn
 split at hn
 rw [k6 (by omega), k8 (by omega)]
 exact hn
 split at hn
 rw [k6 (by omega), k7 (by omega)]
 exact hn
 omega
theorem Acj {p : PacketV} (h : Am p = true) (h1 : 4 ≤ p.fType) (h2 : p.fType ≤ 11) : Dk (Cp p) (Cg p) = p ∧ Dh (Cp p) (Cg p) = p := by
 have hid := Ajp h h1 h2
 have ht := (Ru h).2
 have hz := AcR h h1 h2
 obtain ⟨_, _, _, _, _, k6, k7, k8⟩ := Kh h
 have er : Cg p = Hl p (Ak bs0 p.fId) := by
  unfold Cg
  rw [if_neg (by omega), if_neg (by omega), if_neg (by omega), if_neg (by omega)]
 have hbl : bl (Cg p) = Mn p.fId ++ ((p.fWants.map Kk).flatten ++ ((p.fCodes.map fun c => u8 (c % 256)) ++ (p.fNames.map Gk).flatten)) ∧ ∀ f a, f = p.fWants.length + p.fNames.length + p.fCodes.length + 1 → Sf (Cg p) a ((p.fWants.map Kk).flatten ++ ((p.fCodes.map fun c => u8 (c % 256)) ++ (p.fNames.map Gk).flatten)) → (∀ g, f ≤ g → Cb p.fType (Cg p) g (a, false) [] [] [] = (p.fWants, p.fCodes, p.fNames)) ∧ (∀ g, f ≤ g → Cy p.fType (Cg p) g a [] [] = some (p.fWants, p.fNames)) ∧ ∀ g, f ≤ g → (if p.fType = 9 then F7 (Cg p) g a [] else []) = p.fCodes := by
  have hb0 : bl (Ak bs0 p.fId) = Mn p.fId := by
   rw [Rm]
   rfl
  by_cases h8 : p.fType = 8 ∨ p.fType = 9 ∨ p.fType = 10
  obtain ⟨l1, l2, l3, l4⟩ := Rb h h8
  refine ⟨?_, fun f a hf s => ?_⟩
  rw [er]
  unfold Hl
  rw [U5 _ _ l2, U4, U6 _ _ fun w hw => (l1 w hw).1, hb0]
  simp only [zaf]
  rcases h8 with h8 | h8 | h8
  rw [k7 (by omega), k8 (by omega)] at s ⊢
  simp only [zaB, zb2, zap] at s
  rw [h8]
  refine ⟨fun g hg => ?_, fun g hg => ?_, fun g hg => by rw [if_neg (by decide)]⟩
  exact AmV p.fWants [] g a s l1 (by simp only [zaw]; omega) (by omega)
  exact AmX p.fWants [] g a s l1 (by omega)
  rw [k6 (by omega), k8 (by omega)] at s ⊢
  simp only [zaB, zb2, zap, zal] at s
  rw [h8]
  refine ⟨fun g hg => ?_, fun g hg => ?_, fun g hg => ?_⟩
  exact AmW p.fCodes [] g a s l3 (by simp only [zaw]; omega) (by omega)
  obtain ⟨g, rfl⟩ : ∃ k, g = k + 1 := ⟨g - 1, by omega⟩
  exact Sn (.inr (by decide))
  rw [if_pos rfl]
  exact rdC p.fCodes [] g a s l3 (by omega)
  rw [k6 (by omega), k7 (by omega)] at s ⊢
  simp only [zaB, zb2, zap, zal] at s
  rw [h8]
  refine ⟨fun g hg => ?_, fun g hg => ?_, fun g hg => by rw [if_neg (by decide)]⟩
  exact Ak6 p.fNames [] g a s l2 (by simp only [zaw]; omega) (by omega)
  exact Ak7 p.fNames [] g a s l2 (by omega)
  have e6 := k6 (by omega)
  have e7 := k7 (by omega)
  have e8 := k8 (by omega)
  refine ⟨?_, fun f a hf s => ?_⟩
  rw [er, Abj e6 e7 e8, hb0, e6, e7, e8]
  simp
  rw [e6, e7, e8] at s ⊢
  simp only [zaB, zb2, zap] at s
  refine ⟨fun g hg => ?_, fun g hg => ?_, fun g hg => by rw [if_neg (by omega)]⟩
  obtain ⟨g, rfl⟩ : ∃ k, g = k + 1 := ⟨g - 1, by omega⟩
  exact Ut s
  obtain ⟨g, rfl⟩ : ∃ k, g = k + 1 := ⟨g - 1, by omega⟩
  exact Sn (.inr (by omega))
 obtain ⟨hb, hl⟩ := hbl
 have s0 := Xi _ hb
 have e0 := Xj s0 (by omega) (by omega)
 obtain ⟨k0, s1⟩ := Qj s0 (by omega) (by omega)
 obtain ⟨q1, q2, q3⟩ := hl _ _ rfl s1
 have hsz : p.fWants.length + p.fNames.length + p.fCodes.length + 1 ≤ (Cg p).size + 1 ∧ p.fWants.length + p.fNames.length + p.fCodes.length + 1 ≤ 8 := by
  by_cases h8 : p.fType = 8 ∨ p.fType = 9 ∨ p.fType = 10
  obtain ⟨l1, l2, l3, l4⟩ := Rb h h8
  have hl := s1.len
  have f1 : ∀ l : List WantV, l.length ≤ ((l.map Kk).flatten).length := fun l => by
   induction l with
   | nil => simp
   | cons w l ih =>
    rw [zaq, zaz, zad]
    have : 1 ≤ (Kk w).length := by simp [Kk]
    simp only [zam]
    omega
  have f2 : ∀ l : List ByteArray, l.length ≤ ((l.map Gk).flatten).length := fun l => by
   induction l with
   | nil => simp
   | cons w l ih =>
    rw [zaq, zaz, zad]
    have : 1 ≤ (Gk w).length := by simp [Gk, Mn]
    simp only [zam]
    omega
  have g1 := f1 p.fWants
  have g2 := f2 p.fNames
  simp only [zad, zbG] at hl
  omega
  rw [k6 (by omega), k7 (by omega), k8 (by omega)]
  simp
 constructor
 unfold Dk
 dsimp only
 rw [ht, if_neg (by omega), if_neg (by omega), if_neg (by omega), if_neg (by omega), e0]
 dsimp only
 rw [q1 8 hsz.2]
 exact hz.symm
 unfold Dh
 rw [ht, if_neg (by omega), if_neg (by omega), if_neg (by omega), if_pos (by omega), k0]
 unfold Fl
 dsimp only
 rw [if_neg (by simp), q3 _ hsz.1, q2 _ hsz.1]
 exact hz.symm
theorem Amb {p : PacketV} (h : Am p = true) : Dk (Cp p) (Cg p) = p ∧ Dh (Cp p) (Cg p) = p := by
 have ht := (Ia h).ty
 have hf := (Ru h).2
 by_cases h1 : p.fType = 1
 have e : Cg p = Ev p := by unfold Cg; rw [if_pos h1]
 rw [e]
 unfold Dk Dh
 dsimp only
 rw [hf, h1, if_pos rfl, if_pos rfl]
 exact AjA h h1
 by_cases h2 : p.fType = 2
 have e : Cg p = A4 (A4 bs0 (A6 p.fPresent 1 % 256)) (p.fCode % 256) := by unfold Cg; rw [if_neg h1, if_pos h2]
 obtain ⟨a, b, c⟩ := AlZ h h2 e
 unfold Dk Dh
 dsimp only
 rw [hf, h2, if_neg (by decide), if_pos rfl, if_neg (by decide), if_pos ⟨rfl, b⟩]
 exact ⟨a, c⟩
 by_cases h3 : p.fType = 3
 have e : Cg p = F9 p := by unfold Cg; rw [if_neg h1, if_neg h2, if_pos h3]
 rw [e]
 exact Ama h h3
 by_cases h4 : p.fType ≤ 11
 exact Acj h (by omega) h4
 have e : Cg p = bs0 := by unfold Cg; rw [if_neg h1, if_neg h2, if_neg h3, if_pos (by omega)]
 have hz : p = B3 p.fType := by
  obtain ⟨_, hn, _⟩ := Fi h
  unfold Aw at hn
  rw [if_neg h1, if_neg h2, if_neg h3, if_neg (by omega), if_neg (by omega), if_neg (by omega), if_neg (by omega)] at hn
  exact hn
 unfold Dk Dh
 dsimp only
 rw [hf, e, if_neg h1, if_neg h2, if_neg h3, if_pos (by omega), if_neg h1, if_neg (by omega), if_neg h3, if_neg (by omega)]
 unfold Fl
 dsimp only
 rw [if_neg (by simp), if_neg (by omega), Sn (.inr (by omega))]
 exact ⟨hz.symm, hz.symm⟩
theorem Ajt {B : ByteArray} {a m : Int} (ha : 0 ≤ a) (hm : 0 ≤ m ∧ m < 128) (hb : A2 B a = m) (hs : a < ((B.size : Nat) : Int)) : Cv B a = (m, a + 1, 0) := by
 unfold Cv
 rw [if_neg (by omega), D1, Int.add_zero, if_neg (by omega), hb, if_pos hm.2, if_neg (by omega), O2 hm.1 (by omega)]
 have e : bits .or .i64 0 (m % 128 * 2 ^ (7 * (0 : Int)).toNat) = m := by
  rw [show m % 128 * 2 ^ (7 * (0 : Int)).toNat = m by simp; omega, Ur 7 0 m (by decide) (by decide) (by decide) (by omega) (by omega) (by omega)]
  omega
 rw [e]
theorem Aju {B : ByteArray} {a m : Int} (ha : 0 ≤ a) (hm : 128 ≤ m ∧ m < 16384) (hb : A2 B a = m % 128 + 128) (hb2 : A2 B (a + 1) = m / 128) (hs : a + 1 < ((B.size : Nat) : Int)) : Cv B a = (m, a + 2, 0) := by
 unfold Cv
 rw [if_neg (by omega), D1, Int.add_zero, if_neg (by omega), hb, if_neg (by omega), O2 (by omega) (by omega)]
 have e : bits .or .i64 0 ((m % 128 + 128) % 128 * 2 ^ (7 * (0 : Int)).toNat) = m % 128 := by
  rw [show (m % 128 + 128) % 128 * 2 ^ (7 * (0 : Int)).toNat = m % 128 by simp, Ur 7 0 (m % 128) (by decide) (by decide) (by decide) (by omega) (by omega) (by omega)]
  omega
 rw [e, Int.zero_add, D1, if_neg (by omega), hb2, if_pos (by omega), if_neg (by omega), O2 (by omega) (by omega)]
 have e2 : bits .or .i64 (m % 128) (m / 128 % 128 * 2 ^ (7 * (1 : Int)).toNat) = m := by
  rw [show m / 128 % 128 * 2 ^ (7 * (1 : Int)).toNat = m / 128 * 128 by
   have : m / 128 % 128 = m / 128 := by omega
   rw [this]
   rfl, AlV 7 (m / 128 * 128) (m % 128) (by omega) (by omega) (by omega) (by omega) (by omega) (by omega)]
  omega
 rw [e2, Int.add_assoc]
 rfl
theorem AaJ (B : ByteArray) (a : Int) : ∀ (f : Nat) (i z : Int), (D1 B a f i z).2.2 = 0 → (D1 B a f i z).2.1 ≤ a + i + f
 | 0, i, z, h => by simp [D1] at h
 | f + 1, i, z, h => by
  rw [D1] at h ⊢
  split at h
  simp at h
  rename_i h2
  rw [if_neg h2]
  split at h
  rename_i h3
  rw [if_pos h3]
  split at h
  simp at h
  rename_i h4
  rw [if_neg h4]
  show a + i + 1 ≤ _
  omega
  rename_i h3
  rw [if_neg h3]
  have := AaJ B a f (i + 1) _ h
  omega
theorem Xu {B : ByteArray} {a n x : Int} (h : Cv B a = (n, x, 0)) : x ≤ a + 4 := by
 unfold Cv at h
 split at h
 cases h
 have := AaJ B a 4 0 0 (by rw [h])
 rw [h] at this
 simpa using this
theorem Yd {b : ByteArray} {m : Int} (h0 : 0 ≤ m) (h1 : m < 16384) : bl (C6 b m) = bl b ++ (if m < 128 then [u8 m] else [u8 (m % 128 + 128), u8 (m / 128)]) := by
 unfold C6
 rw [if_pos (by rw [Gu]; omega)]
 unfold Kt
 split
 unfold Kt
 rw [if_neg (by omega), if_neg (by omega), Iu, Iu, zaf, show (m % 128 + 128) % 256 = m % 128 + 128 by omega, show m / 128 % 256 = m / 128 by omega]
 rfl
 rw [if_pos (by omega), Iu, show m % 256 = m by omega]
theorem Aba (p : PacketV) : (Cg p).size ≤ (Ij p).size := by
 unfold Ij
 rw [zah]
 omega
theorem frame {p : PacketV} (h : Am p = true) {B : ByteArray} {m : Int} (hm : m = (((Cg p).size : Nat) : Int)) (hm2 : m < 16384) {r : List UInt8} (hB : bl B = bl (Ij p) ++ r) : A2 B 0 = Cp p ∧ ∃ k, Cv B 1 = (m, k, 0) ∧ k + m = (((Ij p).size : Nat) : Int) ∧ (1 ≤ k ∧ k + m ≤ ((B.size : Nat) : Int)) ∧ B.extract k.toNat (k + m).toNat = Cg p := by
 obtain ⟨hf, _⟩ := Ru h
 have hsz : (Ij p).size + r.length = B.size := by
  rw [← Gv B, hB, zad, Gv]
 have e : bl (Ij p) = u8 (Cp p) :: ((if m < 128 then [u8 m] else [u8 (m % 128 + 128), u8 (m / 128)]) ++ bl (Cg p)) := by
  unfold Ij
  rw [Ze, ← hm, Yd (by omega) hm2, Iu, show Cp p % 256 = Cp p by omega]
  simp only [zaf]
  rfl
 have s0 := Xi B hB
 rw [e] at s0
 obtain ⟨b0, _, s1⟩ := Sf.head s0
 rw [La hf.1 hf.2] at b0
 have el := congrArg List.length e
 rw [Gv] at el
 refine ⟨b0, ?_⟩
 have cut : ∀ (k : Int) , Sf B k (bl (Cg p) ++ r) → B.extract k.toNat (k + m).toNat = Cg p := fun k s => by
  apply Abw
  rw [Zf, s.2.2]
  have := s.1
  rw [show (k + m).toNat - k.toNat = (bl (Cg p)).length by rw [Gv]; omega, List.take_left]
 by_cases h1 : m < 128
 rw [if_pos h1] at s1 el
 obtain ⟨b1, l1, s2⟩ := Sf.head s1
 rw [La (by omega) (by omega)] at b1
 simp only [zam, zad, zaw, Gv] at el
 exact ⟨2, Ajt (by omega) (by omega) b1 l1, by omega, by omega, cut 2 s2⟩
 rw [if_neg h1] at s1 el
 obtain ⟨b1, l1, s2⟩ := Sf.head s1
 obtain ⟨b2, l2, s3⟩ := Sf.head s2
 rw [La (by omega) (by omega)] at b1 b2
 simp only [zam, zad, zaw, Gv] at el
 exact ⟨3, Aju (by omega) (by omega) b1 b2 l2, by omega, by omega, cut 3 s3⟩
theorem Ahu {p : PacketV} (h : Am p = true) : Fv p = Ij p := by
 unfold Fv
 rw [if_pos h]
theorem Aje {B : ByteArray} {n a : Int} (hg : Cv B 1 = (n, a, 0)) (hn : 0 ≤ n ∧ n ≤ 340) (ha : 1 ≤ a) (hs : a + n ≤ ((B.size : Nat) : Int)) {p : PacketV} (h : Am p = true) (hp : ((Fv p).toList == (B.extract (0 : Int).toNat (a + n).toNat).toList) = true) : Dk (A2 B 0) (B.extract a.toNat (a + n).toNat) = p ∧ Dh (A2 B 0) (B.extract a.toNat (a + n).toNat) = p := by
 have e := O3 hp
 rw [Ahu h] at e
 have hat := Xu hg
 have e2 : bl (Ij p) = (bl B).take (a + n).toNat := by
  rw [e, Zf]
  simp
 have hsz : (Ij p).size = (a + n).toNat := by
  rw [← Gv, e2, zbA, Gv]
  omega
 have hle := Aba p
 have hB : bl B = bl (Ij p) ++ (bl B).drop (a + n).toNat := by
  rw [e2, zbv]
 obtain ⟨b0, k, g, g2, g3, g4⟩ := frame h rfl (by omega) hB
 rw [hg] at g
 cases g
 rw [b0, g4]
 exact Amb h
theorem AlK (B : ByteArray) : E3 Dh B = E3 Dk B := by
 unfold E3
 split
 rfl
 split
 rfl
 obtain ⟨n, a, c, e⟩ : ∃ n a c, Cv B 1 = (n, a, c) := ⟨_, _, _, rfl⟩
 have hb := Oi (B := B) (a := 1)
 rw [e] at hb ⊢
 dsimp only at hb
 unfold Er
 dsimp only
 split
 rfl
 rename_i hc
 have hc : c = 0 := by simpa using hc
 subst hc
 split
 rfl
 rename_i hn
 simp only [decide_eq_true_eq, Int.not_lt] at hn
 split
 rfl
 rename_i hs
 simp only [decide_eq_true_eq, Int.not_lt] at hs
 have hb := hb rfl
 have key : ∀ p, Am p = true → ((Fv p).toList == (B.extract (0 : Int).toNat (a + n).toNat).toList) = true → _ := fun p h hp => Aje e (by omega) (by omega) (by omega) h hp
 unfold Ep
 generalize hI : Dk (A2 B 0) (B.extract a.toNat (a + n).toNat) = x at key ⊢
 generalize hS : Dh (A2 B 0) (B.extract a.toNat (a + n).toNat) = y at key ⊢
 by_cases g1 : Am x = true ∧ ((Fv x).toList == (B.extract (0 : Int).toNat (a + n).toNat).toList) = true
 have := (key x g1.1 g1.2).2
 rw [this]
 by_cases g2 : Am y = true ∧ ((Fv y).toList == (B.extract (0 : Int).toNat (a + n).toNat).toList) = true
 have := (key y g2.1 g2.2).1
 rw [this]
 rw [if_pos, if_pos]
 simp only [zaI, Bool.not_eq_true', ← Bool.not_eq_true]
 by_cases k : Am x = true
 exact .inr fun hq => g1 ⟨k, hq⟩
 exact .inl k
 simp only [zaI, Bool.not_eq_true', ← Bool.not_eq_true]
 by_cases k : Am y = true
 exact .inr fun hq => g2 ⟨k, hq⟩
 exact .inl k
abbrev Adj (B : ByteArray) : PacketV × Int × Int := E3 Dk B
def Ag (B : ByteArray) : PacketV := (Adj B).1
def L0 (B : ByteArray) : Int := (Adj B).2.1
def Nh (B : ByteArray) : Int := (Adj B).2.2
theorem Ah1 (n : Nat) (hn : 1048576 < n) (x0 : ByteArray) (b0 : x0.size ≤ 2097152) : C0 E0 (n + 13) 60 31 [Ad x0] = some (.tup [.agg (An (Ag x0)), .sc (.int .i64 (L0 x0)), .sc (.int .i64 (Nh x0))]) := by
 have h := Ah0 n hn x0 b0
 rw [AlK] at h
 exact h
theorem AgU (n : Nat) (hn : 1048576 < n) (x0 : ByteArray) (b0 : x0.size ≤ 2097152) : C0 E0 (n + 13) 60 33 [Ad x0] = some (.tup [.agg (An (Ag x0)), .sc (.int .i64 (L0 x0)), .sc (.int .i64 (Nh x0))]) := AgT n hn x0 b0
end
section
open Go
theorem Abn : ∀ l : List WantV, P2 Il l ≤ ((l.map Kk).flatten).length
 | [] => zav _
 | w :: l => by
  have := Abn l
  have e : Il w = w.fFilter.size + 0 := rfl
  rw [P2, zaq, zaz, zad, e]
  have : (Kk w).length = w.fFilter.size + 3 := by simp [Kk, Gk, Mn, Gv]; try omega
  omega
theorem AaM : ∀ l : List ByteArray, P2 zbk l ≤ ((l.map Gk).flatten).length
 | [] => zav _
 | w :: l => by
  have := AaM l
  rw [P2, zaq, zaz, zad]
  have : (Gk w).length = w.size + 2 := by simp [Gk, Mn, Gv]; try omega
  omega
theorem W9 (c : Bool) (l : List UInt8) (k : Nat) (h : c = true → k ≤ l.length) (h0 : c = false → k = 0) : k ≤ (Hy c l).length := by
 cases c
 rw [h0 rfl]; exact zav _
 exact h rfl
theorem Rn (s : ByteArray) : (Gk s).length = s.size + 2 := by simp [Gk, Mn, Gv]; try omega
theorem AjS {p : PacketV} (h : Am p = true) : Co p ≤ (Cg p).size := by
 have ht := (Ia h).ty
 by_cases h1 : p.fType = 1
 have e : Cg p = Ev p := by unfold Cg; rw [if_pos h1]
 obtain ⟨⟨c1, c2, c3, c4⟩, _⟩ := Q0 h h1
 obtain ⟨z0, z1, z2, z3⟩ := Zi h h1
 have el := congrArg List.length (Acz c1 c2 c3 c4)
 rw [Gv, ← e] at el
 have p1 := W9 p.fHasWill (Gk p.fWTopic ++ Gk p.fWBody) (p.fWTopic.size + p.fWBody.size) (fun _ => by rw [zad, Rn, Rn]; omega) (fun k => by rw [(z1 k).1, (z1 k).2.1]; rfl)
 have p2 := W9 p.fHasUser (Gk p.fUser) p.fUser.size (fun _ => by rw [Rn]; omega) (fun k => by rw [(z2 k).1]; rfl)
 have p3 := W9 p.fHasPass (Gk p.fPass) p.fPass.size (fun _ => by rw [Rn]; omega) (fun k => by rw [z3 k]; rfl)
 simp only [zad, zam, Rn] at el
 have : Co p = p.fClient.size + (p.fWTopic.size + (p.fWBody.size + (p.fUser.size + p.fPass.size))) := by
  rw [z0]
  simp [Co, B3, P2, Bc]
  try omega
 omega
 by_cases h2 : p.fType = 2
 have : Co p = 0 := by
  obtain ⟨_, hn, _⟩ := Fi h
  unfold Aw at hn
  rw [if_neg h1, if_pos h2] at hn
  rw [hn]
  rfl
 omega
 by_cases h3 : p.fType = 3
 have e : Cg p = F9 p := by unfold Cg; rw [if_neg h1, if_neg h2, if_pos h3]
 obtain ⟨_, hn, hk⟩ := Fi h
 unfold Cj at hk
 rw [if_neg (by omega), if_neg (by omega), if_pos h3] at hk
 simp only [zag] at hk
 have hT := Rh hk.2.1
 have : Co p = p.fTopic.size + p.fBody.size := by
  have e2 := congrArg Co hn
  unfold Aw at e2
  rw [if_neg h1, if_neg h2, if_pos h3] at e2
  split at e2 <;> (rw [e2]; simp [Co, B3, P2, Bc])
 rw [e]
 unfold F9 Aj
 rw [if_pos hT, zah]
 split
 rw [At, zah]
 omega
 rw [zah]
 omega
 by_cases h4 : p.fType ≤ 11
 have hz := AcR h (by omega) h4
 obtain ⟨_, _, _, _, _, k6, k7, k8⟩ := Kh h
 have w : Co p = P2 Il p.fWants + (P2 zbk p.fNames + p.fCodes.length) := by
  rw [hz]
  simp [Co, B3, Bc]
 by_cases h8 : p.fType = 8 ∨ p.fType = 9 ∨ p.fType = 10
 obtain ⟨l1, l2, l3, l4⟩ := Rb h h8
 have er : Cg p = Hl p (Ak bs0 p.fId) := by
  unfold Cg
  rw [if_neg (by omega), if_neg (by omega), if_neg (by omega), if_neg (by omega)]
 have el : bl (Cg p) = bl (Ak bs0 p.fId) ++ (p.fWants.map Kk).flatten ++ (p.fCodes.map fun c => u8 (c % 256)) ++ (p.fNames.map Gk).flatten := by
  rw [er]
  unfold Hl
  rw [U5 _ _ l2, U4, U6 _ _ fun w hw => (l1 w hw).1]
 have el := congrArg List.length el
 rw [Gv] at el
 simp only [zad, zbG] at el
 have a1 := Abn p.fWants
 have a2 := AaM p.fNames
 omega
 rw [w, k6 (by omega), k7 (by omega), k8 (by omega)]
 exact zav _
 have : Co p = 0 := by
  obtain ⟨_, hn, _⟩ := Fi h
  unfold Aw at hn
  rw [if_neg h1, if_neg h2, if_neg h3, if_neg (by omega), if_neg (by omega), if_neg (by omega), if_neg (by omega)] at hn
  rw [hn]
  rfl
 omega
theorem AgP {B : ByteArray} (h : Nh B = 0) : ∃ n a, Cv B 1 = (n, a, 0) ∧ (0 ≤ n ∧ n ≤ 340) ∧ 1 ≤ a ∧ a + n ≤ ((B.size : Nat) : Int) ∧ L0 B = a + n ∧ Am (Ag B) = true ∧ Fv (Ag B) = B.extract (0 : Int).toNat (a + n).toNat := by
 unfold Nh L0 Ag Adj E3 at *
 split at h
 cases h
 rename_i g1
 rw [if_neg g1]
 split at h
 cases h
 rename_i g2
 rw [if_neg g2]
 obtain ⟨n, a, c, e⟩ : ∃ n a c, Cv B 1 = (n, a, c) := ⟨_, _, _, rfl⟩
 have hb := Oi (B := B) (a := 1)
 rw [e] at hb h ⊢
 dsimp only at hb
 unfold Er at h ⊢
 dsimp only at h ⊢
 split at h
 rename_i g3
 dsimp only at h
 rw [h] at g3
 cases g3
 rename_i g3
 rw [if_neg g3]
 have hc : c = 0 := by simpa using g3
 subst hc
 split at h
 cases h
 rename_i g4
 rw [if_neg g4]
 simp only [decide_eq_true_eq, Int.not_lt] at g4
 split at h
 cases h
 rename_i g5
 rw [if_neg g5]
 simp only [decide_eq_true_eq, Int.not_lt] at g5
 have hb := hb rfl
 unfold Ep at h ⊢
 split at h
 cases h
 rename_i g6
 rw [if_neg g6]
 simp only [zaI, Bool.not_eq_true', not_or, Bool.not_eq_false] at g6
 exact ⟨n, a, rfl, ⟨by omega, by omega⟩, by omega, by omega, rfl, g6.1, O3 g6.2⟩
theorem Zv {B : ByteArray} (h : Nh B = 0) : (2 ≤ L0 B ∧ L0 B ≤ ((B.size : Nat) : Int) ∧ L0 B ≤ 345) ∧ (((2 + Co (Ag B) : Nat)) : Int) ≤ L0 B := by
 obtain ⟨n, a, e, hn, ha, hs, hN, hk, hp⟩ := AgP h
 have hw := AjS hk
 rw [Ahu hk] at hp
 have hz := congrArg zbk hp
 have hat := Xu e
 have hle := Aba (Ag B)
 rw [zao] at hz
 have hr : (Cg (Ag B)).size + 2 ≤ (Ij (Ag B)).size := by
  unfold Ij
  rw [zah]
  have g := congrArg List.length (Yd (b := A4 bs0 (Cp (Ag B) % 256)) (m := (((Cg (Ag B)).size : Nat) : Int)) (by omega) (by omega))
  rw [Gv, zad, Gv, Av] at g
  have g2 : 1 ≤ (if (((Cg (Ag B)).size : Nat) : Int) < 128 then [u8 (((Cg (Ag B)).size : Nat) : Int)] else [u8 ((((Cg (Ag B)).size : Nat) : Int) % 128 + 128), u8 ((((Cg (Ag B)).size : Nat) : Int) / 128)]).length := by
   split <;> simp
  omega
 omega
def Xb (B : ByteArray) : Nat → Int → List PacketV → List PacketV × Int × Int
 | 0, a, l => (l, 0, a)
 | f + 1, a, l =>
  if a < ((B.size : Nat) : Int) then
   (if Nh (B.extract a.toNat ((B.size : Nat) : Int).toNat) = 0 then Xb B f (a + L0 (B.extract a.toNat ((B.size : Nat) : Int).toNat)) (l ++ [Ag (B.extract a.toNat ((B.size : Nat) : Int).toNat)]) else (l, Nh (B.extract a.toNat ((B.size : Nat) : Int).toNat), a))
  else (l, 0, a)
theorem Vf (B : ByteArray) {a : Int} (h : 0 ≤ a ∧ a ≤ ((B.size : Nat) : Int)) : (((B.extract a.toNat ((B.size : Nat) : Int).toNat).size : Nat) : Int) = ((B.size : Nat) : Int) - a := by
 rw [zao]
 omega
theorem Abp {α : Type} (w : α → Nat) : ∀ (l : List α) (x : α), P2 w (l ++ [x]) = P2 w l + (1 + w x)
 | [], x => by simp [P2]
 | y :: l, x => by
  rw [zau, P2, P2, Abp w l x]
  omega
theorem Ahv (B : ByteArray) : ∀ (f : Nat) (a : Int) (l : List PacketV), (0 ≤ a ∧ a ≤ ((B.size : Nat) : Int)) → 345 * ((P2 Co l : Nat) : Int) ≤ 344 * a → 345 * P2 Co (Xb B f a l).1 ≤ 344 * B.size
 | 0, a, l, h, hl => by
  show 345 * P2 Co l ≤ 344 * B.size
  omega
 | f + 1, a, l, h, hl => by
  rw [Xb]
  split
  split
  rename_i g
  have h2 := Zv g
  rw [Vf B h] at h2
  refine Ahv B f _ _ (by omega) ?_
  rw [Abp]
  omega
  show 345 * P2 Co l ≤ 344 * B.size
  omega
  show 345 * P2 Co l ≤ 344 * B.size
  omega
def Amf (B : ByteArray) : List PacketV × Int × Int := Xb B (B.size / 2 + 1) 0 []
abbrev Hk (B : ByteArray) : List PacketV := (Amf B).1
abbrev Aad (B : ByteArray) : Int := (Amf B).2.1
abbrev Amg (B : ByteArray) : Int := (Amf B).2.2
theorem AjP (B : ByteArray) : 345 * P2 Co (Hk B) ≤ 344 * B.size := Ahv B _ 0 [] (by omega) (by simp [P2])
end
section
open Go
inductive MF where
 | str
 | int
 | bool
 | byt
 | skip
 | sub (fs : List MF)
def Io (n : Nat) (fs : List MF) : List MF := (zai n fs).flatten
theorem I2 (n : Nat) (fs : List MF) : Io (n + 1) fs = fs ++ Io n fs := by rw [Io, zbb, zaz, Io]
theorem Abb (n : Nat) (fs : List MF) : (Io n fs).length = n * fs.length := by simp [Io]
def Ab4 (k : Nat) (out : ByteArray) : ByteArray := if h : k = 0 then out else Ab4 (k / 10) (⟨#[UInt8.ofNat (48 + k % 10)]⟩ ++ out)
termination_by k
decreasing_by omega
def AeD (k : Int) : ByteArray := ⟨#[109]⟩ ++ (if k ≤ 0 then ⟨#[48]⟩ else Ab4 k.toNat ⟨#[]⟩)
mutual
def Jl (f : MF) (k : Int) : AV → AV × Int
 | .sc v =>
  match f with
  | .str => (.sc (.string (AeD k)), k + 1)
  | .int => (.sc (.int .i64 k), k + 1)
  | .bool => (.sc (.bool (k.tmod 3 == 0)), k + 1)
  | .byt => (.sc (.int .u8 (IntKind.u8.wrap k)), k + 1)
  | _ => (.sc v, k)
 | .ro n cells =>
  match f with
  | .sub fs => (.ro n (J9 (Io n fs) k cells).1, (J9 (Io n fs) k cells).2)
  | _ => (.ro n cells, k)
 | x => (x, k)
def J9 (fs : List MF) (k : Int) : List AV → List AV × Int
 | [] => ([], k)
 | c :: cs => ((Jl (fs.headD .skip) k c).1 :: (J9 fs.tail (Jl (fs.headD .skip) k c).2 cs).1, (J9 fs.tail (Jl (fs.headD .skip) k c).2 cs).2)
end
mutual
def Ga (f : MF) : AV → Nat
 | .sc v =>
  match f with
  | .skip => 0
  | .sub _ => 0
  | _ => 1
 | .ro n cells =>
  match f with
  | .sub fs => Gz (Io n fs) cells
  | _ => 0
 | _ => 0
def Gz (fs : List MF) : List AV → Nat
 | [] => 0
 | c :: cs => Ga (fs.headD .skip) c + Gz fs.tail cs
end
mutual
def wfF (f : MF) : AV → Prop
 | .sc v =>
  match f, v with
  | .str, .string _ => True
  | .int, .int .i64 _ => True
  | .bool, .bool _ => True
  | .byt, .int .u8 _ => True
  | .skip, v => Oo v = true
  | _, _ => False
 | .ro n cells =>
  match f with
  | .sub fs => n ≤ 1048576 ∧ cells.length = n * fs.length ∧ Ya (Io n fs) cells
  | _ => False
 | _ => False
def Ya (fs : List MF) : List AV → Prop
 | [] => fs = []
 | c :: cs => fs ≠ [] ∧ wfF (fs.headD .skip) c ∧ Ya fs.tail cs
end
mutual
def Ob : AV → Nat
 | .ro _ cells => 1 + L6 cells
 | .agg cs => L6 cs
 | .tup cs => L6 cs
 | _ => 0
def L6 : List AV → Nat
 | [] => 0
 | c :: cs => Ob c + L6 cs
end
section lists
theorem AaL (f : MF) (fs : List MF) (k : Int) (c : AV) (cs : List AV) : J9 (f :: fs) k (c :: cs) = ((Jl f k c).1 :: (J9 fs (Jl f k c).2 cs).1, (J9 fs (Jl f k c).2 cs).2) := rfl
theorem Rd : ∀ (A B : List MF) (k : Int) (X Y : List AV), A.length = X.length → J9 (A ++ B) k (X ++ Y) = ((J9 A k X).1 ++ (J9 B (J9 A k X).2 Y).1, (J9 B (J9 A k X).2 Y).2)
 | [], B, k, [], Y, _ => by simp [J9]
 | f :: A, B, k, x :: X, Y, h => by
  have ih := Rd A B (Jl f k x).2 X Y (by simpa using h)
  rw [zau, zau, AaL, AaL, ih]
  rfl
theorem Mg : ∀ (A B : List MF) (X Y : List AV), A.length = X.length → Gz (A ++ B) (X ++ Y) = Gz A X + Gz B Y
 | [], B, [], Y, _ => by simp [Gz]
 | f :: A, B, x :: X, Y, h => by
  have ih := Mg A B X Y (by simpa using h)
  show Ga f x + Gz (A ++ B) (X ++ Y) = Ga f x + Gz A X + Gz B Y
  rw [ih, za9]
theorem wfL_cons {f : MF} {fs : List MF} {c : AV} {cs : List AV} : Ya (f :: fs) (c :: cs) ↔ wfF f c ∧ Ya fs cs := by
 show (f :: fs ≠ [] ∧ wfF f c ∧ Ya fs cs) ↔ _
 simp
theorem Qo : ∀ {fs : List MF} {cs : List AV}, Ya fs cs → fs.length = cs.length
 | fs, [], h => by
  have : fs = [] := h
  rw [this]
  rfl
 | [], _ :: _, h => absurd rfl h.1
 | f :: fs, c :: cs, h => by
  have := Qo (wfL_cons.1 h).2
  simp [this]
theorem Ok : ∀ {A B : List MF} {X Y : List AV}, A.length = X.length → (Ya (A ++ B) (X ++ Y) ↔ Ya A X ∧ Ya B Y)
 | [], B, [], Y, _ => by
  show _ ↔ (([] : List MF) = [] ∧ _)
  simp
 | f :: A, B, x :: X, Y, h => by
  have ih := Ok (A := A) (B := B) (X := X) (Y := Y) (by simpa using h)
  rw [zau, zau, wfL_cons, wfL_cons, ih, and_assoc]
mutual
theorem Sa : ∀ (x : AV) (f : MF) (k : Int), (Jl f k x).2 = k + Ga f x
 | .sc v, f, k => by cases f <;> simp [Jl, Ga]
 | .ro n cells, f, k => by
  cases f <;> first | (simp [Jl, Ga]; done) | exact Up cells _ k
 | .agg cs, f, k => by simp [Jl, Ga]
 | .tup cs, f, k => by simp [Jl, Ga]
 | .any, f, k => by simp [Jl, Ga]
 | .nl, f, k => by simp [Jl, Ga]
 | .sl .., f, k => by simp [Jl, Ga]
 | .ptr .., f, k => by simp [Jl, Ga]
 | .rp .., f, k => by simp [Jl, Ga]
 | .fn .., f, k => by simp [Jl, Ga]
theorem Up : ∀ (cs : List AV) (fs : List MF) (k : Int), (J9 fs k cs).2 = k + Gz fs cs
 | [], fs, k => by simp [J9, Gz]
 | c :: cs, fs, k => by
  show (J9 fs.tail (Jl (fs.headD .skip) k c).2 cs).2 = k + ((Ga (fs.headD .skip) c + Gz fs.tail cs : Nat) : Int)
  rw [Up cs, Sa c]
  omega
end
theorem Uq : ∀ (cs : List AV) (fs : List MF) (k : Int), (J9 fs k cs).1.length = cs.length
 | [], fs, k => by simp [J9]
 | c :: cs, fs, k => by
  show (J9 fs.tail _ cs).1.length + 1 = cs.length + 1
  rw [Uq cs]
mutual
theorem Rc : ∀ (x : AV) (f : MF) (k : Int), Ob (Jl f k x).1 = Ob x
 | .sc v, f, k => by cases f <;> rfl
 | .ro n cells, f, k => by
  cases f <;> first | rfl | (show 1 + L6 _ = 1 + L6 _; rw [Ahi cells])
 | .agg cs, f, k => by simp [Jl]
 | .tup cs, f, k => by simp [Jl]
 | .any, f, k => by simp [Jl]
 | .nl, f, k => by simp [Jl]
 | .sl .., f, k => by simp [Jl]
 | .ptr .., f, k => by simp [Jl]
 | .rp .., f, k => by simp [Jl]
 | .fn .., f, k => by simp [Jl]
theorem Ahi : ∀ (cs : List AV) (fs : List MF) (k : Int), L6 (J9 fs k cs).1 = L6 cs
 | [], fs, k => by simp [J9]
 | c :: cs, fs, k => by
  show Ob (Jl (fs.headD .skip) k c).1 + L6 (J9 fs.tail _ cs).1 = Ob c + L6 cs
  rw [Rc c, Ahi cs]
end
mutual
theorem J7 {ti : Nat → Option TI} {tp : Nat → Option (List Nat)} : ∀ (x : AV) (N ty : Nat), (B5 ti tp N ty x).2.length = Ob x
 | .sc v, N, ty => rfl
 | .ro n cells, N, ty => by
  simp only [B5, zam, Ob, Hv cells, zbD]
 | .agg cs, N, ty => Hv cs _ _
 | .tup cs, N, ty => Hv cs _ _
 | .any, N, ty => rfl
 | .nl, N, ty => rfl
 | .sl .., N, ty => rfl
 | .ptr .., N, ty => rfl
 | .rp .., N, ty => rfl
 | .fn .., N, ty => rfl
theorem Hv {ti : Nat → Option TI} {tp : Nat → Option (List Nat)} : ∀ (cs : List AV) (N : Nat) (ts : List Nat), (Bq ti tp N ts cs).2.length = L6 cs
 | [], N, ts => rfl
 | c :: cs, N, ts => by
  simp only [Bq, zad, L6, J7 c, Hv cs]
end
theorem Ww : ∀ (X Y : List AV), L6 (X ++ Y) = L6 X + L6 Y
 | [], Y => by simp [L6]
 | c :: X, Y => by
  show Ob c + L6 (X ++ Y) = Ob c + L6 X + L6 Y
  rw [Ww X Y, za9]
theorem Wn {ti : Nat → Option TI} {tp : Nat → Option (List Nat)} (TP TS : List Nat) (t : Nat) (P S : List AV) (c : AV) (N : Nat) (h : TP.length = P.length) :
  Bq ti tp N (TP ++ t :: TS) (P ++ c :: S) = ((Bq ti tp N TP P).1 ++ (B5 ti tp (N + L6 P) t c).1 :: (Bq ti tp (N + L6 P + Ob c) TS S).1, (Bq ti tp N TP P).2 ++ ((B5 ti tp (N + L6 P) t c).2 ++ (Bq ti tp (N + L6 P + Ob c) TS S).2)) := by
 rw [N8 TP P (t :: TS) (c :: S) N h, Hv]
 have e : Bq ti tp (N + L6 P) (t :: TS) (c :: S) = ((B5 ti tp (N + L6 P) t c).1 :: (Bq ti tp (N + L6 P + Ob c) TS S).1, (B5 ti tp (N + L6 P) t c).2 ++ (Bq ti tp (N + L6 P + Ob c) TS S).2) := by
  rw [Bq, J7]
  rfl
 rw [e]
end lists
section steps
variable {β : Type} {n : Nat} {r : Option β}
noncomputable def SB (N : Nat) (T : List Nat) (cells : List AV) : List Jm := ⟨(Bq As E0.tp (N + 1) T cells).1, true, true⟩ :: (Bq As E0.tp (N + 1) T cells).2
theorem Qd {ty len : Nat} {cells : List AV} {i j : TI} (h1 : As ty = some i) (h2 : As i.elem = some j) (N : Nat) : B5 As E0.tp N ty (.ro len cells) = (.sl N 0 len j.size, SB N (zai len j.cty).flatten cells) := by
 simp only [B5, h1, zac, h2, zaA]
 rfl
theorem Sp {A C : Ab} {TP TS : List Nat} {t p : Nat} {P S : List AV} {v0 v : Value} (hT : TP.length = P.length) (hv : Oo v = true) (hp : p = P.length) (K : Ab → Option β) :
  G9 1 (.ptr A.length p) (.sc v) (A ++ (SB A.length (TP ++ t :: TS) (P ++ .sc v0 :: S) ++ C)) K = K (A ++ (SB A.length (TP ++ t :: TS) (P ++ .sc v :: S) ++ C)) := by
 have hc : F1 (.sc v) = some [.sc v] := by simp only [F1, Bk, hv, if_true]
 have hl : (Bq As E0.tp (A.length + 1) TP P).1.length = P.length := M4 _ _ _
 simp only [SB, Wn TP TS t P S _ _ hT, Hw, Ob, zau]
 rw [Ah3 1 A.length p (.sc v) _ _ _ _ (Zw A _ _) hc rfl (by simp [hl, hp]) rfl, Amd]
 have := Xo (Bq As E0.tp (A.length + 1) TP P).1 [.sc v0] (Bq As E0.tp (A.length + 1 + L6 P + 0) TS S).1 [.sc v] rfl
 simp only [List.singleton_append, hl] at this
 rw [hp, this]
theorem AjG {A C : Ab} {TP TS : List Nat} {t p : Nat} {P S : List AV} {c : AV} (hT : TP.length = P.length) (hp : p = P.length) (K : AV → Option β) :
  Cz false 1 (.ptr A.length p) (A ++ (SB A.length (TP ++ t :: TS) (P ++ c :: S) ++ C)) K = K (B5 As E0.tp (A.length + 1 + L6 P) t c).1 := by
 have hl : (Bq As E0.tp (A.length + 1) TP P).1.length = P.length := M4 _ _ _
 simp only [SB, Wn TP TS t P S _ _ hT, zau]
 refine ldF ?_ K
 have : p + 1 ≤ ((Bq As E0.tp (A.length + 1) TP P).1 ++ (B5 As E0.tp (A.length + 1 + L6 P) t c).1 :: (Bq As E0.tp (A.length + 1 + L6 P + Ob c) TS S).1).length := by simp [hl, hp]
 simp only [Be, Zw, if_true, this]
 rw [hp, ← hl, zaD (zan _), zbq]
 rfl
def AjU (n f ty : Nat) (t t' : AV) (k k' : Int) : Prop := ∀ (β : Type) (A C : Ab) (K : KO β) (r : Option β),
 (∀ X, K (.sc (.int .i64 k')) (A ++ ((B5 As E0.tp A.length ty t').2 ++ (C ++ X))) = r) → Eh E0 n β f [(B5 As E0.tp A.length ty t).1, .sc (.int .i64 k)] (A ++ ((B5 As E0.tp A.length ty t).2 ++ C)) K = r
theorem AjV {ty : Nat} {f : FuncId} {args : List AV} {H : Ab} {K : KO β} (hh : E0.hm f = true) (hx : E0.ext f = none) : (PR n β).call ty (.fn f [] []) args H K = Eh E0 n β f args H K := by
 show Mf E0 (Eh E0 n) ty f ([] ++ args ++ []) H K = _
 simp only [Mf, hx, hh, zal, zap, if_true]
theorem AlO {A C : Ab} {TP TS : List Nat} {t p ty g : Nat} {P S : List AV} {c c' : AV} {k k' : Int} {K : KO β} (hT : TP.length = P.length) (hp : p = P.length) (hh : E0.hm g = true) (hx : E0.ext g = none) (hmk : AjU n g t c c' k k') (hs : ∀ M, (B5 As E0.tp M t c').1 = (B5 As E0.tp M t c).1) (hn : Ob c' = Ob c)
  (h : ∀ X, K (.sc (.int .i64 k')) (A ++ (SB A.length (TP ++ t :: TS) (P ++ c' :: S) ++ (C ++ X))) = r) :
  (Cz false 1 (.ptr A.length p) (A ++ (SB A.length (TP ++ t :: TS) (P ++ c :: S) ++ C)) fun v => (PR n β).call ty (.fn g [] []) [v, .sc (.int .i64 k)] (A ++ (SB A.length (TP ++ t :: TS) (P ++ c :: S) ++ C)) K) = r := by
 rw [AjG hT hp, AjV hh hx]
 have e : ∀ (d : AV) (D : Ab), A ++ (SB A.length (TP ++ t :: TS) (P ++ d :: S) ++ D) = (A ++ ⟨(Bq As E0.tp (A.length + 1) TP P).1 ++ (B5 As E0.tp (A.length + 1 + L6 P) t d).1 :: (Bq As E0.tp (A.length + 1 + L6 P + Ob d) TS S).1, true, true⟩ :: (Bq As E0.tp (A.length + 1) TP P).2) ++ ((B5 As E0.tp (A.length + 1 + L6 P) t d).2 ++ ((Bq As E0.tp (A.length + 1 + L6 P + Ob d) TS S).2 ++ D)) := by
  intro d D
  simp only [SB, Wn TP TS t P S _ _ hT, zau, zaf]
 have hN : ∀ b : Jm, (A ++ b :: (Bq As E0.tp (A.length + 1) TP P).2).length = A.length + 1 + L6 P := by
  intro b
  rw [zad, zam, Hv]
  omega
 rw [e c C]
 have key := hmk β (A ++ ⟨(Bq As E0.tp (A.length + 1) TP P).1 ++ (B5 As E0.tp (A.length + 1 + L6 P) t c).1 :: (Bq As E0.tp (A.length + 1 + L6 P + Ob c) TS S).1, true, true⟩ :: (Bq As E0.tp (A.length + 1) TP P).2) ((Bq As E0.tp (A.length + 1 + L6 P + Ob c) TS S).2 ++ C) K r
 rw [hN] at key
 refine key fun X => ?_
 have h2 := h X
 rw [e c' (C ++ X), hs, hn] at h2
 simp only [zaf, zau] at h2 ⊢
 exact h2
end steps
structure FD where
 f : MF
 path : List Nat
 g : FuncId
def Rk (n tS g : Nat) : Prop := F3 g = false ∧ ∀ k : Int, 0 ≤ k → k ≤ 4611686018427387904 → C0 E0 n tS g [.sc (.int .i64 k)] = some (.sc (.string (AeD k)))
def Nq (n g ty : Nat) (fs : List MF) : Prop := E0.hm g = true ∧ E0.ext g = none ∧ (∃ i j, As ty = some i ∧ As i.elem = some j) ∧ ∀ (len : Nat) (cells : List AV) (k : Int), wfF (.sub fs) (.ro len cells) → 0 ≤ k → k + Ga (.sub fs) (.ro len cells) ≤ 4611686018427387904 →
 AjU n g ty (.ro len cells) (Jl (.sub fs) k (.ro len cells)).1 k (Jl (.sub fs) k (.ro len cells)).2
def Oz (n g : Nat) (fs : List MF) : Prop := F3 g = false ∧ ∀ (ty len : Nat) (cells : List AV) (k : Int), wfF (.sub fs) (.ro len cells) → 0 ≤ k → k + Ga (.sub fs) (.ro len cells) ≤ 4611686018427387904 →
 C0 E0 n ty g [(Jl (.sub fs) k (.ro len cells)).1, .sc (.int .i64 k)] = some (.sc (.int .i64 (Jl (.sub fs) k (.ro len cells)).2))
def AnN (n t g : Nat) : MF → Prop
 | .sub fs => Nq n g t fs
 | _ => True
def AnM (n g : Nat) : MF → Prop
 | .sub fs => Oz n g fs
 | _ => True
def AeS (n : Nat) : Nat → List FD → List Nat → Prop
 | off, fd :: r, t :: ts => fd.path.sum = off ∧ AnN n t fd.g fd.f ∧ AeS n (off + 1) r ts
 | _, [], [] => True
 | _, _, _ => False
def AhJ (n : Nat) : Nat → List FD → Prop
 | off, fd :: r => fd.path.sum = off ∧ AnM n fd.g fd.f ∧ AhJ n (off + 1) r
 | _, [] => True
section fns
variable {β : Type}
def Fw (p : Pr β) : List Nat → AV → (AV → Option β) → Option β
 | [], x, K => K x
 | o :: r, x, K => p.fadr o x fun t => Fw p r t K
def Lo (p : Pr β) (tS tI gT w : Nat) (a i : AV) : List FD → AV → Ab → (KO β) → Option β
 | [], k, H, K => K k H
 | ⟨.str, path, _⟩ :: r, k, H, K => p.call tS (.fn gT [] []) [k] H fun s H => p.iadr w a i fun t => Fw p path t fun t => p.store 1 t s H fun H => p.bin .add k (.sc (.int .i64 1)) fun k => Lo p tS tI gT w a i r k H K
 | ⟨.int, path, _⟩ :: r, k, H, K => p.iadr w a i fun t => Fw p path t fun t => p.store 1 t k H fun H => p.bin .add k (.sc (.int .i64 1)) fun k => Lo p tS tI gT w a i r k H K
 | ⟨.bool, path, _⟩ :: r, k, H, K => p.bin .rem k (.sc (.int .i64 3)) fun q => p.bin .eql q (.sc (.int .i64 0)) fun b => p.iadr w a i fun t => Fw p path t fun t => p.store 1 t b H fun H => p.bin .add k (.sc (.int .i64 1)) fun k => Lo p tS tI gT w a i r k H K
 | ⟨.byt, path, _⟩ :: r, k, H, K => p.cvI .u8 k fun c => p.iadr w a i fun t => Fw p path t fun t => p.store 1 t c H fun H => p.bin .add k (.sc (.int .i64 1)) fun k => Lo p tS tI gT w a i r k H K
 | ⟨.sub _, path, g⟩ :: r, k, H, K => p.iadr w a i fun t => Fw p path t fun t => p.load false 1 t H fun v => p.call tI (.fn g [] []) [v, k] H fun k H => Lo p tS tI gT w a i r k H K
 | ⟨.skip, _, _⟩ :: r, k, H, K => Lo p tS tI gT w a i r k H K
def Ln (p : Pr β) (tS tI gT w : Nat) (a i : AV) (F : Ab → Option β) : List FD → AV → Ab → (KO β) → Option β
 | [], k, H, K => K k H
 | ⟨.str, path, _⟩ :: r, k, H, K => p.iadr w a i fun t => Fw p path t fun t => p.load false 1 t H fun v => p.call tS (.fn gT [] []) [k] H fun s H => p.bin .neq v s fun b => p.cond b (F H) (p.bin .add k (.sc (.int .i64 1)) fun k => Ln p tS tI gT w a i F r k H K)
 | ⟨.int, path, _⟩ :: r, k, H, K => p.iadr w a i fun t => Fw p path t fun t => p.load false 1 t H fun v => p.bin .neq v k fun b => p.cond b (F H) (p.bin .add k (.sc (.int .i64 1)) fun k => Ln p tS tI gT w a i F r k H K)
 | ⟨.bool, path, _⟩ :: r, k, H, K => p.iadr w a i fun t => Fw p path t fun t => p.load false 1 t H fun v => p.bin .rem k (.sc (.int .i64 3)) fun q => p.bin .eql q (.sc (.int .i64 0)) fun e => p.binB .neq v e fun b => p.cond b (F H) (p.bin .add k (.sc (.int .i64 1)) fun k => Ln p tS tI gT w a i F r k H K)
 | ⟨.byt, path, _⟩ :: r, k, H, K => p.iadr w a i fun t => Fw p path t fun t => p.load false 1 t H fun v => p.cvI .u8 k fun c => p.bin .neq v c fun b => p.cond b (F H) (p.bin .add k (.sc (.int .i64 1)) fun k => Ln p tS tI gT w a i F r k H K)
 | ⟨.sub _, path, g⟩ :: r, k, H, K => p.iadr w a i fun t => Fw p path t fun t => p.load false 1 t H fun v => p.call tI (.fn g [] []) [v, k] H fun k H => p.bin .lss k (.sc (.int .i64 0)) fun b => p.cond b (F H) (Ln p tS tI gT w a i F r k H K)
 | ⟨.skip, _, _⟩ :: r, k, H, K => Ln p tS tI gT w a i F r k H K
variable {n : Nat} {res : Option β}
theorem Yo : ∀ (path : List Nat) (id off : Nat) (K : AV → Option β), Fw (PR n β) path (.ptr id off) K = K (.ptr id (off + path.sum))
 | [], id, off, K => rfl
 | o :: r, id, off, K => by
  show Fw (PR n β) r (.ptr id (off + o)) K = _
  rw [Yo r, List.sum_cons, za9]
theorem Aa8 : ∀ (path : List Nat) (cells : List AV) (K : AV → Option β), Fw (PR n β) path (.rp cells) K = K (.rp (cells.drop path.sum))
 | [], cells, K => by simp [Fw]
 | o :: r, cells, K => by
  show Fw (PR n β) r (.rp (cells.drop o)) K = _
  rw [Aa8 r, List.sum_cons, zbj]
theorem Aai (k : Int) (K : AV → Option β) (h0 : 0 ≤ k) (h1 : k ≤ 4611686018427387904) : Ci .add (.sc (.int .i64 k)) (.sc (.int .i64 1)) K = K (.sc (.int .i64 (k + 1))) := by
 show K (.sc (.int .i64 (IntKind.i64.wrap (k + 1)))) = _
 rw [H3 _ (by omega) (by omega)]
theorem Aat {tS gT : Nat} (h : Rk n tS gT) {k : Int} (h0 : 0 ≤ k) (h1 : k ≤ 4611686018427387904) (H : Ab) (K : KO β) : (PR n β).call tS (.fn gT [] []) [.sc (.int .i64 k)] H K = K (.sc (.string (AeD k))) H := by
 rw [Kw (vs := [.sc (.int .i64 k)]) h.1 rfl (h.2 k h0 h1), Hw, zap]
theorem Afa {tS tI gT w len i : Nat} (hT : Rk n tS gT) (hi : i < len) : ∀ (todo : List FD) (off : Nat) (Q R S : List AV) (TP tR TS : List Nat) (k : Int) (A C : Ab) (K : KO β),
  AeS n off todo tR → TP.length = Q.length → Q.length = i * w + off → Ya (todo.map FD.f) R → 0 ≤ k → k + Gz (todo.map FD.f) R ≤ 4611686018427387904 →
  (∀ X, K (.sc (.int .i64 (J9 (todo.map FD.f) k R).2)) (A ++ (SB A.length (TP ++ (tR ++ TS)) (Q ++ ((J9 (todo.map FD.f) k R).1 ++ S)) ++ (C ++ X))) = res) →
  Lo (PR n β) tS tI gT w (.sl A.length 0 len w) (.sc (.int .i64 i)) todo (.sc (.int .i64 k)) (A ++ (SB A.length (TP ++ (tR ++ TS)) (Q ++ (R ++ S)) ++ C)) K = res
 | [], off, Q, R, S, TP, tR, TS, k, A, C, K, hf, ht, hq, hw, h0, h1, h => by
  cases R with
  | nil =>
   have := h []
   simp only [zap] at this
   exact this
  | cons c R => exact absurd rfl hw.1
 | fd :: todo, off, Q, R, S, TP, tR, TS, k, A, C, K, hf, ht, hq, hw, h0, h1, h => by
  cases R with
  | nil => exact absurd (show fd.f :: todo.map FD.f = [] from hw) (by simp)
  | cons c R =>
  cases tR with
  | nil => exact hf.elim
  | cons t tR =>
  obtain ⟨hpath, hsub, hrest⟩ := hf
  obtain ⟨hwc, hwR⟩ := wfL_cons.1 hw
  have hpl : ∀ K' : AV → Option β, (Dn w (.sl A.length 0 len w) (.sc (.int .i64 i)) fun t => Fw (PR n β) fd.path t K') = K' (.ptr A.length Q.length) := fun K' => by
   rw [Zy w _ _ _ _ _ hi, Yo, hpath, hq, za1]
  have hcnt : Gz ((fd :: todo).map FD.f) (c :: R) = Ga fd.f c + Gz (todo.map FD.f) R := rfl
  have hmk : J9 ((fd :: todo).map FD.f) k (c :: R) = ((Jl fd.f k c).1 :: (J9 (todo.map FD.f) (Jl fd.f k c).2 R).1, (J9 (todo.map FD.f) (Jl fd.f k c).2 R).2) := rfl
  rw [hcnt] at h1
  rw [hmk] at h
  have e1 : ∀ (x : AV) (Y : List AV), Q ++ (x :: Y ++ S) = Q ++ x :: (Y ++ S) := fun x Y => rfl
  have e2 : ∀ (x : AV) (Y : List AV), Q ++ x :: (Y ++ S) = (Q ++ [x]) ++ (Y ++ S) := fun x Y => by simp
  have e3 : TP ++ (t :: tR ++ TS) = (TP ++ [t]) ++ (tR ++ TS) := by simp
  have e4 : TP ++ (t :: tR ++ TS) = TP ++ t :: (tR ++ TS) := rfl
  have go : ∀ (c' : AV) (k' : Int) (C : Ab) (K : KO β), 0 ≤ k' → k' + Gz (todo.map FD.f) R ≤ 4611686018427387904 →
    (∀ X, K (.sc (.int .i64 (J9 (todo.map FD.f) k' R).2)) (A ++ (SB A.length (TP ++ (t :: tR ++ TS)) (Q ++ (c' :: (J9 (todo.map FD.f) k' R).1 ++ S)) ++ (C ++ X))) = res) →
    Lo (PR n β) tS tI gT w (.sl A.length 0 len w) (.sc (.int .i64 i)) todo (.sc (.int .i64 k')) (A ++ (SB A.length (TP ++ (t :: tR ++ TS)) (Q ++ c' :: (R ++ S)) ++ C)) K = res := by
   intro c' k' C K h0' h1' h'
   have := Afa (tI := tI) (w := w) hT hi todo (off + 1) (Q ++ [c']) R S (TP ++ [t]) tR TS k' A C K hrest (by simp [ht]) (by simp [hq]; omega) hwR h0' h1' (fun X => by
    have := h' X
    rw [e1, e2, e3] at this
    exact this)
   rw [e3, e2]
   exact this
  obtain ⟨f, path, g⟩ := fd
  cases f with
  | skip =>
   have hc : ∃ v, c = .sc v := by
    cases c <;> first | exact ⟨_, rfl⟩ | exact hwc.elim
   obtain ⟨v, rfl⟩ := hc
   exact go (.sc v) k C K h0 (by simpa [Ga] using h1) h
  | sub fs =>
   have hc : ∃ m cells, c = .ro m cells := by
    cases c with
    | ro m cells => exact ⟨m, cells, rfl⟩
    | sc v => exact hwc.elim
    | _ => exact hwc.elim
   obtain ⟨m, cells, rfl⟩ := hc
   obtain ⟨hh, hx, ⟨j1, j2, hj1, hj2⟩, hmk'⟩ := hsub
   have hk' := Sa (.ro m cells) (.sub fs) k
   have h1 : k + (Ga (.sub fs) (.ro m cells) + Gz (todo.map FD.f) R : Nat) ≤ 4611686018427387904 := h1
   show (Dn w (.sl A.length 0 len w) (.sc (.int .i64 i)) fun t => Fw (PR n β) path t fun t => Cz false 1 t _ fun v => (PR n β).call tI (.fn g [] []) [v, .sc (.int .i64 k)] _ fun k H => Lo (PR n β) tS tI gT w _ _ todo k H K) = res
   rw [hpl]
   rw [e4, e1]
   refine AlO ht rfl hh hx (hmk' m cells k hwc h0 (by omega)) (fun M => ?_) (Rc _ _ _) fun X => ?_
   ·rw [Qd hj1 hj2]
    show (B5 As E0.tp M t (.ro m _)).1 = _
    rw [Qd hj1 hj2]
   ·refine go _ _ (C ++ X) K (by omega) (by omega) fun Y => ?_
    rw [zaf]
    exact h (X ++ Y)
  | str =>
   have hc : ∃ s, c = .sc (.string s) := by
    cases c with
    | sc v => cases v <;> first | exact ⟨_, rfl⟩ | exact hwc.elim
    | _ => exact hwc.elim
   obtain ⟨v, rfl⟩ := hc
   have h1 : k + (1 + Gz (todo.map FD.f) R : Nat) ≤ 4611686018427387904 := h1
   show (PR n β).call tS (.fn gT [] []) [.sc (.int .i64 k)] _ (fun s H => Dn w (.sl A.length 0 len w) (.sc (.int .i64 i)) fun t => Fw (PR n β) path t fun t => G9 1 t s H fun H => Ci .add (.sc (.int .i64 k)) (.sc (.int .i64 1)) fun k => Lo (PR n β) tS tI gT w _ _ todo k H K) = res
   rw [Aat hT h0 (by omega)]
   simp only [hpl]
   rw [e4, e1, Sp ht rfl rfl, Aai _ _ h0 (by omega)]
   exact go _ _ C K (by omega) (by omega) h
  | int =>
   have hc : ∃ z, c = .sc (.int .i64 z) := by
    cases c with
    | sc v => cases v with
     | int kd z => cases kd <;> first | exact ⟨_, rfl⟩ | exact hwc.elim
     | _ => exact hwc.elim
    | _ => exact hwc.elim
   obtain ⟨v, rfl⟩ := hc
   have h1 : k + (1 + Gz (todo.map FD.f) R : Nat) ≤ 4611686018427387904 := h1
   show (Dn w (.sl A.length 0 len w) (.sc (.int .i64 i)) fun t => Fw (PR n β) path t fun t => G9 1 t (.sc (.int .i64 k)) _ fun H => Ci .add (.sc (.int .i64 k)) (.sc (.int .i64 1)) fun k => Lo (PR n β) tS tI gT w _ _ todo k H K) = res
   rw [hpl]
   rw [e4, e1, Sp ht rfl rfl, Aai _ _ h0 (by omega)]
   exact go _ _ C K (by omega) (by omega) h
  | bool =>
   have hc : ∃ b, c = .sc (.bool b) := by
    cases c with
    | sc v => cases v <;> first | exact ⟨_, rfl⟩ | exact hwc.elim
    | _ => exact hwc.elim
   obtain ⟨v, rfl⟩ := hc
   have h1 : k + (1 + Gz (todo.map FD.f) R : Nat) ≤ 4611686018427387904 := h1
   show (Dn w (.sl A.length 0 len w) (.sc (.int .i64 i)) fun t => Fw (PR n β) path t fun t => G9 1 t (.sc (.bool (k.tmod 3 == 0))) _ fun H => Ci .add (.sc (.int .i64 k)) (.sc (.int .i64 1)) fun k => Lo (PR n β) tS tI gT w _ _ todo k H K) = res
   rw [hpl]
   rw [e4, e1, Sp ht rfl rfl, Aai _ _ h0 (by omega)]
   exact go _ _ C K (by omega) (by omega) h
  | byt =>
   have hc : ∃ z, c = .sc (.int .u8 z) := by
    cases c with
    | sc v => cases v with
     | int kd z => cases kd <;> first | exact ⟨_, rfl⟩ | exact hwc.elim
     | _ => exact hwc.elim
    | _ => exact hwc.elim
   obtain ⟨v, rfl⟩ := hc
   have h1 : k + (1 + Gz (todo.map FD.f) R : Nat) ≤ 4611686018427387904 := h1
   show (Dn w (.sl A.length 0 len w) (.sc (.int .i64 i)) fun t => Fw (PR n β) path t fun t => G9 1 t (.sc (.int .u8 (IntKind.u8.wrap k))) _ fun H => Ci .add (.sc (.int .i64 k)) (.sc (.int .i64 1)) fun k => Lo (PR n β) tS tI gT w _ _ todo k H K) = res
   rw [hpl]
   rw [e4, e1, Sp ht rfl rfl, Aai _ _ h0 (by omega)]
   exact go _ _ C K (by omega) (by omega) h
end fns
end
section
open Go
variable {β : Type} {n : Nat} {res : Option β}
theorem Aag {n : Nat} : ∀ {off : Nat} {fds : List FD} {ts : List Nat}, AeS n off fds ts → fds.length = ts.length
 | _, [], [], _ => rfl
 | _, _ :: _, _ :: _, h => by simp [Aag h.2.2]
 | _, [], _ :: _, h => h.elim
 | _, _ :: _, [], h => h.elim
theorem Ahd (id off m w : Nat) (k : AV → Option β) : I5 (.sl id off m w) k = k (.sc (.int .i64 m)) := rfl
theorem Ahg {tS tI gT w len : Nat} {cty : List Nat} {fds : List FD} (hT : Rk n tS gT) (hf : AeS n 0 fds cty) (hw : fds.length = w) (hlen : len ≤ 1048576) (L : Nat → AV → AV → KO β) (kk : KO β)
  (hL : ∀ m a k i H, L (m + 1) a k i H = I5 a fun t8 => Ci .lss i t8 fun t9 => Ec t9 (Lo (PR n β) tS tI gT w a i fds k H fun k' H => Ci .add i (.sc (.int .i64 1)) fun i' => L m a k' i' H) (kk k H)) :
  ∀ (r i m : Nat) (P S : List AV) (TP : List Nat) (k : Int) (A C : Ab), P.length = i * w → TP.length = P.length → i + r = len → r < m → Ya (Io r (fds.map FD.f)) S → 0 ≤ k → k + Gz (Io r (fds.map FD.f)) S ≤ 4611686018427387904 →
   (∀ X, kk (.sc (.int .i64 (J9 (Io r (fds.map FD.f)) k S).2)) (A ++ (SB A.length (TP ++ (zai r cty).flatten) (P ++ (J9 (Io r (fds.map FD.f)) k S).1) ++ (C ++ X))) = res) →
   L m (.sl A.length 0 len w) (.sc (.int .i64 k)) (.sc (.int .i64 i)) (A ++ (SB A.length (TP ++ (zai r cty).flatten) (P ++ S) ++ C)) = res
 | 0, i, m + 1, P, S, TP, k, A, C, hP, hTP, hr, hm, hwf, h0, h1, h => by
  have hS : S = [] := by
   have := Qo hwf
   simp [Io] at this
   exact zar this.symm
  subst hS
  obtain rfl : i = len := by omega
  rw [hL]
  rw [Ahd, G5, Do, if_neg (by simp)]
  have := h []
  simp only [zap, J9] at this ⊢
  exact this
 | r + 1, i, m + 1, P, S, TP, k, A, C, hP, hTP, hr, hm, hwf, h0, h1, h => by
  have hi : i < len := by omega
  have hml : (fds.map FD.f).length = w := by simp [hw]
  have hSl : S.length = (r + 1) * w := by
   have := Qo hwf
   rw [Abb, hml] at this
   exact this.symm
  obtain ⟨R, S', rfl, hRl⟩ : ∃ R S', S = R ++ S' ∧ R.length = w := ⟨S.take w, S.drop w, (zbv w S).symm, by rw [zbA, hSl, zbs]; omega⟩
  rw [I2] at hwf h1 h
  have hl : (fds.map FD.f).length = R.length := by rw [hml, hRl]
  obtain ⟨hwR, hwS⟩ := (Ok hl).1 hwf
  rw [Mg _ _ _ _ hl] at h1
  rw [Rd _ _ _ _ _ hl] at h
  have hkc := Up R (fds.map FD.f) k
  have hRl' := Uq R (fds.map FD.f) k
  have hcl : cty.length = w := by rw [← Aag hf, hw]
  rw [zbb, zaz] at h ⊢
  rw [hL]
  rw [Ahd, G5, Do, if_pos (by simpa using hi)]
  refine Afa (w := w) (tI := tI) hT hi fds 0 P R S' TP cty (zai r cty).flatten k A C _ hf hTP (by rw [hP, zaM]) hwR h0 (by omega) fun X => ?_
  rw [G4 _ _ (by omega)]
  have ih := Ahg hT hf hw hlen L kk hL r (i + 1) m (P ++ (J9 (fds.map FD.f) k R).1) S' (TP ++ cty) (J9 (fds.map FD.f) k R).2 A (C ++ X) (by rw [zad, hP, hRl', hRl, zbs]) (by rw [zad, zad, hTP, hcl, hRl', hRl]) (by omega) (by omega) hwS (by omega) (by omega) (fun Y => by
   have := h (X ++ Y)
   simp only [zaf] at this ⊢
   exact this)
  simp only [zaf] at ih ⊢
  exact ih
theorem R9 {tS tI gT w f tyS : Nat} {cty : List Nat} {fds : List FD} (hh : E0.hm f = true) (hx : E0.ext f = none) (hT : Rk n tS gT) (hf : AeS n 0 fds cty) (hw : fds.length = w) (hty : ∃ i j, As tyS = some i ∧ As i.elem = some j ∧ j.size = w ∧ j.cty = cty) (hn : 1048576 < n)
  (L : (β : Type) → (KO β) → Nat → AV → AV → KO β)
  (hL : ∀ β kk m a k i H, L β kk (m + 1) a k i H = I5 a fun t8 => Ci .lss i t8 fun t9 => Ec t9 (Lo (PR n β) tS tI gT w a i fds k H fun k' H => Ci .add i (.sc (.int .i64 1)) fun i' => L β kk m a k' i' H) (kk k H))
  (hF : ∀ β a b H kk, Eh E0 (n + 1) β f [a, b] H kk = L β kk n a b (.sc (.int .i64 0)) H) : Nq (n + 1) f tyS (fds.map FD.f) := by
 obtain ⟨ti, tj, h1, h2, h3, h4⟩ := hty
 refine ⟨hh, hx, ⟨ti, tj, h1, h2⟩, fun len cells k hwf h0 hb => ?_⟩
 intro β A C K r h
 obtain ⟨hlen, hcl, hwl⟩ := (show len ≤ 1048576 ∧ cells.length = len * (fds.map FD.f).length ∧ Ya (Io len (fds.map FD.f)) cells from hwf)
 rw [hF, Qd h1 h2, h3, h4]
 have hmk : Jl (.sub (fds.map FD.f)) k (.ro len cells) = (.ro len (J9 (Io len (fds.map FD.f)) k cells).1, (J9 (Io len (fds.map FD.f)) k cells).2) := rfl
 rw [hmk] at h
 simp only [Qd h1 h2, h3, h4] at h
 exact Ahg (n := n) (cty := cty) hT hf hw hlen (L β K) K (hL β K) len 0 n [] cells [] k A C (by simp) rfl (by omega) (by omega) hwl h0 hb h
theorem AeZ {tS tI gT w len i : Nat} {F : Ab → Option β} (hT : Rk n tS gT) (hi : i < len) (cells : List AV) (hw0 : i * w < cells.length) : ∀ (todo : List FD) (off : Nat) (Q R S : List AV) (k : Int) (H : Ab) (K : KO β),
  AhJ n off todo → Q.length = i * w + off → Ya (todo.map FD.f) R → 0 ≤ k → k + Gz (todo.map FD.f) R ≤ 4611686018427387904 → cells = Q ++ ((J9 (todo.map FD.f) k R).1 ++ S) →
  (∀ X, K (.sc (.int .i64 (J9 (todo.map FD.f) k R).2)) (H ++ X) = res) →
  Ln (PR n β) tS tI gT w (.ro len cells) (.sc (.int .i64 i)) F todo (.sc (.int .i64 k)) H K = res
 | [], off, Q, R, S, k, H, K, hf, hq, hw, h0, h1, hc, h => by
  cases R with
  | nil =>
   have := h []
   rw [zap] at this
   exact this
  | cons c R => exact absurd rfl hw.1
 | fd :: todo, off, Q, R, S, k, H, K, hf, hq, hw, h0, h1, hc, h => by
  cases R with
  | nil => exact absurd (show fd.f :: todo.map FD.f = [] from hw) (by simp)
  | cons c R =>
  obtain ⟨hpath, hsub, hrest⟩ := hf
  obtain ⟨hwc, hwR⟩ := wfL_cons.1 hw
  have hmk : J9 ((fd :: todo).map FD.f) k (c :: R) = ((Jl fd.f k c).1 :: (J9 (todo.map FD.f) (Jl fd.f k c).2 R).1, (J9 (todo.map FD.f) (Jl fd.f k c).2 R).2) := rfl
  rw [hmk] at h hc
  have hcells : cells = Q ++ (Jl fd.f k c).1 :: ((J9 (todo.map FD.f) (Jl fd.f k c).2 R).1 ++ S) := hc
  have hpl : ∀ K' : AV → Option β, (Dn w (.ro len cells) (.sc (.int .i64 i)) fun t => Fw (PR n β) fd.path t fun t => Cz false 1 t H K') = K' (Jl fd.f k c).1 := fun K' => by
   rw [N7 w _ _ i _ hi hw0, Aa8, hpath, zbj, ← hq]
   conv => lhs; rw [hcells]
   rw [zaD (zan _), zbq, zal, Pj]
  have go : ∀ (H' : Ab), (∀ X, K (.sc (.int .i64 (J9 (todo.map FD.f) (Jl fd.f k c).2 R).2)) (H' ++ X) = res) → 0 ≤ (Jl fd.f k c).2 → (Jl fd.f k c).2 + Gz (todo.map FD.f) R ≤ 4611686018427387904 →
    Ln (PR n β) tS tI gT w (.ro len cells) (.sc (.int .i64 i)) F todo (.sc (.int .i64 (Jl fd.f k c).2)) H' K = res := by
   intro H' h' g0 g1
   exact AeZ hT hi cells hw0 todo (off + 1) (Q ++ [(Jl fd.f k c).1]) R S (Jl fd.f k c).2 H' K hrest (by simp [hq]; omega) hwR g0 g1 (by rw [hcells]; simp) h'
  have hcnt := Sa c fd.f k
  have h1 : k + (Ga fd.f c + Gz (todo.map FD.f) R : Nat) ≤ 4611686018427387904 := h1
  obtain ⟨f, path, g⟩ := fd
  simp only at hcnt h1 hpl go h
  cases f with
  | skip =>
   have hc : ∃ v, c = .sc v := by
    cases c <;> first | exact ⟨_, rfl⟩ | exact hwc.elim
   obtain ⟨v, rfl⟩ := hc
   exact go H h h0 (by simpa [Ga, Jl] using h1)
  | sub fs =>
   have hc : ∃ m cells, c = .ro m cells := by
    cases c with
    | ro m cells => exact ⟨m, cells, rfl⟩
    | sc v => exact hwc.elim
    | _ => exact hwc.elim
   obtain ⟨m, cs, rfl⟩ := hc
   obtain ⟨hh, hhe⟩ := hsub
   show (Dn w (.ro len cells) (.sc (.int .i64 i)) fun t => Fw (PR n β) path t fun t => Cz false 1 t H fun v => (PR n β).call tI (.fn g [] []) [v, .sc (.int .i64 k)] H fun k H => Ci .lss k (.sc (.int .i64 0)) fun b => Ec b (F H) (Ln (PR n β) tS tI gT w _ _ F todo k H K)) = res
   rw [hpl, Kw (vs := [(Jl (.sub fs) k (.ro m cs)).1, .sc (.int .i64 k)]) hh rfl (hhe tI m cs k hwc h0 (by omega)), Hw, zap]
   simp only
   rw [Wu, Do, if_neg (by simp; omega)]
   exact go H h (by omega) (by omega)
  | str =>
   have hc : ∃ s, c = .sc (.string s) := by
    cases c with
    | sc v => cases v <;> first | exact ⟨_, rfl⟩ | exact hwc.elim
    | _ => exact hwc.elim
   obtain ⟨v, rfl⟩ := hc
   have h1 : k + (1 + Gz (todo.map FD.f) R : Nat) ≤ 4611686018427387904 := h1
   have hpl' : ∀ K' : AV → Option β, (Dn w (.ro len cells) (.sc (.int .i64 i)) fun t => Fw (PR n β) path t fun t => Cz false 1 t H K') = K' (.sc (.string (AeD k))) := hpl
   show (Dn w (.ro len cells) (.sc (.int .i64 i)) fun t => Fw (PR n β) path t fun t => Cz false 1 t H fun v => (PR n β).call tS (.fn gT [] []) [.sc (.int .i64 k)] H fun s H => Ci .neq v s fun b => Ec b (F H) (Ci .add (.sc (.int .i64 k)) (.sc (.int .i64 1)) fun k => Ln (PR n β) tS tI gT w _ _ F todo k H K)) = res
   rw [hpl', Aat hT h0 (by omega), AnA]
   simp only [beq_self_eq_true, za0]
   rw [Do, if_neg (by simp), Aai _ _ h0 (by omega)]
   exact go H h (by show 0 ≤ k + 1; omega) (by show k + 1 + _ ≤ _; omega)
  | int =>
   have hc : ∃ z, c = .sc (.int .i64 z) := by
    cases c with
    | sc v => cases v with
     | int kd z => cases kd <;> first | exact ⟨_, rfl⟩ | exact hwc.elim
     | _ => exact hwc.elim
    | _ => exact hwc.elim
   obtain ⟨v, rfl⟩ := hc
   have h1 : k + (1 + Gz (todo.map FD.f) R : Nat) ≤ 4611686018427387904 := h1
   have hpl' : ∀ K' : AV → Option β, (Dn w (.ro len cells) (.sc (.int .i64 i)) fun t => Fw (PR n β) path t fun t => Cz false 1 t H K') = K' (.sc (.int .i64 k)) := hpl
   show (Dn w (.ro len cells) (.sc (.int .i64 i)) fun t => Fw (PR n β) path t fun t => Cz false 1 t H fun v => Ci .neq v (.sc (.int .i64 k)) fun b => Ec b (F H) (Ci .add (.sc (.int .i64 k)) (.sc (.int .i64 1)) fun k => Ln (PR n β) tS tI gT w _ _ F todo k H K)) = res
   rw [hpl', Ak2]
   simp only [bne_self_eq_false]
   rw [Do, if_neg (by simp), Aai _ _ h0 (by omega)]
   exact go H h (by show 0 ≤ k + 1; omega) (by show k + 1 + _ ≤ _; omega)
  | bool =>
   have hc : ∃ b, c = .sc (.bool b) := by
    cases c with
    | sc v => cases v <;> first | exact ⟨_, rfl⟩ | exact hwc.elim
    | _ => exact hwc.elim
   obtain ⟨v, rfl⟩ := hc
   have h1 : k + (1 + Gz (todo.map FD.f) R : Nat) ≤ 4611686018427387904 := h1
   have hpl' : ∀ K' : AV → Option β, (Dn w (.ro len cells) (.sc (.int .i64 i)) fun t => Fw (PR n β) path t fun t => Cz false 1 t H K') = K' (.sc (.bool (k.tmod 3 == 0))) := hpl
   show (Dn w (.ro len cells) (.sc (.int .i64 i)) fun t => Fw (PR n β) path t fun t => Cz false 1 t H fun v => Pw .neq v (.sc (.bool (k.tmod 3 == 0))) fun b => Ec b (F H) (Ci .add (.sc (.int .i64 k)) (.sc (.int .i64 1)) fun k => Ln (PR n β) tS tI gT w _ _ F todo k H K)) = res
   rw [hpl', An9]
   simp only [beq_self_eq_true, za0]
   rw [Do, if_neg (by simp), Aai _ _ h0 (by omega)]
   exact go H h (by show 0 ≤ k + 1; omega) (by show k + 1 + _ ≤ _; omega)
  | byt =>
   have hc : ∃ z, c = .sc (.int .u8 z) := by
    cases c with
    | sc v => cases v with
     | int kd z => cases kd <;> first | exact ⟨_, rfl⟩ | exact hwc.elim
     | _ => exact hwc.elim
    | _ => exact hwc.elim
   obtain ⟨v, rfl⟩ := hc
   have h1 : k + (1 + Gz (todo.map FD.f) R : Nat) ≤ 4611686018427387904 := h1
   have hpl' : ∀ K' : AV → Option β, (Dn w (.ro len cells) (.sc (.int .i64 i)) fun t => Fw (PR n β) path t fun t => Cz false 1 t H K') = K' (.sc (.int .u8 (IntKind.u8.wrap k))) := hpl
   show (Dn w (.ro len cells) (.sc (.int .i64 i)) fun t => Fw (PR n β) path t fun t => Cz false 1 t H fun v => Ci .neq v (.sc (.int .u8 (IntKind.u8.wrap k))) fun b => Ec b (F H) (Ci .add (.sc (.int .i64 k)) (.sc (.int .i64 1)) fun k => Ln (PR n β) tS tI gT w _ _ F todo k H K)) = res
   rw [hpl']
   show Ec (.sc (.bool (IntKind.u8.wrap k != IntKind.u8.wrap k))) _ _ = res
   simp only [bne_self_eq_false]
   rw [Do, if_neg (by simp), Aai _ _ h0 (by omega)]
   exact go H h (by show 0 ≤ k + 1; omega) (by show k + 1 + _ ≤ _; omega)
theorem Ahf {tS tI gT w len : Nat} {fds : List FD} (hT : Rk n tS gT) (hf : AhJ n 0 fds) (hw : fds.length = w) (hw0 : 0 < w) (hlen : len ≤ 1048576) (cells : List AV) (L : Nat → AV → AV → KO β) (kk : KO β)
  (hL : ∀ m a k i H, L (m + 1) a k i H = I5 a fun t8 => Ci .lss i t8 fun t9 => Ec t9 (Ln (PR n β) tS tI gT w a i (fun H => kk (.sc (.int .i64 (-1))) H) fds k H fun k' H => Ci .add i (.sc (.int .i64 1)) fun i' => L m a k' i' H) (kk k H)) :
  ∀ (r i m : Nat) (P S : List AV) (k : Int) (H : Ab), P.length = i * w → i + r = len → r < m → Ya (Io r (fds.map FD.f)) S → 0 ≤ k → k + Gz (Io r (fds.map FD.f)) S ≤ 4611686018427387904 → cells = P ++ (J9 (Io r (fds.map FD.f)) k S).1 →
   (∀ X, kk (.sc (.int .i64 (J9 (Io r (fds.map FD.f)) k S).2)) (H ++ X) = res) →
   L m (.ro len cells) (.sc (.int .i64 k)) (.sc (.int .i64 i)) H = res
 | 0, i, m + 1, P, S, k, H, hP, hr, hm, hwf, h0, h1, hc, h => by
  have hS : S = [] := by
   have := Qo hwf
   simp [Io] at this
   exact zar this.symm
  subst hS
  obtain rfl : i = len := by omega
  rw [hL, Gc, G5, Do, if_neg (by simp)]
  have := h []
  simp only [zap, J9] at this ⊢
  exact this
 | r + 1, i, m + 1, P, S, k, H, hP, hr, hm, hwf, h0, h1, hc, h => by
  have hi : i < len := by omega
  have hml : (fds.map FD.f).length = w := by simp [hw]
  have hSl : S.length = (r + 1) * w := by
   have := Qo hwf
   rw [Abb, hml] at this
   exact this.symm
  obtain ⟨R, S', rfl, hRl⟩ : ∃ R S', S = R ++ S' ∧ R.length = w := ⟨S.take w, S.drop w, (zbv w S).symm, by rw [zbA, hSl, zbs]; omega⟩
  rw [I2] at hwf h1 h hc
  have hl : (fds.map FD.f).length = R.length := by rw [hml, hRl]
  obtain ⟨hwR, hwS⟩ := (Ok hl).1 hwf
  rw [Mg _ _ _ _ hl] at h1
  rw [Rd _ _ _ _ _ hl] at h hc
  have hkc := Up R (fds.map FD.f) k
  have hRl' := Uq R (fds.map FD.f) k
  have hcl : i * w < cells.length := by
   rw [hc, zad, zad, hRl', hRl, hP]
   omega
  rw [hL, Gc, G5, Do, if_pos (by simpa using hi)]
  refine AeZ (w := w) (tI := tI) hT hi cells hcl fds 0 P R (J9 (Io r (fds.map FD.f)) (J9 (fds.map FD.f) k R).2 S').1 k H _ hf (by rw [hP, zaM]) hwR h0 (by omega) hc fun X => ?_
  rw [G4 _ _ (by omega)]
  exact Ahf hT hf hw hw0 hlen cells L kk hL r (i + 1) m (P ++ (J9 (fds.map FD.f) k R).1) S' (J9 (fds.map FD.f) k R).2 (H ++ X) (by rw [zad, hP, hRl', hRl, zbs]) (by omega) (by omega) hwS (by omega) (by omega) (by rw [hc, zaf]) (fun Y => by
   have := h (X ++ Y)
   rw [zaf]
   exact this)
theorem R0 {tS tI gT w f : Nat} {fds : List FD} (hh : F3 f = false) (hT : Rk n tS gT) (hf : AhJ n 0 fds) (hw : fds.length = w) (hw0 : 0 < w) (hn : 1048576 < n)
  (L : (AV → Ab → Option AV) → Nat → AV → AV → AV → Ab → Option AV)
  (hL : ∀ kk m a k i H, L kk (m + 1) a k i H = I5 a fun t8 => Ci .lss i t8 fun t9 => Ec t9 (Ln (PR n AV) tS tI gT w a i (fun H => kk (.sc (.int .i64 (-1))) H) fds k H fun k' H => Ci .add i (.sc (.int .i64 1)) fun i' => L kk m a k' i' H) (kk k H))
  (hF : ∀ a b H kk, Eh E0 (n + 1) AV f [a, b] H kk = L kk n a b (.sc (.int .i64 0)) H) : Oz (n + 1) f (fds.map FD.f) := by
 refine ⟨hh, fun ty len cells k hwf h0 hb => ?_⟩
 obtain ⟨hlen, hcl, hwl⟩ := (show len ≤ 1048576 ∧ cells.length = len * (fds.map FD.f).length ∧ Ya (Io len (fds.map FD.f)) cells from hwf)
 rw [A7, hF]
 exact Ahf (n := n) hT hf hw hw0 hlen (J9 (Io len (fds.map FD.f)) k cells).1 (L fun x H => A8 As E0.tp ty H x) (fun x H => A8 As E0.tp ty H x) (hL _) len 0 n [] cells k [] (by simp) (by omega) (by omega) hwl h0 hb rfl (fun X => rfl)
end
section
open Go
section txt
theorem Ah6 (v : AV) (h : F1 v = some [v]) : I1 [(.sc (.int .u8 0))] [(0, 1, v)] = some [v] := by
 simp [I1, h, Ha]
theorem AeP (H : Ab) (b : UInt8) : Dt (H ++ [⟨[.sc (.int .u8 b.toNat)], true, true⟩]) 1 (.sl H.length 0 1 1) = some [.sc (.int .u8 b.toNat)] := by
 simp only [Dt, if_true, Be, Zw H _ []]
 rfl
theorem Afh {k : Nat} (h : ¬ k = 0) (out : ByteArray) : Ab4 k out = Ab4 (k / 10) (⟨#[UInt8.ofNat (48 + k % 10)]⟩ ++ out) := by
 rw [Ab4, dif_neg h]
theorem Abm {n ty : Nat} (L : Nat → AV → AV → Ab → Option AV)
  (hL : ∀ m k s H, L (m + 1) k s H = Ci .gtr k (.sc (.int .i64 0)) fun t7 => Ec t7 (Ci .rem k (.sc (.int .i64 10)) fun t9 => Ci .add (.sc (.int .i64 48)) t9 fun t10 => W5 .u8 t10 fun t11 =>
   (I1 [(.sc (.int .u8 0))] [(0, 1, t11)]).bind fun ct12 => Gx 1 1 ct12 true H fun t12 H => Ot t12 H fun t13 => Ci .add t13 s fun t15 => Ci .quo k (.sc (.int .i64 10)) fun t17 => L m t17 t15 H)
   (Ci .add (.sc (.string ⟨#[109]⟩)) s fun t19 => A8 As E0.tp ty H t19)) :
  ∀ (b m k : Nat) (out : ByteArray) (H : Ab), k ≤ 4611686018427387904 → k < 10 ^ b → b < m → out.size + b ≤ 1000 → L m (.sc (.int .i64 k)) (.sc (.string out)) H = some (.sc (.string (⟨#[109]⟩ ++ Ab4 k out)))
 | b, 0, k, out, H, hk0, h1, h2, h3 => by omega
 | b, m + 1, k, out, H, hk0, h1, h2, h3 => by
  rw [hL, Akz, Do]
  by_cases hk : k = 0
  ·subst hk
   rw [if_neg (by simp)]
   have hs : (⟨#[109]⟩ : ByteArray).size + out.size ≤ 9223372036854775807 := by
    show 1 + out.size ≤ _
    omega
   show (X2 .add ⟨#[109]⟩ out).bind _ = _
   simp only [X2, if_pos hs, zac]
   rw [Ab4, dif_pos rfl]
   rfl
  ·rw [if_pos (by simp; omega)]
   have e9 : ∀ K : AV → Option AV, Ci .rem (.sc (.int .i64 (k : Int))) (.sc (.int .i64 10)) K = K (.sc (.int .i64 ((k % 10 : Nat) : Int))) := by
    intro K
    show K (.sc (.int .i64 ((k : Int).tmod 10))) = _
    rw [show ((k : Int).tmod 10) = ((k % 10 : Nat) : Int) from by
     rw [za7 (by omega)]; simp]
   have e10 : ∀ K : AV → Option AV, Ci .add (.sc (.int .i64 48)) (.sc (.int .i64 ((k % 10 : Nat) : Int))) K = K (.sc (.int .i64 ((48 + k % 10 : Nat) : Int))) := by
    intro K
    show K (.sc (.int .i64 (IntKind.i64.wrap (48 + ((k % 10 : Nat) : Int))))) = _
    rw [H3 _ (by omega) (by omega)]
    rfl
   have e11 : ∀ K : AV → Option AV, W5 .u8 (.sc (.int .i64 ((48 + k % 10 : Nat) : Int))) K = K (.sc (.int .u8 ((UInt8.ofNat (48 + k % 10)).toNat : Int))) := by
    intro K
    show K (.sc (.int .u8 (IntKind.u8.wrap ((48 + k % 10 : Nat) : Int)))) = _
    have : (UInt8.ofNat (48 + k % 10)).toNat = 48 + k % 10 := by
     rw [UInt8.toNat_ofNat']
     omega
    rw [this]
    have hw : IntKind.u8.wrap ((48 + k % 10 : Nat) : Int) = ((48 + k % 10 : Nat) : Int) := by
     have h10 : k % 10 < 10 := Nat.mod_lt _ (by decide)
     unfold IntKind.wrap
     simp [IntKind.bits, IntKind.signed]
     omega
    rw [hw]
   have e17 : ∀ K : AV → Option AV, Ci .quo (.sc (.int .i64 (k : Int))) (.sc (.int .i64 10)) K = K (.sc (.int .i64 ((k / 10 : Nat) : Int))) := by
    intro K
    show K (.sc (.int .i64 (IntKind.i64.wrap ((k : Int).tdiv 10)))) = _
    rw [Int.tdiv_eq_ediv_of_nonneg (by omega), H3 _ (by omega) (by omega)]
    rfl
   rw [e9, e10, e11, Ah6 _ rfl]
   have hb : ((UInt8.ofNat (48 + k % 10)).toNat : Int).toNat = (UInt8.ofNat (48 + k % 10)).toNat := zbl _
   have hbb : ([.sc (.int .u8 ((UInt8.ofNat (48 + k % 10)).toNat : Int))] : List AV).mapM Kl = some [UInt8.ofNat (48 + k % 10)] := Kx [UInt8.ofNat (48 + k % 10)]
   simp only [zac, Gx, Ot, AeP, hbb]
   have hs : (⟨#[UInt8.ofNat (48 + k % 10)]⟩ : ByteArray).size + out.size ≤ 9223372036854775807 := by
    show 1 + out.size ≤ _
    omega
   have e15 : ∀ K : AV → Option AV, Ci .add (.sc (.string ⟨[UInt8.ofNat (48 + k % 10)].toArray⟩)) (.sc (.string out)) K = K (.sc (.string (⟨#[UInt8.ofNat (48 + k % 10)]⟩ ++ out))) := by
    intro K
    show (X2 .add ⟨#[UInt8.ofNat (48 + k % 10)]⟩ out).bind _ = _
    simp only [X2, if_pos hs, zac]
   rw [e15, e17]
   cases b with
   | zero => simp at h1; omega
   | succ b =>
    have hk10 : k / 10 < 10 ^ b := by
     rw [Nat.pow_succ] at h1
     omega
    have hsz : (⟨#[UInt8.ofNat (48 + k % 10)]⟩ ++ out : ByteArray).size = 1 + out.size := by
     rw [zah]
     rfl
    rw [Abm (n := n) (ty := ty) L hL b m (k / 10) _ _ (by omega) hk10 (by omega) (by rw [hsz]; omega)]
    rw [Afh hk out]
end txt
theorem Ame {n tS f : Nat} (hh : F3 f = false) (hn : 1048576 < n) (L : (AV → Ab → Option AV) → Nat → AV → AV → Ab → Option AV)
  (hL : ∀ kk m k s H, L kk (m + 1) k s H = Ci .gtr k (.sc (.int .i64 0)) fun t7 => Ec t7 (Ci .rem k (.sc (.int .i64 10)) fun t9 => Ci .add (.sc (.int .i64 48)) t9 fun t10 => W5 .u8 t10 fun t11 =>
   (I1 [(.sc (.int .u8 0))] [(0, 1, t11)]).bind fun ct12 => Gx 1 1 ct12 true H fun t12 H => Ot t12 H fun t13 => Ci .add t13 s fun t15 => Ci .quo k (.sc (.int .i64 10)) fun t17 => L kk m t17 t15 H)
   (Ci .add (.sc (.string ⟨#[109]⟩)) s fun t19 => kk t19 H))
  (hF : ∀ a H kk, Eh E0 (n + 1) AV f [a] H kk = Ci .leq a (.sc (.int .i64 0)) fun t5 => Ec t5 (kk (.sc (.string ⟨#[109, 48]⟩)) H) (L kk n a (.sc (.string ⟨#[]⟩)) H)) : Rk (n + 1) tS f := by
 refine ⟨hh, fun k h0 h1 => ?_⟩
 rw [A7, hF, Yv, Do]
 by_cases hk : k ≤ 0
 ·rw [if_pos (by simpa using hk), AmS, AeD, if_pos hk]
  rfl
 ·rw [if_neg (by simpa using hk)]
  obtain ⟨m, rfl⟩ : ∃ m : Nat, k = m := ⟨k.toNat, by omega⟩
  have := Abm (n := n) (ty := tS) (L fun x H => A8 As E0.tp tS H x) (hL _) 19 n m ⟨#[]⟩ [] (by omega) (by omega) (by omega) (by decide)
  rw [this, AeD, if_neg hk]
  rfl
section fns
variable {β : Type}
variable {n : Nat} {res : Option β}
theorem Acd {t g : Nat} {n : Nat} {fs : List MF} (h : Nq n g t fs) (k : Int) (m : Nat) (cells : List AV) (M : Nat) : (B5 As E0.tp M t (Jl (.sub fs) k (.ro m cells)).1).1 = (B5 As E0.tp M t (.ro m cells)).1 := by
 obtain ⟨_, _, ⟨j1, j2, hj1, hj2⟩, _⟩ := h
 rw [Qd hj1 hj2]
 show (B5 As E0.tp M t (.ro m _)).1 = _
 rw [Qd hj1 hj2]
end fns
end
section
open Go
def AtT (H : Ab) (y : AV) (N ty : Nat) (t : AV) : Prop := y = (B5 As E0.tp N ty t).1 ∧ N + Ob t ≤ H.length ∧ Lies H N (B5 As E0.tp N ty t).2
def AtL (H : Ab) (ys : List AV) (N : Nat) (ts : List Nat) (cs : List AV) : Prop := ys = (Bq As E0.tp N ts cs).1 ∧ N + L6 cs ≤ H.length ∧ Lies H N (Bq As E0.tp N ts cs).2
def AeT (H H' : Ab) (N m : Nat) : Prop := H.length ≤ H'.length ∧ ∀ (i : Nat) b, H[i]? = some b → (i < N ∨ N + m ≤ i) → H'[i]? = some b
theorem Lies.grow {H : Ab} {N : Nat} {B : List Jm} (h : Lies H N B) (X : List Jm) : Lies (H ++ X) N B := fun j b hj => by
 have := h j b hj
 rw [zak (zae.1 this).1]
 exact this
theorem Lies.kept {H H' : Ab} {N M m : Nat} {B : List Jm} (h : Lies H N B) (k : AeT H H' M m) (hd : N + B.length ≤ M ∨ M + m ≤ N) : Lies H' N B := fun j b hj => by
 have hlt := (zae.1 hj).1
 exact k.2 _ b (h j b hj) (by omega)
theorem AtT.grow {H : Ab} {y : AV} {N ty : Nat} {t : AV} (h : AtT H y N ty t) (X : List Jm) : AtT (H ++ X) y N ty t := ⟨h.1, by rw [zad]; have := h.2.1; omega, h.2.2.grow X⟩
theorem AtL.grow {H : Ab} {ys : List AV} {N : Nat} {ts : List Nat} {cs : List AV} (h : AtL H ys N ts cs) (X : List Jm) : AtL (H ++ X) ys N ts cs := ⟨h.1, by rw [zad]; have := h.2.1; omega, h.2.2.grow X⟩
theorem AtT.kept {H H' : Ab} {y : AV} {N ty M m : Nat} {t : AV} (h : AtT H y N ty t) (k : AeT H H' M m) (hd : N + Ob t ≤ M ∨ M + m ≤ N) : AtT H' y N ty t := ⟨h.1, za5 h.2.1 k.1, h.2.2.kept k (by rw [J7]; exact hd)⟩
theorem AtL.kept {H H' : Ab} {ys : List AV} {N M m : Nat} {ts : List Nat} {cs : List AV} (h : AtL H ys N ts cs) (k : AeT H H' M m) (hd : N + L6 cs ≤ M ∨ M + m ≤ N) : AtL H' ys N ts cs := ⟨h.1, za5 h.2.1 k.1, h.2.2.kept k (by rw [Hv]; exact hd)⟩
theorem AtL.cons {H : Ab} {ys : List AV} {N t : Nat} {ts : List Nat} {c : AV} {cs : List AV} (h : AtL H ys N (t :: ts) (c :: cs)) : ∃ y ys', ys = y :: ys' ∧ AtT H y N t c ∧ AtL H ys' (N + Ob c) ts cs := by
 obtain ⟨h1, h2, h3⟩ := h
 have h2 : N + (Ob c + L6 cs) ≤ H.length := h2
 have e : Bq As E0.tp N (t :: ts) (c :: cs) = ((B5 As E0.tp N t c).1 :: (Bq As E0.tp (N + Ob c) ts cs).1, (B5 As E0.tp N t c).2 ++ (Bq As E0.tp (N + Ob c) ts cs).2) := by
  rw [Bq, J7]
  rfl
 rw [e] at h1 h3
 refine ⟨_, _, h1, ⟨rfl, by omega, h3.left⟩, ⟨rfl, by omega, ?_⟩⟩
 have := h3.right
 rwa [J7] at this
theorem AtL.nil {H : Ab} {ys : List AV} {N : Nat} {ts : List Nat} (h : AtL H ys N ts []) : ys = [] := h.1
theorem AtT.sc {H : Ab} {y : AV} {N ty : Nat} {v : Value} (h : AtT H y N ty (.sc v)) : y = .sc v := h.1
theorem AtT.agg {H : Ab} {y : AV} {N ty : Nat} {cs : List AV} {cty : List Nat} (h : AtT H y N ty (.agg cs)) (hty : ∃ i, As ty = some i ∧ i.cty = cty) : ∃ ys, y = .agg ys ∧ AtL H ys N cty cs := by
 obtain ⟨i, hi, rfl⟩ := hty
 obtain ⟨h1, h2, h3⟩ := h
 rw [M5, hi, zaA] at h1 h3
 exact ⟨_, h1, rfl, h2, h3⟩
theorem AtT.vw {H : Ab} {y : AV} {N ty : Nat} {t : AV} (h : AtT H y N ty t) (hok : H8 As E0.tp 8 ty t) : Vw H y t := fun X => by
 rw [h.1]
 exact Ts 8 ty t N (Pq 8 ty t hok) (h.2.2.grow X)
theorem AtL.vw {H : Ab} {ys : List AV} {N : Nat} {ts : List Nat} {cs : List AV} (h : AtL H ys N ts cs) (hok : G7 (H8 As E0.tp 7) ts cs) : Vw H (.agg ys) (.agg cs) := fun X => by
 rw [h.1, Ni, Ri (fun ty t N => Ts 7 ty t N) cs ts N (Po (Pq 7) hok) (h.2.2.grow X)]
 rfl
theorem AtL.len {H : Ab} {ys : List AV} {N : Nat} {ts : List Nat} {cs : List AV} (h : AtL H ys N ts cs) : ys.length = cs.length := by rw [h.1, M4]
theorem AcZ {d : Nat} (hd : ∀ ty x f k, H8 As E0.tp d ty x → H8 As E0.tp d ty (Jl f k x).1) : ∀ (cs : List AV) (ts : List Nat) (fs : List MF) (k : Int), G7 (H8 As E0.tp d) ts cs → G7 (H8 As E0.tp d) ts (J9 fs k cs).1
 | [], ts, fs, k, h => by simpa [J9] using h
 | c :: cs, [], fs, k, h => h.elim
 | c :: cs, t :: ts, fs, k, h => ⟨hd _ _ _ _ h.1, AcZ hd cs ts fs.tail _ h.2⟩
theorem Acg : ∀ (d ty : Nat) (x : AV) (f : MF) (k : Int), H8 As E0.tp d ty x → H8 As E0.tp d ty (Jl f k x).1
 | 0, _, _, _, _, h => h
 | d + 1, ty, x, f, k, h => by
  cases x with
  | sc v => cases f <;> trivial
  | ro n cells =>
   cases f with
   | sub fs =>
    obtain ⟨i, j, h1, h2, h3, h4⟩ := h
    exact ⟨i, j, h1, h2, by rw [Uq]; exact h3, AcZ (Acg d) _ _ _ _ h4⟩
   | _ => exact h
  | _ => exact h
section steps
variable {β : Type} {n : Nat} {H : Ab} {r : Option β}
theorem Uo {ty f : Nat} {args vs : List AV} {t : AV} {K : KO β} (hh : F3 f = false) (hv : args.mapM (Dm H 8) = some vs) (ht : C0 E0 n ty f vs = some t) (h : ∀ y X N, N = H.length → AtT (H ++ X) y N ty t → K y (H ++ X) = r) : (PR n β).call ty (.fn f [] []) args H (fun x H => K x H) = r := by
 rw [Kw hh hv ht]
 exact h _ _ _ rfl ⟨rfl, by rw [zad, J7]; exact zan _, Rj _ _⟩
theorem AbY {ty f : Nat} {args vs cs : List AV} {ts : List Nat} {K : KO β} (hh : F3 f = false) (hv : args.mapM (Dm H 8) = some vs) (ht : C0 E0 n ty f vs = some (.tup cs)) (hts : E0.tp ty = some ts) (h : ∀ ys X N, N = H.length → AtL (H ++ X) ys N ts cs → K (.tup ys) (H ++ X) = r) : (PR n β).call ty (.fn f [] []) args H (fun x H => K x H) = r := by
 rw [Kw hh hv ht, S8, hts, zaA]
 exact h _ _ _ rfl ⟨rfl, by rw [zad, Hv]; exact zan _, Rj _ _⟩
theorem AkO {N : Nat} {B : List Jm} (h1 : N + B.length ≤ H.length) (h2 : Lies H N B) : ∃ A C : Ab, A.length = N ∧ H = A ++ (B ++ C) := by
 refine ⟨H.take N, H.drop (N + B.length), by rw [zbA]; omega, ?_⟩
 have e : (H.drop N).take B.length = B := by
  apply List.ext_getElem?
  intro j
  by_cases hj : j < B.length
  ·rw [zbf hj, zaT]
   have hb : B[j]? = some (B[j]) := zaO hj
   rw [hb, h2 j _ hb]
  ·rw [List.getElem?_eq_none (by rw [zbA]; omega), List.getElem?_eq_none (by omega)]
 conv => lhs; rw [← zbv N H, ← zbv B.length (H.drop N), e, zbj]
theorem Ajo {A B B' C X : Ab} (hl : B'.length = B.length) : AeT (A ++ (B ++ C)) (A ++ (B' ++ (C ++ X))) A.length B.length := by
 refine ⟨by simp only [zad, hl]; omega, fun i b h hd => ?_⟩
 rcases hd with hd | hd
 ·rw [zak hd] at h ⊢
  exact h
 ·rw [zaj (by omega), zaj (by omega)] at h ⊢
  rw [hl, zak (zae.1 h).1]
  exact h
theorem AcV {tI g ty N : Nat} {fs : List MF} {t : AV} {y : AV} {k : Int} {K : KO β} (hmk : Nq n g ty fs) (hro : ∃ len cells, t = .ro len cells) (ha : AtT H y N ty t) (hw : wfF (.sub fs) t) (h0 : 0 ≤ k) (hb : k + Ga (.sub fs) t ≤ 4611686018427387904)
  (h : ∀ H', AtT H' y N ty (Jl (.sub fs) k t).1 → AeT H H' N (Ob t) → K (.sc (.int .i64 (k + Ga (.sub fs) t))) H' = r) : (PR n β).call tI (.fn g [] []) [y, .sc (.int .i64 k)] H (fun x H => K x H) = r := by
 obtain ⟨len, cells, rfl⟩ := hro
 obtain ⟨rfl, h2, h3⟩ := ha
 have hnb : ∀ M, (B5 As E0.tp M ty (.ro len cells)).2.length = Ob (.ro len cells) := fun M => J7 _ _ _
 obtain ⟨A, C, rfl, rfl⟩ := AkO (by rw [hnb]; exact h2) h3
 rw [AjV hmk.1 hmk.2.1]
 refine hmk.2.2.2 len cells k hw h0 hb β A C _ r fun X => ?_
 rw [Sa]
 have hl : (B5 As E0.tp A.length ty (Jl (.sub fs) k (.ro len cells)).1).2.length = (B5 As E0.tp A.length ty (.ro len cells)).2.length := by rw [J7, J7, Rc]
 refine h _ ⟨(Acd hmk k len cells A.length).symm, ?_, ?_⟩ ?_
 ·rw [Rc]
  simp only [zad, J7, Rc]
  omega
 ·have := Acs A (B5 As E0.tp A.length ty (Jl (.sub fs) k (.ro len cells)).1).2 (C ++ X)
  rwa [zaf] at this
 ·rw [← hnb A.length]
  exact Ajo hl
theorem AcU {tI g : Nat} {fs : List MF} {t : AV} {y : AV} {k : Int} {K : KO β} (hhe : Oz n g fs) (hro : ∃ len cells, t = .ro len cells) (hv : Vw H y (Jl (.sub fs) k t).1) (hw : wfF (.sub fs) t) (h0 : 0 ≤ k) (hb : k + Ga (.sub fs) t ≤ 4611686018427387904)
  {F : Ab → Option β} (h : K (.sc (.int .i64 (k + Ga (.sub fs) t))) H = r) : (PR n β).call tI (.fn g [] []) [y, .sc (.int .i64 k)] H (fun t H => Ci .lss t (.sc (.int .i64 0)) fun t' => Ec t' (F H) (K t H)) = r := by
 obtain ⟨len, cells, rfl⟩ := hro
 refine Ku hhe.1 (Ds hv (Ds (Jr _ _) Iq)) (hhe.2 tI len cells k hw h0 hb) ?_
 rw [Sa, Wu, Do, if_neg (by simp; omega)]
 exact h
theorem M9 {m : (KO β) → Option β} {k : KO β} (h : m k = r) : Ix (.sc (.bool false)) false H m k = r := h
theorem AcW {v : Value} {K : AV → Option β} (h : K (.sc v) = r) : Nb (.sc (.bool false)) (.sc (.bool true)) (.sc v) (fun t => K t) = r := h
theorem Z1 {b : Bool} {K : AV → Option β} (h : K (.sc (.bool (!b))) = r) : pUn .not (.sc (.bool b)) (fun t => K t) = r := h
theorem Yy {A K : Option β} (h : K = r) : Ec (.sc (.bool false)) A K = r := h
theorem AcT {ty f : Nat} {args vs : List AV} {K : KO β} (hh : F3 f = false) (hv : args.mapM (Dm H 8) = some vs) (ht : C0 E0 n ty f vs = some (.sc (.bool true))) (h : K (.sc (.bool true)) H = r) : (PR n β).call ty (.fn f [] []) args H (fun t H => K t H) = r := Ku hh hv ht h
theorem Ws {z : Int} {K : AV → Option β} (h : K (.sc (.bool false)) = r) : Ci .neq (.sc (.int .i64 z)) (.sc (.int .i64 z)) (fun t => K t) = r := by
 rw [Ak2, bne_self_eq_false]
 exact h
theorem AlN {z : Int} {K : AV → Option β} (h0 : 0 ≤ z) (h : K (.sc (.bool false)) = r) : Ci .lss (.sc (.int .i64 z)) (.sc (.int .i64 0)) (fun t => K t) = r := by
 rw [Wu, show decide (z < 0) = false from by simp; omega]
 exact h
theorem Yz {vs : List AV} {i : Nat} {v : AV} {K : AV → Option β} (hi : vs[i]? = some v) (h : K v = r) : Sk (.tup vs) i (fun t => K t) = r := by
 simp only [Sk, hi, zac]
 exact h
end steps
end
section
open Go
variable {α : Type}
theorem Fk {f : MF} {fs : List MF} {c : AV} {cs : List AV} {a b : Nat} (h1 : Ga f c = a) (h2 : Gz fs cs = b) : Gz (f :: fs) (c :: cs) = a + b := by
 subst h1
 subst h2
 rfl
theorem Mt (n : Nat) (hn : 1048576 < n) : Rk (n + 1) 9 53 := Ame (n := n) rfl hn (fun kk => Vv (PR n AV) n kk) (fun kk m k s H => rfl) (fun a H kk => Alc n a H kk)
def fdByteS : List FD := [⟨.byt, [], 0⟩]
def F6 : List MF := fdByteS.map FD.f
theorem Sb (n : Nat) (hn : 1048576 < n) : Nq (n + 2) 36 22 F6 :=
 R9 (n := n + 1) (tI := 3) (w := 1) (cty := [5]) (fds := fdByteS) rfl rfl (Mt n hn) ⟨rfl, trivial, trivial⟩ rfl ⟨_, _, rfl, rfl, rfl, rfl⟩ (by omega) (fun β kk => Vu (PR (n + 1) β) (n + 1) kk) (fun β kk m a k i H => rfl) (fun β a b H kk => AkZ (n + 1) a b H kk)
theorem Wj (n : Nat) (hn : 1048576 < n) : Oz (n + 2) 57 F6 :=
 R0 (n := n + 1) (tI := 3) (w := 1) (fds := fdByteS) rfl (Mt n hn) ⟨rfl, trivial, trivial⟩ rfl (by decide) (by omega) (fun kk => V0 (PR (n + 1) AV) (n + 1) kk) (fun kk m a k i H => rfl) (fun a b H kk => Alg (n + 1) a b H kk)
def fdIntS : List FD := [⟨.int, [], 0⟩]
def Oa : List MF := fdIntS.map FD.f
theorem Ajx (n : Nat) (hn : 1048576 < n) : Nq (n + 2) 56 57 Oa :=
 R9 (n := n + 1) (tI := 3) (w := 1) (cty := [3]) (fds := fdIntS) rfl rfl (Mt n hn) ⟨rfl, trivial, trivial⟩ rfl ⟨_, _, rfl, rfl, rfl, rfl⟩ (by omega) (fun β kk => Vz (PR (n + 1) β) (n + 1) kk) (fun β kk m a k i H => rfl) (fun β a b H kk => Alf (n + 1) a b H kk)
theorem Ajf (n : Nat) (hn : 1048576 < n) : Oz (n + 2) 60 Oa :=
 R0 (n := n + 1) (tI := 3) (w := 1) (fds := fdIntS) rfl (Mt n hn) ⟨rfl, trivial, trivial⟩ rfl (by decide) (by omega) (fun kk => V3 (PR (n + 1) AV) (n + 1) kk) (fun kk m a k i H => rfl) (fun a b H kk => Alj (n + 1) a b H kk)
def fdStringS : List FD := [⟨.str, [], 0⟩]
def H7 : List MF := fdStringS.map FD.f
theorem Acc (n : Nat) (hn : 1048576 < n) : Nq (n + 2) 55 56 H7 :=
 R9 (n := n + 1) (tI := 3) (w := 1) (cty := [9]) (fds := fdStringS) rfl rfl (Mt n hn) ⟨rfl, trivial, trivial⟩ rfl ⟨_, _, rfl, rfl, rfl, rfl⟩ (by omega) (fun β kk => Vy (PR (n + 1) β) (n + 1) kk) (fun β kk m a k i H => rfl) (fun β a b H kk => Ale (n + 1) a b H kk)
theorem AbS (n : Nat) (hn : 1048576 < n) : Oz (n + 2) 59 H7 :=
 R0 (n := n + 1) (tI := 3) (w := 1) (fds := fdStringS) rfl (Mt n hn) ⟨rfl, trivial, trivial⟩ rfl (by decide) (by omega) (fun kk => V2 (PR (n + 1) AV) (n + 1) kk) (fun kk m a k i H => rfl) (fun a b H kk => Ali (n + 1) a b H kk)
theorem Sy (s : ByteArray) (h : s.size ≤ 1048576) : wfF (.sub F6) (Ad s) := by
 refine ⟨h, by rw [Ew]; show _ = s.size * 1; omega, ?_⟩
 have key : ∀ l : List UInt8, Ya (Io l.length F6) (l.map fun b => .sc (.int .u8 b.toNat)) := by
  intro l
  induction l with
  | nil => rfl
  | cons b l ih =>
   rw [zam, I2, zaq]
   exact wfL_cons.2 ⟨trivial, ih⟩
 have := key s.data.toList
 rwa [show s.data.toList.length = s.size by simp] at this
theorem Rp (f : MF) (e : α → Value) (h : ∀ x, Ga f (.sc (e x)) = 1) : ∀ l : List α, Gz (Io l.length [f]) (l.map fun x => .sc (e x)) = l.length
 | [] => rfl
 | x :: l => by
  rw [zam, I2, zaq]
  show Ga f (.sc (e x)) + Gz (Io l.length [f]) _ = _
  rw [h, Rp f e h l]
  omega
theorem P5 (s : ByteArray) : Ga (.sub F6) (Ad s) = s.size := by
 have := Rp .byt (fun b : UInt8 => .int .u8 b.toNat) (fun _ => rfl) s.data.toList
 rw [show s.data.toList.length = s.size by simp] at this
 exact this
theorem AjQ (l : List Int) (h : l.length ≤ 1048576) : wfF (.sub Oa) (D5 l) := by
 refine ⟨h, by simp [Oa, fdIntS], ?_⟩
 clear h
 induction l with
 | nil => rfl
 | cons b l ih =>
  rw [zam, I2, zaq]
  exact wfL_cons.2 ⟨trivial, ih⟩
theorem Afe (l : List Int) : Ga (.sub Oa) (D5 l) = l.length := Rp .int (fun z : Int => .int .i64 z) (fun _ => rfl) l
theorem AjR (l : List ByteArray) (h : l.length ≤ 1048576) : wfF (.sub H7) (D6 l) := by
 refine ⟨h, by simp [H7, fdStringS], ?_⟩
 clear h
 induction l with
 | nil => rfl
 | cons b l ih =>
  rw [zam, I2, zaq]
  exact wfL_cons.2 ⟨trivial, ih⟩
theorem Aff (l : List ByteArray) : Ga (.sub H7) (D6 l) = l.length := Rp .str (fun z : ByteArray => .string z) (fun _ => rfl) l
theorem AmY {wt : α → Nat} (sm : α → Prop) (hs : ∀ x, wt x ≤ 1048576 → sm x) (l : List α) (h : P2 wt l ≤ 1048576) : l.length ≤ 1048576 ∧ ∀ y ∈ l, sm y := by
 have h1 := P3 wt l
 refine ⟨by omega, fun y hy => hs y ?_⟩
 have h2 := Uy (wt := wt) hy
 omega
theorem Ux {enc : α → List AV} {fs : List MF} (l : List α) (h : l.length ≤ 1048576) (hw : ∀ x ∈ l, Ya fs (enc x)) : wfF (.sub fs) (Bt enc l) := by
 have key : ∀ l : List α, (∀ x ∈ l, Ya fs (enc x)) → (l.map enc).flatten.length = l.length * fs.length ∧ Ya (Io l.length fs) (l.map enc).flatten := by
  intro l
  induction l with
  | nil => intro _; exact ⟨by simp, rfl⟩
  | cons x l ih =>
   intro hw
   obtain ⟨h1, h2⟩ := ih fun y hy => hw y (zat _ hy)
   have hx := hw x zay
   have hl := Qo hx
   rw [zaq, zaz, zam, I2]
   exact ⟨by rw [zad, h1, ← hl, zbs]; omega, (Ok hl).2 ⟨hx, h2⟩⟩
 obtain ⟨h1, h2⟩ := key l hw
 exact ⟨h, h1, h2⟩
theorem Vc {enc : α → List AV} {fs : List MF} {wt : α → Nat} : ∀ (l : List α), (∀ x ∈ l, fs.length = (enc x).length) → (∀ x ∈ l, Gz fs (enc x) ≤ 64 * (1 + wt x)) → Ga (.sub fs) (Bt enc l) ≤ 64 * P2 wt l
 | [], _, _ => zav _
 | x :: l, hl, h => by
  have ih := Vc l (fun y hy => hl y (zat _ hy)) (fun y hy => h y (zat _ hy))
  have hx := h x zay
  show Gz (Io (l.length + 1) fs) (enc x ++ (l.map enc).flatten) ≤ _
  rw [I2, Mg _ _ _ _ (hl x zay), P2]
  have ih : Gz (Io l.length fs) (l.map enc).flatten ≤ 64 * P2 wt l := ih
  omega
def fdWantS : List FD := [⟨.str, [0], 0⟩, ⟨.int, [1], 0⟩]
def AiY : List FD := [⟨.str, [0], 0⟩, ⟨.int, [1], 0⟩]
def K5 : List MF := fdWantS.map FD.f
def Aab (x : WantV) : Prop := True
theorem Ahj (n : Nat) (hn : 1048576 < n) : Nq (n + 2) 54 55 K5 :=
 R9 (n := n + 1) (tI := 3) (w := 2) (cty := Zj) (fds := fdWantS) rfl rfl (Mt (n + 0) (by omega)) ⟨rfl, trivial, ⟨rfl, trivial, trivial⟩⟩ rfl ⟨_, _, rfl, rfl, rfl, rfl⟩ (by omega) (fun β kk => Vx (PR (n + 1) β) (n + 1) kk) (fun β kk m a k i H => rfl) (fun β a b H kk => Ald (n + 1) a b H kk)
theorem AgS (n : Nat) (hn : 1048576 < n) : Oz (n + 2) 58 K5 :=
 R0 (n := n + 1) (tI := 3) (w := 2) (fds := AiY) rfl (Mt (n + 0) (by omega)) ⟨rfl, trivial, ⟨rfl, trivial, trivial⟩⟩ rfl (by decide) (by omega) (fun kk => V1 (PR (n + 1) AV) (n + 1) kk) (fun kk m a k i H => rfl) (fun a b H kk => Alh (n + 1) a b H kk)
theorem AjH (x : WantV) (h : Il x ≤ 1048576) : Aab x := by
 have h0 := h
 unfold Il at h0
 exact trivial
theorem Amh (x : WantV) (h : Aab x) : Ya K5 (Bp x) := by
 exact wfL_cons.2 ⟨trivial, wfL_cons.2 ⟨trivial, rfl⟩⟩
theorem AhR (x : WantV) : Gz K5 (Bp x) ≤ 64 * (1 + Il x) := by
 show 1 + (1 + 0) ≤ _
 unfold Il
 omega
def fdPacketS : List FD := [⟨.int, [0], 0⟩, ⟨.bool, [1], 0⟩, ⟨.int, [2], 0⟩, ⟨.bool, [3], 0⟩, ⟨.int, [4], 0⟩, ⟨.str, [5], 0⟩, ⟨.sub F6, [6], 36⟩, ⟨.str, [7], 0⟩, ⟨.int, [8], 0⟩, ⟨.bool, [9], 0⟩, ⟨.int, [10], 0⟩, ⟨.bool, [11], 0⟩, ⟨.str, [12], 0⟩, ⟨.sub F6, [13], 36⟩, ⟨.int, [14], 0⟩, ⟨.bool, [15], 0⟩, ⟨.bool, [16], 0⟩, ⟨.str, [17], 0⟩, ⟨.bool, [18], 0⟩, ⟨.sub F6, [19], 36⟩, ⟨.int, [20], 0⟩, ⟨.bool, [21], 0⟩, ⟨.sub K5, [22], 54⟩, ⟨.sub H7, [23], 55⟩, ⟨.sub Oa, [24], 56⟩]
def Ae4 : List FD := [⟨.int, [0], 0⟩, ⟨.bool, [1], 0⟩, ⟨.int, [2], 0⟩, ⟨.bool, [3], 0⟩, ⟨.int, [4], 0⟩, ⟨.str, [5], 0⟩, ⟨.sub F6, [6], 57⟩, ⟨.str, [7], 0⟩, ⟨.int, [8], 0⟩, ⟨.bool, [9], 0⟩, ⟨.int, [10], 0⟩, ⟨.bool, [11], 0⟩, ⟨.str, [12], 0⟩, ⟨.sub F6, [13], 57⟩, ⟨.int, [14], 0⟩, ⟨.bool, [15], 0⟩, ⟨.bool, [16], 0⟩, ⟨.str, [17], 0⟩, ⟨.bool, [18], 0⟩, ⟨.sub F6, [19], 57⟩, ⟨.int, [20], 0⟩, ⟨.bool, [21], 0⟩, ⟨.sub K5, [22], 58⟩, ⟨.sub H7, [23], 59⟩, ⟨.sub Oa, [24], 60⟩]
def H6 : List MF := fdPacketS.map FD.f
def Sq (x : PacketV) : Prop := x.fBody.size ≤ 1048576 ∧ x.fWBody.size ≤ 1048576 ∧ x.fPass.size ≤ 1048576 ∧ (x.fWants.length ≤ 1048576 ∧ ∀ y ∈ x.fWants, Aab y) ∧ x.fNames.length ≤ 1048576 ∧ x.fCodes.length ≤ 1048576 ∧ True
theorem Acb (n : Nat) (hn : 1048576 < n) : Nq (n + 3) 26 33 H6 :=
 R9 (n := n + 2) (tI := 3) (w := 25) (cty := P7) (fds := fdPacketS) rfl rfl (Mt (n + 1) (by omega)) ⟨rfl, trivial, ⟨rfl, trivial, ⟨rfl, trivial, ⟨rfl, trivial, ⟨rfl, trivial, ⟨rfl, trivial, ⟨rfl, Sb (n + 0) (by omega), ⟨rfl, trivial, ⟨rfl, trivial, ⟨rfl, trivial, ⟨rfl, trivial, ⟨rfl, trivial, ⟨rfl, trivial, ⟨rfl, Sb (n + 0) (by omega), ⟨rfl, trivial, ⟨rfl, trivial, ⟨rfl, trivial, ⟨rfl, trivial, ⟨rfl, trivial, ⟨rfl, Sb (n + 0) (by omega), ⟨rfl, trivial, ⟨rfl, trivial, ⟨rfl, Ahj (n + 0) (by omega), ⟨rfl, Acc (n + 0) (by omega), ⟨rfl, Ajx (n + 0) (by omega), trivial⟩⟩⟩⟩⟩⟩⟩⟩⟩⟩⟩⟩⟩⟩⟩⟩⟩⟩⟩⟩⟩⟩⟩⟩⟩ rfl ⟨_, _, rfl, rfl, rfl, rfl⟩ (by omega) (fun β kk => Vq (PR (n + 2) β) (n + 2) kk) (fun β kk m a k i H => rfl) (fun β a b H kk => AkS (n + 2) a b H kk)
theorem Wk (n : Nat) (hn : 1048576 < n) : Oz (n + 3) 28 H6 :=
 R0 (n := n + 2) (tI := 3) (w := 25) (fds := Ae4) rfl (Mt (n + 1) (by omega)) ⟨rfl, trivial, ⟨rfl, trivial, ⟨rfl, trivial, ⟨rfl, trivial, ⟨rfl, trivial, ⟨rfl, trivial, ⟨rfl, Wj (n + 0) (by omega), ⟨rfl, trivial, ⟨rfl, trivial, ⟨rfl, trivial, ⟨rfl, trivial, ⟨rfl, trivial, ⟨rfl, trivial, ⟨rfl, Wj (n + 0) (by omega), ⟨rfl, trivial, ⟨rfl, trivial, ⟨rfl, trivial, ⟨rfl, trivial, ⟨rfl, trivial, ⟨rfl, Wj (n + 0) (by omega), ⟨rfl, trivial, ⟨rfl, trivial, ⟨rfl, AgS (n + 0) (by omega), ⟨rfl, AbS (n + 0) (by omega), ⟨rfl, Ajf (n + 0) (by omega), trivial⟩⟩⟩⟩⟩⟩⟩⟩⟩⟩⟩⟩⟩⟩⟩⟩⟩⟩⟩⟩⟩⟩⟩⟩⟩ rfl (by decide) (by omega) (fun kk => Vr (PR (n + 2) AV) (n + 2) kk) (fun kk m a k i H => rfl) (fun a b H kk => AkT (n + 2) a b H kk)
theorem AeK (x : PacketV) (h : Co x ≤ 1048576) : Sq x := by
 have e3 := P3 Il x.fWants
 have e4 := P3 zbk x.fNames
 have h0 := h
 unfold Co at h0
 exact ⟨by omega, by omega, by omega, AmY Aab AjH _ (by omega), by omega, by omega, trivial⟩
theorem Xy (x : PacketV) (h : Sq x) : Ya H6 (An x) := by
 obtain ⟨h0, h1, h2, h3, h4, h5, _⟩ := h
 exact wfL_cons.2 ⟨trivial, wfL_cons.2 ⟨trivial, wfL_cons.2 ⟨trivial, wfL_cons.2 ⟨trivial, wfL_cons.2 ⟨trivial, wfL_cons.2 ⟨trivial, wfL_cons.2 ⟨Sy _ h0, wfL_cons.2 ⟨trivial, wfL_cons.2 ⟨trivial, wfL_cons.2 ⟨trivial, wfL_cons.2 ⟨trivial, wfL_cons.2 ⟨trivial, wfL_cons.2 ⟨trivial, wfL_cons.2 ⟨Sy _ h1, wfL_cons.2 ⟨trivial, wfL_cons.2 ⟨trivial, wfL_cons.2 ⟨trivial, wfL_cons.2 ⟨trivial, wfL_cons.2 ⟨trivial, wfL_cons.2 ⟨Sy _ h2, wfL_cons.2 ⟨trivial, wfL_cons.2 ⟨trivial, wfL_cons.2 ⟨Ux _ h3.1 fun y hy => Amh y (h3.2 y hy), wfL_cons.2 ⟨AjR _ h4, wfL_cons.2 ⟨AjQ _ h5, rfl⟩⟩⟩⟩⟩⟩⟩⟩⟩⟩⟩⟩⟩⟩⟩⟩⟩⟩⟩⟩⟩⟩⟩⟩⟩
theorem Adt (x : PacketV) : Gz H6 (An x) ≤ 64 * (1 + Co x) := by
 have c0 := P5 x.fBody
 have c1 := P5 x.fWBody
 have c2 := P5 x.fPass
 have c3 := Vc (fs := K5) (wt := Il) x.fWants (fun y _ => rfl) (fun y _ => AhR y)
 have c4 := Aff x.fNames
 have c5 := Afe x.fCodes
 have e4 := P3 zbk x.fNames
 obtain ⟨u, hu⟩ : ∃ u : Nat, u = 1 := ⟨_, rfl⟩
 have cE : Gz H6 (An x) = u + (u + (u + (u + (u + (u + (Ga (.sub F6) (Ad x.fBody) + (u + (u + (u + (u + (u + (u + (Ga (.sub F6) (Ad x.fWBody) + (u + (u + (u + (u + (u + (Ga (.sub F6) (Ad x.fPass) + (u + (u + (Ga (.sub K5) (Bt Bp x.fWants) + (Ga (.sub H7) (D6 x.fNames) + (Ga (.sub Oa) (D5 x.fCodes) + 0)))))))))))))))))))))))) := by
  subst hu
  exact Fk rfl (Fk rfl (Fk rfl (Fk rfl (Fk rfl (Fk rfl (Fk rfl (Fk rfl (Fk rfl (Fk rfl (Fk rfl (Fk rfl (Fk rfl (Fk rfl (Fk rfl (Fk rfl (Fk rfl (Fk rfl (Fk rfl (Fk rfl (Fk rfl (Fk rfl (Fk rfl (Fk rfl (Fk rfl (rfl)))))))))))))))))))))))))
 rw [cE]
 clear cE
 generalize Ga (.sub F6) (Ad x.fBody) = a0 at c0 ⊢
 generalize Ga (.sub F6) (Ad x.fWBody) = a1 at c1 ⊢
 generalize Ga (.sub F6) (Ad x.fPass) = a2 at c2 ⊢
 generalize Ga (.sub K5) (Bt Bp x.fWants) = a3 at c3 ⊢
 generalize Ga (.sub H7) (D6 x.fNames) = a4 at c4 ⊢
 generalize Ga (.sub Oa) (D5 x.fCodes) = a5 at c5 ⊢
 unfold Co
 simp only [← za9, zaM, Nat.mul_add]
 omega
end
end Go.Proofs.YtlcpigdmekgajaaGreatDoor.Abs
