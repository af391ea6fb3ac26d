/- What the proof needs, part 4: a sound evaluator over trees, the program's functions on it, and what they come to. -/
import Derived.Test.YtdofipeaomgbbaaGreatDoorMoc
import Derived.Lib.TrimUEq
import Derived.Lib.ValidLaws
import Derived.Lib.MapLaws
set_option linter.unusedVariables false
set_option linter.unusedSimpArgs false
set_option maxRecDepth 100000
namespace Go.Proofs.YtdofipeaomgbbaaGreatDoor.Abs
open _root_.Option renaming bind_eq_some_iff → zaa, bind_some → zab, getD_some → zaA
open _root_.List renaming getElem?_eq_some_iff → zac, replicate → zad, nil_append → zae, getElem?_append_right → zaf, length_append → zag, getElem?_append_left → zai, append_assoc → zak, append_nil → zam, cons_append → zao, length_singleton → zap, length_cons → zat, length_nil → zau, mem_cons_of_mem → zav, map_cons → zax, flatten_append → zay, take_length → zaz, getElem?_set_ne → za0, mem_cons → za2, drop_zero → za4, map_append → za6, mem_cons_self → za9, length_drop → zaC, nodup_cons → zaF, flatten_cons → zaH, mem_range'_1 → zaJ, mem_append → zaL, nodup_append → zaO, getElem?_set_self → zaR, nodup_range' → zaS, getElem?_drop → zaT, drop_eq_getElem_cons → zaV, drop_of_length_le → zaX, drop_drop → zba, getElem?_map → zbd, range' → zbg, any_cons → zbh, length_set → zbi, all_cons → zbk, drop_append_of_le_length → zbl, set_eq_take_append_cons_drop → zbw, map_nil → zbx, headD_cons → zb3, length_map → zb4, take_append_of_le_length → zb7, tail_cons → zb8, nodup_nil → zb9, getD_eq_getElem?_getD → zbF, replicate_succ' → zbH, take_zero → zbI, drop_length → zbM, replicate_succ → zbN
open _root_.Bool renaming and_eq_true → zah, false_eq_true → zaj, eq_iff_iff → zbj, false_or → zbr, true_and → zbE
open _root_.Nat renaming le_refl → zal, zero_add → zaw, le_trans → za1, zero_le → za3, min_eq_left → zaM, sub_self → zaN, add_assoc → zaQ, add_zero → zbf, add_sub_cancel_left → zbs, one_mul → zbt, add_comm → zbO, mul_one → zbR, succ_mul → zbS
open _root_.Int renaming natCast_zero → zaY, toNat_natCast → zbo
section
open Go
theorem Ajy : ∀ X : Fin 256, bits .and .i64 ((X.val : Nat) : Int) 31 = ((X.val % 32 : Nat) : Int) := by decide +kernel
theorem Ajx : ∀ X : Fin 256, bits .and .i64 ((X.val : Nat) : Int) 15 = ((X.val % 16 : Nat) : Int) := by decide +kernel
theorem Ajz : ∀ X : Fin 256, bits .and .i64 ((X.val : Nat) : Int) 7 = ((X.val % 8 : Nat) : Int) := by decide +kernel
def Qp (d : Nat × Nat) (i : Nat) : AV := if d.1 = 65533 ∧ d.2 = 1 then .tup [.sc (.int .i64 0), .sc (.int .i64 0), .sc (.bool false)] else .tup [.sc (.int .i64 d.1), .sc (.int .i64 ((i + d.2 : Nat) : Int)), .sc (.bool true)]
def Zo : AV := .tup [.sc (.int .i64 0), .sc (.int .i64 0), .sc (.bool false)]
theorem Ahq (s : ByteArray) (i : Nat) (h : i < s.size) (H : Ab) (k : AV → Option AV) : (Es 1 (A3 s) (.sc (.int .i64 i)) fun t => Cs false 1 t H k) = k (.sc (.int .u8 (s.data.toList.getD i 0).toNat)) := by
 rw [Rr 1 _ _ i _ h (by rw [Ep]; omega)]
 have hl : i < s.data.toList.length := by simpa using h
 have hd : (Bg s).drop (i * 1) = .sc (.int .u8 (s.data.toList.getD i 0).toNat) :: (Bg s).drop (i + 1) := by
  rw [zbR, zaV (by rw [Ep]; omega)]
  congr 1
  simp [Bg, zbF, h]
 rw [hd, Od]
section loop
variable (n : Nat) (k : AV → Ab → Option AV) (H : Ab) (s : ByteArray)
theorem Jw (m at' N v i : Nat) (least : Int) (hi : i ≤ N) (hb : at' + i < s.size) (hN : N ≤ 3) (hv : v < 100000000) (hs : s.size ≤ 1048576) :
  Ii (PR n AV) n k (m + 1) (A3 s) (si at') (si N) (si least) (si v) (si i) H =
   if (s.data.toList.getD (at' + i) 0).toNat / 64 = 2 then Ii (PR n AV) n k m (A3 s) (si at') (si N) (si least) (si ((v * 64 + (s.data.toList.getD (at' + i) 0).toNat % 64 : Nat) : Int)) (si ((i + 1 : Nat) : Int)) H else k Zo H := by
 obtain ⟨y, hy⟩ : ∃ y, (s.data.toList.getD (at' + i) 0).toNat = y := ⟨_, rfl⟩
 have hylt : y < 256 := by rw [← hy]; exact (s.data.toList.getD (at' + i) 0).toNat_lt
 have hba := Ahq s (at' + i) hb H
 rw [hy] at hba ⊢
 rw [Ii]
 simp only [Bf, Ay, B5, Bn, D2, B3, Pr.gT, Pr.gF, Pr.hT, Pr.hF, Pr.kT, Pr.kF, Ci]
 rw [S3, Ds, if_pos (by simp; omega), Q0, ← Int.natCast_add, Gh _ (by omega) (by omega), hba]
 simp only [Xy, Yi, zab]
 rw [Gh _ (by omega) (by omega), AaK]
 by_cases h1 : y < 128
 refine Df (by simp; omega) (Df (by simp; omega) (Qu (by simp; omega) ?_))
 rw [if_neg (by omega)]
 rfl
 refine C5 (by simp; omega) (C5 (by simp; omega) ?_)
 rw [Akr]
 refine Rm (by simp; omega) ?_
 by_cases h2 : y ≤ 191
 rw [Ds, if_neg (by simp; omega), if_pos (by omega), Ak1, show (v : Int) * 64 = ((v * 64 : Nat) : Int) by omega, Gh _ (by omega) (by omega), Q0, ← Int.natCast_add, Gh _ (by omega) (by omega), Re _ _ _ (by omega) (by omega), Ew _ _ (by omega)]
 congr 3
 omega
 rw [Ds, if_pos (by simp; omega), if_neg (by omega)]
 rfl
theorem Tl (n' : Nat) (hnn : n = n' + 1) (m at' N v least : Nat) (hN : N ≤ 3) (hv : v < 100000000) (ha : at' ≤ 1048576) :
  Ii (PR n AV) n k (m + 1) (A3 s) (si at') (si N) (si least) (si v) (si ((N + 1 : Nat) : Int)) H =
   if v ≥ least ∧ (v < 55296 ∨ (57344 ≤ v ∧ v ≤ 1114111)) then k (.tup [si v, si ((at' + (N + 1) : Nat) : Int), bT]) H else k Zo H := by
 subst hnn
 rw [Ii]
 simp only [Bf, Ay, B5, Bn, D2, B3, Pr.gT, Pr.gF, Pr.hT, Pr.hF, Pr.kT, Pr.kF, Ci]
 rw [S3, Ds, if_neg (by simp; omega), AaK]
 by_cases h1 : v < least
 have e : decide ((v : Int) < (least : Int)) = true := by simp; omega
 refine Df e (Df e (Qu e (Df rfl (Df rfl (Qu rfl (Fq rfl ?_))))))
 rw [if_neg (by omega)]
 rfl
 have e : decide ((v : Int) < (least : Int)) = false := by simp; omega
 refine C5 e (C5 e (A1 (v := sb (decide ((v : Int) > 1114111))) (fun k => rfl) (Rm e ?_)))
 by_cases h2 : v > 1114111
 have e2 : decide ((v : Int) > 1114111) = true := by simp; omega
 refine Df e2 (Df e2 (Qu e2 (Fq rfl ?_)))
 rw [if_neg (by omega)]
 rfl
 have e2 : decide ((v : Int) > 1114111) = false := by simp; omega
 refine C5 e2 (C5 e2 (Dk rfl (Bk (C4 _ _) (Bk (C4 _ _) (Bk (C4 _ _) Dw))) (O5 n' _ v 55296 57343) (Rm e2 ?_)))
 by_cases h3 : 55296 ≤ v ∧ v ≤ 57343
 refine Fq (by simp [Fl]; omega) ?_
 rw [if_neg (by omega)]
 rfl
 refine F2 (by simp [Fl]; omega) ?_
 have e5 : ((at' : Int) + 1 + (N : Int)) = ((at' + (N + 1) : Nat) : Int) := by omega
 rw [if_pos (by omega), Q0, Gh _ (by omega) (by omega), Q0, Gh _ (by omega) (by omega), e5]
 rfl
end loop
theorem E6 (H : Ab) (a b c : Value) : Be Ap E0.tp 129 H (.tup [.sc a, .sc b, .sc c]) = some (.tup [.sc a, .sc b, .sc c]) := rfl
set_option maxHeartbeats 1600000 in
theorem Ahd (n : Nat) (hn : 1048576 < n) (s : ByteArray) (i : Nat) (hs : s.size ≤ 1048576) (hi : i < s.size) : Ct E0 (n + 2) 129 128 [A3 s, .sc (.int .i64 i)] = some (Qp (Lib.decodeL (s.data.toList.drop i)) i) := by
 have hg : ∀ j, (s.data.toList.drop i).getD j 0 = s.data.toList.getD (i + j) 0 := fun j => by simp [zbF, zaT]
 have hL : (s.data.toList.drop i).length = s.size - i := by simp
 have hg0 : (s.data.toList.drop i).getD 0 0 = s.data.toList.getD i 0 := hg 0
 rw [Lib.decodeL_N, hL, hg0, hg 1, hg 2, hg 3]
 obtain ⟨x, hx⟩ : ∃ x, (s.data.toList.getD i 0).toNat = x := ⟨_, rfl⟩
 have hxl : x < 256 := by rw [← hx]; exact (s.data.toList.getD i 0).toNat_lt
 obtain ⟨y1, hy1⟩ : ∃ x, (s.data.toList.getD (i + 1) 0).toNat = x := ⟨_, rfl⟩
 obtain ⟨y2, hy2⟩ : ∃ x, (s.data.toList.getD (i + 2) 0).toNat = x := ⟨_, rfl⟩
 obtain ⟨y3, hy3⟩ : ∃ x, (s.data.toList.getD (i + 3) 0).toNat = x := ⟨_, rfl⟩
 have b1 : y1 < 256 := by rw [← hy1]; exact (s.data.toList.getD (i + 1) 0).toNat_lt
 have b2 : y2 < 256 := by rw [← hy2]; exact (s.data.toList.getD (i + 2) 0).toNat_lt
 have b3 : y3 < 256 := by rw [← hy3]; exact (s.data.toList.getD (i + 3) 0).toNat_lt
 have hba := Ahq s i hi []
 rw [hx] at hba
 rw [hx, hy1, hy2, hy3]
 have fails : Lib.decodeN (s.size - i) x y1 y2 y3 = (65533, 1) → some Zo = some (Qp (Lib.decodeN (s.size - i) x y1 y2 y3) i) := fun h => by rw [h]; rfl
 have goes : ∀ v w, Lib.decodeN (s.size - i) x y1 y2 y3 = (v, w) → (w = 1 → v < 128) → some (.tup [si v, si ((i + w : Nat) : Int), bT]) = some (Qp (Lib.decodeN (s.size - i) x y1 y2 y3) i) := fun v w h hw => by
  rw [h, Qp, if_neg (by intro h; simp only at h; omega)]
 rw [A2, Agc, f128]
 simp only [Bf, Ay, B5, Bn, D2, B3, Pr.gT, Pr.gF, Pr.hT, Pr.hF, Pr.kT, Pr.kF, Ci, B0]
 have e0 : decide ((i : Int) < 0) = false := by simp
 rw [AaK]
 refine C5 e0 (C5 e0 (C5 e0 (Do (C5 e0 (A1 (v := .sc (.bool (decide ((i : Int) ≥ (s.size : Int))))) (fun k => rfl) (Rm e0 (F2 (by simp; omega) ?_)))))))
 rw [hba]
 simp only [Xy, Yi, zab]
 rw [Gh _ (by omega) (by omega), AaK]
 by_cases c1 : x < 128
 refine Fq (by simp; omega) ?_
 rw [Ew _ _ (by omega)]
 exact (E6 _ _ _ _).trans (goes x 1 (by rw [Lib.decodeN, if_pos c1]) (fun _ => c1))
 refine F2 (by simp; omega) ?_
 obtain ⟨q, rfl⟩ : ∃ q, n = q + 4 := ⟨n - 4, by omega⟩
 apply A6 (decide ((x : Int) ≥ 192) && decide ((x : Int) < 224))
 intro b hb
 refine A1 (v := sb (decide ((x : Int) ≥ 192))) (fun k => rfl) (Ag (decide ((x : Int) ≥ 192)) (fun h => ?_) fun h => ?_)
 exact An h (An h (A1 (v := sb (decide ((x : Int) < 224))) (fun k => rfl) (Cb h (G9 hb h) rfl)))
 exact Ao h (Ao h (Ca h (G8 hb h) rfl))
 intro b0 hb0
 by_cases d0 : 192 ≤ x ∧ x < 224
 refine Fq (by rw [hb0]; simp; omega) (A1 (v := .sc (.int .i64 ((x % 32 : Nat) : Int))) (fun k => by show k (.sc (.int .i64 (bits .and .i64 (x : Int) 31))) = _; rw [Ajy ⟨x, hxl⟩]) (Do (A1 (v := .sc (.int .i64 ((s.size : Int) - 1))) (fun k => Re _ _ _ (by omega) (by omega)) (A1 (v := .sc (.int .i64 ((s.size : Int) - 1 - 1))) (fun k => Re _ _ _ (by omega) (by omega)) (A1 (v := .sc (.bool (decide ((i : Int) > (s.size : Int) - 1 - 1)))) (fun k => rfl) ?_)))))
 by_cases c3 : i + 1 < s.size
 ·refine F2 (by simp; omega) ?_
  have r1 := Jw (q + 4 + 1) (fun x H => Be Ap E0.tp 129 H x) [] s (q + 4) i 1 (x % 32) 1 128 (by omega) (by omega) (by omega) (by omega) hs
  rw [hy1] at r1
  refine r1.trans ?_
  by_cases k1 : y1 / 64 = 2
  rotate_left
  rw [if_neg k1]
  exact (E6 _ _ _ _).trans (fails (by unfold Lib.decodeN; rw [if_neg c1, if_neg (by omega), if_neg (by omega), if_neg (by omega)]))
  rw [if_pos k1]
  refine (Tl (q + 4 + 1) (fun x H => Be Ap E0.tp 129 H x) [] s (q + 4) rfl (q + 3) i 1 ((x % 32) * 64 + y1 % 64) 128 (by omega) (by omega) (by omega)).trans ?_
  have hv : (x % 32) * 64 + y1 % 64 = x % 32 * 64 + y1 % 64 := by omega
  rw [hv]
  split
  exact (E6 _ _ _ _).trans (goes _ 2 (by unfold Lib.decodeN; rw [if_neg c1, if_pos (by omega), if_pos (by omega)]) (by omega))
  exact (E6 _ _ _ _).trans (fails (by unfold Lib.decodeN; rw [if_neg c1, if_pos (by omega), if_neg (by omega)]))
 exact Fq (by simp; omega) ((E6 _ _ _ _).trans (fails (by unfold Lib.decodeN; rw [if_neg c1, if_neg (by omega), if_neg (by omega), if_neg (by omega)])))
 refine F2 (by rw [hb0]; simp; omega) ?_
 apply A6 (decide ((x : Int) ≥ 224) && decide ((x : Int) < 240))
 intro b hb
 refine A1 (v := sb (decide ((x : Int) ≥ 224))) (fun k => rfl) (Ag (decide ((x : Int) ≥ 224)) (fun h => ?_) fun h => ?_)
 exact An h (An h (A1 (v := sb (decide ((x : Int) < 240))) (fun k => rfl) (Cb h (G9 hb h) rfl)))
 exact Ao h (Ao h (Ca h (G8 hb h) rfl))
 intro b1 hb1
 by_cases d1 : 224 ≤ x ∧ x < 240
 refine Fq (by rw [hb1]; simp; omega) (A1 (v := .sc (.int .i64 ((x % 16 : Nat) : Int))) (fun k => by show k (.sc (.int .i64 (bits .and .i64 (x : Int) 15))) = _; rw [Ajx ⟨x, hxl⟩]) (Do (A1 (v := .sc (.int .i64 ((s.size : Int) - 1))) (fun k => Re _ _ _ (by omega) (by omega)) (A1 (v := .sc (.int .i64 ((s.size : Int) - 1 - 2))) (fun k => Re _ _ _ (by omega) (by omega)) (A1 (v := .sc (.bool (decide ((i : Int) > (s.size : Int) - 1 - 2)))) (fun k => rfl) ?_)))))
 by_cases c3 : i + 2 < s.size
 ·refine F2 (by simp; omega) ?_
  have r1 := Jw (q + 4 + 1) (fun x H => Be Ap E0.tp 129 H x) [] s (q + 4) i 2 (x % 16) 1 2048 (by omega) (by omega) (by omega) (by omega) hs
  rw [hy1] at r1
  refine r1.trans ?_
  by_cases k1 : y1 / 64 = 2
  rotate_left
  rw [if_neg k1]
  exact (E6 _ _ _ _).trans (fails (by unfold Lib.decodeN; rw [if_neg c1, if_neg (by omega), if_neg (by omega), if_neg (by omega)]))
  rw [if_pos k1]
  have r2 := Jw (q + 4 + 1) (fun x H => Be Ap E0.tp 129 H x) [] s (q + 3) i 2 ((x % 16) * 64 + y1 % 64) 2 2048 (by omega) (by omega) (by omega) (by omega) hs
  rw [hy2] at r2
  refine r2.trans ?_
  by_cases k2 : y2 / 64 = 2
  rotate_left
  rw [if_neg k2]
  exact (E6 _ _ _ _).trans (fails (by unfold Lib.decodeN; rw [if_neg c1, if_neg (by omega), if_neg (by omega), if_neg (by omega)]))
  rw [if_pos k2]
  refine (Tl (q + 4 + 1) (fun x H => Be Ap E0.tp 129 H x) [] s (q + 4) rfl (q + 2) i 2 (((x % 16) * 64 + y1 % 64) * 64 + y2 % 64) 2048 (by omega) (by omega) (by omega)).trans ?_
  have hv : ((x % 16) * 64 + y1 % 64) * 64 + y2 % 64 = x % 16 * 4096 + y1 % 64 * 64 + y2 % 64 := by omega
  rw [hv]
  split
  exact (E6 _ _ _ _).trans (goes _ 3 (by unfold Lib.decodeN; rw [if_neg c1, if_neg (by omega), if_pos (by omega), if_pos (by omega)]) (by omega))
  exact (E6 _ _ _ _).trans (fails (by unfold Lib.decodeN; rw [if_neg c1, if_neg (by omega), if_pos (by omega), if_neg (by omega)]))
 exact Fq (by simp; omega) ((E6 _ _ _ _).trans (fails (by unfold Lib.decodeN; rw [if_neg c1, if_neg (by omega), if_neg (by omega), if_neg (by omega)])))
 refine F2 (by rw [hb1]; simp; omega) ?_
 apply A6 (decide ((x : Int) ≥ 240) && decide ((x : Int) < 248))
 intro b hb
 refine A1 (v := sb (decide ((x : Int) ≥ 240))) (fun k => rfl) (Ag (decide ((x : Int) ≥ 240)) (fun h => ?_) fun h => ?_)
 exact An h (An h (A1 (v := sb (decide ((x : Int) < 248))) (fun k => rfl) (Cb h (G9 hb h) rfl)))
 exact Ao h (Ao h (Ca h (G8 hb h) rfl))
 intro b2 hb2
 by_cases d2 : 240 ≤ x ∧ x < 248
 refine Fq (by rw [hb2]; simp; omega) (A1 (v := .sc (.int .i64 ((x % 8 : Nat) : Int))) (fun k => by show k (.sc (.int .i64 (bits .and .i64 (x : Int) 7))) = _; rw [Ajz ⟨x, hxl⟩]) (Do (A1 (v := .sc (.int .i64 ((s.size : Int) - 1))) (fun k => Re _ _ _ (by omega) (by omega)) (A1 (v := .sc (.int .i64 ((s.size : Int) - 1 - 3))) (fun k => Re _ _ _ (by omega) (by omega)) (A1 (v := .sc (.bool (decide ((i : Int) > (s.size : Int) - 1 - 3)))) (fun k => rfl) ?_)))))
 by_cases c3 : i + 3 < s.size
 ·refine F2 (by simp; omega) ?_
  have r1 := Jw (q + 4 + 1) (fun x H => Be Ap E0.tp 129 H x) [] s (q + 4) i 3 (x % 8) 1 65536 (by omega) (by omega) (by omega) (by omega) hs
  rw [hy1] at r1
  refine r1.trans ?_
  by_cases k1 : y1 / 64 = 2
  rotate_left
  rw [if_neg k1]
  exact (E6 _ _ _ _).trans (fails (by unfold Lib.decodeN; rw [if_neg c1, if_neg (by omega), if_neg (by omega), if_neg (by omega)]))
  rw [if_pos k1]
  have r2 := Jw (q + 4 + 1) (fun x H => Be Ap E0.tp 129 H x) [] s (q + 3) i 3 ((x % 8) * 64 + y1 % 64) 2 65536 (by omega) (by omega) (by omega) (by omega) hs
  rw [hy2] at r2
  refine r2.trans ?_
  by_cases k2 : y2 / 64 = 2
  rotate_left
  rw [if_neg k2]
  exact (E6 _ _ _ _).trans (fails (by unfold Lib.decodeN; rw [if_neg c1, if_neg (by omega), if_neg (by omega), if_neg (by omega)]))
  rw [if_pos k2]
  have r3 := Jw (q + 4 + 1) (fun x H => Be Ap E0.tp 129 H x) [] s (q + 2) i 3 (((x % 8) * 64 + y1 % 64) * 64 + y2 % 64) 3 65536 (by omega) (by omega) (by omega) (by omega) hs
  rw [hy3] at r3
  refine r3.trans ?_
  by_cases k3 : y3 / 64 = 2
  rotate_left
  rw [if_neg k3]
  exact (E6 _ _ _ _).trans (fails (by unfold Lib.decodeN; rw [if_neg c1, if_neg (by omega), if_neg (by omega), if_neg (by omega)]))
  rw [if_pos k3]
  refine (Tl (q + 4 + 1) (fun x H => Be Ap E0.tp 129 H x) [] s (q + 4) rfl (q + 1) i 3 ((((x % 8) * 64 + y1 % 64) * 64 + y2 % 64) * 64 + y3 % 64) 65536 (by omega) (by omega) (by omega)).trans ?_
  have hv : (((x % 8) * 64 + y1 % 64) * 64 + y2 % 64) * 64 + y3 % 64 = x % 8 * 262144 + y1 % 64 * 4096 + y2 % 64 * 64 + y3 % 64 := by omega
  rw [hv]
  split
  exact (E6 _ _ _ _).trans (goes _ 4 (by unfold Lib.decodeN; rw [if_neg c1, if_neg (by omega), if_neg (by omega), if_pos (by omega), if_pos (by omega)]) (by omega))
  exact (E6 _ _ _ _).trans (fails (by unfold Lib.decodeN; rw [if_neg c1, if_neg (by omega), if_neg (by omega), if_pos (by omega), if_neg (by omega)]))
 exact Fq (by simp; omega) ((E6 _ _ _ _).trans (fails (by unfold Lib.decodeN; rw [if_neg c1, if_neg (by omega), if_neg (by omega), if_neg (by omega)])))
 exact F2 (by rw [hb2]; simp; omega) ((E6 _ _ _ _).trans (fails (by unfold Lib.decodeN; rw [if_neg c1, if_neg (by omega), if_neg (by omega), if_neg (by omega)])))
theorem Up (N ty : Nat) (a b c : Value) : Br Ap E0.tp N ty (.tup [.sc a, .sc b, .sc c]) = (.tup [.sc a, .sc b, .sc c], []) := rfl
theorem AcN (s : ByteArray) : Vw [⟨Bg s, true, false⟩] (.sl 0 0 s.size 1) (A3 s) := fun X => by
 have e2 : Aw ([⟨Bg s, true, false⟩] ++ X) 0 0 (s.size * 1) = some (Bg s) := by
  have hl := Ep s
  show (if (0 + s.size * 1 ≤ (Bg s).length) then some (((Bg s).drop 0).take (s.size * 1)) else none) = _
  rw [if_pos (by omega), za4, zbR, ← hl, zaz]
 rw [Pv, e2, zab]
 have e3 : (Bg s).mapM (Dn ([⟨Bg s, true, false⟩] ++ X) 7) = some (Bg s) := by
  rw [J5]
  exact AaM _
 rw [e3]
 rfl
theorem Kh {vs : List AV} {i : Nat} {x : AV} {K : AV → Option AV} {r : Option AV} (hx : vs[i]? = some x) (h : K x = r) : Pg (.tup vs) i (fun t => K t) = r := by
 show (vs[i]?).bind _ = r
 rw [hx]
 exact h
theorem R8 (n : Nat) (hn : 1048576 < n) (k : AV → Ab → Option AV) (s : ByteArray) (hs : s.size ≤ 60) : ∀ (b m pos c : Nat), s.size ≤ pos + b → pos ≤ s.size → c ≤ pos → b < m →
  ∃ r : Int, Nd (PR (n + 2) AV) (n + 2) k m (.sl 0 0 s.size 1) (si c) (si pos) [⟨Bg s, true, false⟩] = k (si r) [⟨Bg s, true, false⟩] ∧ (M7 b (s.data.toList.drop pos) = true → 0 ≤ r) ∧ (M7 b (s.data.toList.drop pos) = false → r = -1)
 | b, m + 1, pos, c, hb, hp, hc, hm => by
  rw [Nd]
  simp only [B0, Bf, Ay, Lo, Fn, B3, Pr.gT, Pr.gF, Pr.hT, Pr.hF, Pr.kT, Pr.kF, Ci]
  have hlen : ∀ k : AV → Option AV, Ph (.sl 0 0 s.size 1) k = k (si s.size) := fun _ => rfl
  rw [hlen, Ed, Ds]
  by_cases hlt : pos < s.size
  rw [if_pos (by simpa using hlt)]
  obtain ⟨b, rfl⟩ : ∃ b', b = b' + 1 := ⟨b - 1, by omega⟩
  have hne : s.data.toList.drop pos ≠ [] := by
   intro h
   have := congrArg List.length h
   simp at this
   omega
  have hw := Lib.decodeL_width (s.data.toList.drop pos)
  have hle := Lib.decodeL_le (s.data.toList.drop pos) hne
  have hll : (s.data.toList.drop pos).length = s.size - pos := by simp
  rw [hll] at hle
  rw [M7, if_neg hne]
  generalize hd : Lib.decodeL (s.data.toList.drop pos) = d at hw hle ⊢
  have ht := Ahd n hn s pos (by omega) hlt
  rw [hd] at ht
  rw [Gk (vs := [A3 s, .sc (.int .i64 pos)]) rfl (Bk (AcN s) (Bk (C4 _ _) Dw)) ht]
  by_cases hf : d.1 = 65533 ∧ d.2 = 1
  rw [Qp, if_pos hf, Up, zam, if_pos hf]
  refine ⟨-1, ?_, (fun h => by cases h), (fun _ => rfl)⟩
  refine Kh rfl (Kh rfl (Kh rfl (H0 (Df rfl (Df rfl (Qu rfl (Fq rfl ?_)))))))
  rfl
  rw [Qp, if_neg hf, Up, zam, if_neg hf]
  by_cases hz : d.1 = 0
  rw [if_pos hz]
  refine ⟨-1, ?_, (fun h => by cases h), (fun _ => rfl)⟩
  refine Kh rfl (Kh rfl (Kh rfl (H0 (C5 rfl (C5 rfl (A1 (v := .sc (.bool ((d.1 : Int) == 0))) (fun k => rfl) (Rm rfl (Fq (by simp [hz]) ?_))))))))
  rfl
  rw [if_neg hz, zba]
  obtain ⟨r, h1, h2, h3⟩ := R8 n hn k s hs b m (pos + d.2) (c + 1) (by omega) (by omega) (by omega) (by omega)
  refine ⟨r, ?_, h2, h3⟩
  refine Kh rfl (Kh rfl (Kh rfl (H0 (C5 rfl (C5 rfl (A1 (v := .sc (.bool ((d.1 : Int) == 0))) (fun k => rfl) (Rm rfl (F2 (by simp; omega) ?_))))))))
  rw [Ew _ _ (by omega)]
  exact h1
  rw [if_neg (by simpa using hlt)]
  have hnil : s.data.toList.drop pos = [] := by
   apply zaX
   simp
   omega
  refine ⟨c, rfl, fun _ => by omega, fun h => ?_⟩
  rw [hnil] at h
  cases b <;> simp [M7] at h
theorem AhR (n : Nat) (hn : 1048576 < n) (ty : Nat) (s : ByteArray) : ∃ r : Int, Ct E0 (n + 3) ty 111 [.sc (.string s)] = some (.sc (.int .i64 r)) ∧ (Gq s = true → 0 ≤ r) ∧ (Gq s = false → r = -1) := by
 rw [A2, AfR, f111]
 simp only [Di, Bf, Ay, Aan]
 unfold Gq
 by_cases h : s.size ≤ 60
 obtain ⟨r, h1, h2, h3⟩ := R8 n hn (fun x H => Be Ap E0.tp ty H x) s h s.size (n + 2) 0 0 (by omega) (by omega) (by omega) (by omega)
 refine ⟨r, ?_, ?_, ?_⟩
 refine Af5 (A1 (v := .sc (.bool (decide ((s.size : Int) > 60)))) (fun k => rfl) (F2 (by simp; omega) ?_))
 simp only [U1, asS, zab]
 rw [if_pos (by omega)]
 exact h1
 intro hv
 refine h2 ?_
 simpa [h] using hv
 intro hv
 refine h3 ?_
 simpa [h] using hv
 refine ⟨-1, ?_, (fun hv => by simp [h] at hv), (fun _ => rfl)⟩
 refine Af5 (A1 (v := .sc (.bool (decide ((s.size : Int) > 60)))) (fun k => rfl) (Fq (by simp; omega) ?_))
 rfl
theorem AcB (n : Nat) (hn : 1048576 < n) (ty : Nat) (s : ByteArray) : Ct E0 (n + 4) ty 82 [.sc (.string s)] = some (.sc (.bool (Gq s))) := by
 rw [A2, Ai8, f82]
 simp only [Bf]
 obtain ⟨r, h1, h2, h3⟩ := AhR n hn 3 s
 refine Dk rfl (Bk (C4 _ _) Dw) h1 (A1 (v := sb (decide (r ≥ 0))) (fun k => rfl) (Eg ?_))
 cases hv : Gq s
 rw [h3 hv]
 rfl
 simpa using h2 hv
theorem Afc {β : Type} {n : Nat} {H : Ab} {r : Option β} {ty f : Nat} {g : Nat → List AV → Option AV} {args vs : List AV} {v : Value} {K : KO β} (hg : E0.ext f = some g) (hv : args.mapM (Dn H 8) = some vs) (ht : g ty vs = some (.sc v)) (h : K (.sc v) H = r) : (PR n β).call ty (.fn f [] []) args H (fun x H => K x H) = r := by
 rw [AcL hg hv ht, Hy, zam]
 exact h
theorem Acp (ty : Nat) (s : ByteArray) (hs : M1 s) : Aaw ty [.sc (.string s)] = some (.sc (.bool (Gq s))) := by
 have hm : maxLen = 9223372036854775807 := by decide
 show (if s.size ≤ maxLen then _ else _) = _
 rw [hm, if_pos (show s.size ≤ 9223372036854775807 from hs)]
end
section
open Go
def D4 (s : ByteArray) : Bool := Gq s && !(s.toList == (⟨#[]⟩ : ByteArray).toList) && !(Pu s 43) && !(Pu s 35) && decide (((Ez s).length : Int) ≤ 6)
section
variable {β : Type} {n : Nat} {H : Ab} {r : Option β}
theorem AaL {ty f len : Nat} {args vs cells : List AV} {K : KO β} (hh : Gg f = false) (hv : args.mapM (Dn H 8) = some vs) (ht : Ct E0 n ty f vs = some (.ro len cells)) (h : ∀ N X sz, K (.sl N 0 len sz) (H ++ X) = r) : (PR n β).call ty (.fn f [] []) args H (fun x H => K x H) = r := by
 rw [Gk hh hv ht]
 exact h _ _ _
theorem Af3 {b b' : Bool} (h : b = b') : some (AV.sc (.bool b)) = some (AV.sc (.bool b')) := by rw [h]
theorem Kv {α : Type} {w : Nat} {enc : α → List AV} {l pre t : List α} {x : α} {K : AV → Option β} (hw : ∀ x, (enc x).length = w) (h0 : 0 < w) (hl : l = pre ++ x :: t) (h : K (.rp (enc x ++ (t.map enc).flatten)) = r) : Es w (Al enc l) (.sc (.int .i64 (pre.length : Int))) (fun t => K t) = r := by
 subst hl
 exact (K9 (β := β) hw h0 pre x t (fun t => K t)).trans h
theorem Af4 {id off m w : Nat} {K : AV → Option β} (h : K (.sc (.int .i64 m)) = r) : Ph (.sl id off m w) (fun t => K t) = r := h
end
section has
variable (n : Nat) (k : AV → Ab → Option AV) (H : Ab)
theorem W8 (s : ByteArray) (b : UInt8) (hs : s.size ≤ 1048576) : ∀ (r pre : List UInt8) (m : Nat), s.data.toList = pre ++ r → r.length < m →
  L5 (PR n AV) n k m (ss s) (su b.toNat) (si pre.length) H = k (sb (r.any fun c => c == b)) H
 | [], pre, m + 1, hl, hm => by
  have h1 : s.size = pre.length := by
   have := congrArg List.length hl
   simpa using this
  rw [L5]
  simp only [Di, Bf, Ay]
  rw [S2, Ed, h1, Ds, if_neg (by simp)]
  rfl
 | c :: r, pre, m + 1, hl, hm => by
  have h1 : s.size = pre.length + r.length + 1 := by
   have := congrArg List.length hl
   simpa [zaQ] using this
  rw [L5]
  simp only [Di, Bf, Ay, Et]
  rw [S2, Ed, Ds, if_pos (by simp; omega), Ah6 s pre.length c _ (by rw [hl]; simp)]
  have he : ∀ K : AV → Option AV, E2 .eql (su (c.toNat : Int)) (su (b.toNat : Int)) K = K (sb (c == b)) := by
   intro K
   show K (.sc (.bool ((c.toNat : Int) == (b.toNat : Int)))) = _
   congr 3
   rw [zbj, beq_iff_eq, beq_iff_eq, Int.ofNat_inj, UInt8.toNat_inj]
  rw [he, Ds, zbh]
  cases hcb : (c == b)
  rw [if_neg (by simp), Ew _ _ (by omega)]
  have ih := W8 s b hs r (pre ++ [c]) m (by rw [hl]; simp) (by simpa using hm)
  rw [zag, zap] at ih
  rw [ih]
  rfl
  rw [if_pos rfl]
  rfl
end has
theorem Aku (n : Nat) (hn : 1048576 < n) (ty : Nat) (s : ByteArray) (b : UInt8) (hs : s.size ≤ 1048576) : Ct E0 (n + 1) ty 114 [.sc (.string s), .sc (.int .u8 b.toNat)] = some (.sc (.bool (Pu s b))) := by
 rw [A2, AfU, f114]
 have key := W8 n (fun x H => Be Ap E0.tp ty H x) [] s b hs s.data.toList [] n rfl (by simp; omega)
 simp only [zau, zaY] at key
 rw [key]
 rfl
theorem Akt (n : Nat) (hn : 1048576 < n) (ty : Nat) (s : ByteArray) (hs : s.size ≤ 1048576) : Ct E0 (n + 1) ty 114 [.sc (.string s), .sc (.int .u8 43)] = some (.sc (.bool (Pu s 43))) := Aku n hn ty s 43 hs
theorem Aks (n : Nat) (hn : 1048576 < n) (ty : Nat) (s : ByteArray) (hs : s.size ≤ 1048576) : Ct E0 (n + 1) ty 114 [.sc (.string s), .sc (.int .u8 35)] = some (.sc (.bool (Pu s 35))) := Aku n hn ty s 35 hs
theorem Ahk : ∃ i j, Ap 38 = some i ∧ Ap i.elem = some j ∧ j.size = 1 ∧ j.cty = [i.elem] := ⟨_, _, rfl, rfl, rfl, rfl⟩
def Ahj (l : List UInt8) : AV := .sc (.string (ofL l))
theorem Xm (s : ByteArray) (P cur r : List UInt8) (h : s.data.toList = P ++ (cur ++ r)) : s.extract P.length (P.length + cur.length) = ofL cur := by
 have : (s.extract P.length (P.length + cur.length)).data.toList = cur := by
  rw [ByteArray.data_extract, Array.toList_extract, List.extract, h]
  rw [zbl (zal _), zbM, zae, zbs, zb7 (zal _), zaz]
 rw [← Xl (s.extract _ _), this]
theorem Us {H : Ab} {x : AV} {cnt : Nat} {cells : List AV} {K : AV → Ab → Option AV} {r : Option AV} (s : ByteArray) (P cur rest : List UInt8) (hl : s.data.toList = P ++ (cur ++ rest)) (hs : s.size ≤ 1048576) (hx : OwnS 7 H 1 [9] x cnt cells) (hc : cnt ≤ 1048577)
  (h : ∀ x' H', OwnS 7 H' 1 [9] x' (cnt + 1) (cells ++ [Ahj cur]) → K x' H' = r) :
  (Nk (ss s) (some (si P.length)) (some (si ((P.length + cur.length : Nat) : Int))) fun t27 => (Ft [sE] [(0, 1, t27)]).bind fun ct28 => Fj 1 1 ct28 true H fun t28 H => Ic 1 16 x t28 H K) = r := by
 have hsz : P.length + cur.length ≤ s.size := by
  have := congrArg List.length hl
  simp at this
  omega
 simp only [Nk, asS, Jm, Yi, zab]
 rw [if_pos (by omega)]
 simp only [zbo]
 rw [Xm s P cur rest hl]
 have hf : Ft [sE] [(0, 1, ss (ofL cur))] = some [ss (ofL cur)] := rfl
 rw [hf, zab]
 have key := Aar (H := H) (X := []) (bytes := 16) (er := [ss (ofL cur)]) (ec := [Ahj cur]) (eids := []) (K := K) (r := r) hx rfl rfl rfl zb9 (fun i hi => by cases hi) (by omega) h
 rw [zam] at key
 exact key
theorem S4 (n : Nat) (s : ByteArray) (hs : s.size ≤ 1048576) : ∀ (r P cur : List UInt8) (m : Nat) (x : AV) (H : Ab) (cnt : Nat) (cells : List AV), s.data.toList = P ++ (cur ++ r) → r.length + 1 < m → OwnS 7 H 1 [9] x cnt cells → cnt ≤ P.length →
  Jr (PR n AV) n (fun x H => Be Ap E0.tp 38 H x) m (ss s) x (si P.length) (si ((P.length + cur.length : Nat) : Int)) H = some (.ro (cnt + (lvL cur r).length) (cells ++ (lvL cur r).map Ahj))
 | [], P, cur, m + 2, x, H, cnt, cells, hl, hm, hx, hc => by
  have h1 : s.size = P.length + cur.length := by
   have := congrArg List.length hl
   simpa using this
  rw [Jr]
  simp only [Di, Bf, Ay, B3, Pr.gT, Pr.gF, Pr.hT, Pr.hF, Pr.kT, Pr.kF, Ci, Cw, Bw, Bx, C6, Et]
  rw [S2, S3, Ds, if_pos (by simp; omega), S2, Ada]
  have he : (((P.length + cur.length : Nat) : Int) == (s.size : Int)) = true := by simp; omega
  refine Df he (Df he (Df he (Df he (Qu he (Fq rfl (Us s P cur [] hl hs hx (by omega) fun x' H' hx' => ?_))))))
  rw [Ew _ _ (by omega), Ew _ _ (by omega)]
  rw [Jr]
  simp only [Di, Bf, Ay]
  rw [S2, S3, Ds, if_neg (by simp; omega)]
  obtain ⟨i, j, e1, e2, e3, e4⟩ := Ahk
  obtain ⟨ids, ho, hno⟩ := Rx (d := 7) (tyS := 38) (w := 1) (cty := [9]) ⟨_, _, rfl, rfl, rfl, rfl⟩ hx'
  rw [Be, ho, zab, if_pos hno]
  rfl
 | c :: r, P, cur, m + 1, x, H, cnt, cells, hl, hm, hx, hc => by
  have h1 : s.size = P.length + cur.length + r.length + 1 := by
   have := congrArg List.length hl
   simp at this
   omega
  have hidx : s.data.toList[P.length + cur.length]? = some c := by
   rw [hl, ← zak, ← zag, zaf (zal _), zaN]
   rfl
  rw [Jr]
  simp only [Di, Bf, Ay, B3, Pr.gT, Pr.gF, Pr.hT, Pr.hF, Pr.kT, Pr.kF, Ci, Cw, Bw, Bx, C6, Et]
  rw [S2, S3, Ds, if_pos (by simp; omega), S2, Ada]
  have he : (((P.length + cur.length : Nat) : Int) == (s.size : Int)) = false := by simp; omega
  refine C5 he (C5 he (C5 he ?_))
  rw [Ah6 s (P.length + cur.length) c _ hidx]
  refine C5 he (A1 (v := sb (c == 47)) (fun K => ?_) ?_)
  show K (.sc (.bool ((c.toNat : Int) == (47 : Int)))) = _
  congr 3
  rw [zbj, beq_iff_eq, beq_iff_eq, show (47 : Int) = (((47 : UInt8).toNat : Nat) : Int) from rfl, Int.ofNat_inj, UInt8.toNat_inj]
  refine Rm he ?_
  rw [lvL]
  by_cases h47 : c = 47
  refine Fq (by simp [h47]) (Us s P cur (c :: r) hl hs hx (by omega) fun x' H' hx' => ?_)
  rw [Ew _ _ (by omega), Ew _ _ (by omega), if_pos h47]
  have ih := S4 n s hs r (P ++ cur ++ [c]) [] m x' H' (cnt + 1) (cells ++ [Ahj cur]) (by rw [hl]; simp) (by simpa using hm) hx' (by simp; omega)
  simp only [zag, zau, zap, zbf] at ih
  rw [ih]
  simp [zaQ, zbO]
  refine F2 (by simpa using h47) ?_
  rw [Ew _ _ (by omega), if_neg h47]
  have ih := S4 n s hs r P (cur ++ [c]) m x H cnt cells (by rw [hl]; simp) (by simpa using hm) hx hc
  rw [zag, zap, ← zaQ] at ih
  exact ih
theorem Yb (n : Nat) (hn : 1048577 < n) (s : ByteArray) (hs : s.size ≤ 1048576) : Ct E0 (n + 1) 38 115 [.sc (.string s)] = some (.ro (Ez s).length ((Ez s).map fun x => .sc (.string x))) := by
 rw [A2, AfV, f115]
 have key := S4 n s hs s.data.toList [] [] n .nl [] 0 [] rfl (by simp; omega) (OwnS.nil _ _ _ _) (by simp)
 simp only [zau, zaY, zaw, zae] at key
 rw [key, Ez, zb4, List.map_map]
 rfl
theorem W9 (n : Nat) (s : ByteArray) (hs : s.size ≤ 1048576) : Ct E0 (n + 1) 38 95 [.sc (.string s)] = some (.ro (Ez s).length ((Ez s).map fun x => .sc (.string x))) := by
 rw [A2, AiI, f95]
 have hg : P3 38 [ss s, .sc (.string ⟨#[47]⟩)] = some (.ro (Ez s).length ((Ez s).map fun x => ss x)) := by
  unfold P3
  exact if_pos ⟨rfl, rfl, by omega⟩
 rw [AcL (g := P3) rfl (Bk (C4 _ _) (Bk (C4 _ _) Dw)) hg]
 refine AgW [] _ _ ?_
 refine ⟨_, _, rfl, rfl, by simp, ?_⟩
 have := Lg (f := He Ap E0.tp 7) (cty := [9]) (enc := fun x : ByteArray => [ss x]) (Ez s) (fun x _ => ⟨trivial, trivial⟩)
 rw [Ov] at this
 exact this
theorem Abu (ty : Nat) (s : ByteArray) (hs : s.size ≤ 1048576) : Wy ty [.sc (.string s), .sc (.string ⟨#[43, 35]⟩)] = some (.sc (.bool (vPH s))) := by
 unfold Wy
 exact if_pos ⟨rfl, by omega⟩
end
section
open Go
def Fx (a b : Ch) : Bool := a.fTopic.toList == b.fTopic.toList && a.fBody.toList == b.fBody.toList && a.fQos == b.fQos && a.fRetain == b.fRetain
theorem Vu (n : Nat) (ty : Nat) (a : Ch) (b : Ch) : Ct E0 (n + 2) ty 26 [.agg (Ak a), .agg (Ak b)] = some (.sc (.bool (Fx a b))) := by
 rw [A2, Aid, f26]
 try simp only [Dh, C1, B8, Bn, Bs, Bf, Dy, Dx, Fn, Ay, B3, Pr.gT, Pr.gF, Pr.hT, Pr.hF, Pr.kT, Pr.kF, Ci, B0, Di, B5, Et, C2, Cw, Bx, Bw, D8, C6, D2, D1]
 refine Kg (Fu _) fun iB1 eB1 B1 => Kg (Fu _) fun iB2 eB2 B2 => ?_
 replace B1 := Jd B1 [⟨Ak b, true, true⟩]
 refine Ai (Bj (c := ss a.fTopic) B1 (Bb rfl) rfl (Ai (Bj (c := ss b.fTopic) B2 (Bb rfl) rfl (A1 (v := sb (a.fTopic.toList == b.fTopic.toList)) (fun k => rfl) ?_))))
 apply A6 ((a.fTopic.toList == b.fTopic.toList) && (a.fBody.toList == b.fBody.toList))
 intro b3 q3
 refine Ag ((a.fTopic.toList == b.fTopic.toList)) (fun h3 => ?_) fun h3 => ?_
 exact An h3 (Ai (An h3 (Bj (c := A3 a.fBody) B1 (Bb rfl) rfl (An h3 (Ai (An h3 (Bj (c := A3 b.fBody) B2 (Bb rfl) rfl (An h3 (Dk rfl (Bk (Ei _ _ _) (Bk (Ei _ _ _) Dw)) (Km (n + 0) _ a.fBody b.fBody) (Cb h3 (G9 q3 h3) rfl))))))))))
 exact Ao h3 (Ao h3 (Ao h3 (Ao h3 (Ao h3 (Ca h3 (G8 q3 h3) rfl)))))
 intro b3 q3
 apply A6 (b3 && (a.fQos == b.fQos))
 intro b4 q4
 refine Ag (b3) (fun h4 => ?_) fun h4 => ?_
 exact An h4 (Ai (An h4 (Bj (c := si a.fQos) B1 (Bb rfl) rfl (An h4 (Ai (An h4 (Bj (c := si b.fQos) B2 (Bb rfl) rfl (An h4 (A1 (v := sb (a.fQos == b.fQos)) (fun k => rfl) (Cb h4 (G9 q4 h4) rfl))))))))))
 exact Ao h4 (Ao h4 (Ao h4 (Ao h4 (Ao h4 (Ca h4 (G8 q4 h4) rfl)))))
 intro b4 q4
 apply A6 (b4 && (a.fRetain == b.fRetain))
 intro b5 q5
 refine Ag (b4) (fun h5 => ?_) fun h5 => ?_
 exact An h5 (Ai (An h5 (Bj (c := sb a.fRetain) B1 (Bb rfl) rfl (An h5 (Ai (An h5 (Bj (c := sb b.fRetain) B2 (Bb rfl) rfl (An h5 (G7 (v := sb (a.fRetain == b.fRetain)) (fun k => rfl) (Cb h5 (G9 q5 h5) rfl))))))))))
 exact Ao h5 (Ao h5 (Ao h5 (Ao h5 (Ao h5 (Ca h5 (G8 q5 h5) rfl)))))
 intro b5 q5
 exact Eg (by first | (simp_all [Fl, Fx]; done) | (rw [zbj]; simp [Fl, Fx] at *; omega))
def Ns (a b : List Ch) : Bool := if a.length = b.length then Gz Fx a b else false
def Lm (l q : List Ch) : Bool := if q.length ≤ l.length then Gz Fx (l.drop (l.length - q.length)) q else false
theorem Y0 (n : Nat) (hn : 1048576 < n) (ty : Nat) (l q : List Ch) (hl : l.length ≤ 1048576) (hq : q.length ≤ 1048576) : Ct E0 (n + 4) ty 127 [Al Ak l, Al Ak q, .fn 26 [] []] = some (.sc (.bool (Ns l q))) := by
 rw [A2, Agb, f127]
 simp only [B0, Bf, Ay]
 rw [Hi, Hi, Rw, Ds, Ns]
 by_cases h : l.length = q.length
 rw [if_neg (by simpa using h), if_pos h]
 have key := Q4 (n := n + 3) (tb := 4) (g := 26) Ak Fx (fun x H => Be Ap E0.tp ty H x) (fun _ _ _ => rfl) Fa rfl Eb (by decide) Fu rfl (fun m b f a c i H => Ot (PR (n + 3) AV) (n + 3) (fun x H => Be Ap E0.tp ty H x) m b f a c i H) (fun m b f a c i H => rfl) l q (fun x y _ _ => Vu (n + 1) _ x y) h hl l q [] [] (n + 3) [] rfl rfl rfl (by omega)
 simp only [zau, zaY] at key
 rw [Hi, key]
 rfl
 rw [if_pos (by simpa using h), if_neg h]
 rfl
theorem T8 (n : Nat) (hn : 1048576 < n) (ty : Nat) (l q : List Ch) (hl : l.length ≤ 1048576) (hq : q.length ≤ 1048576) : Ct E0 (n + 5) ty 110 [Al Ak l, Al Ak q] = some (.sc (.bool (Ns l q))) := by
 rw [A2, AfQ, f110]
 refine Dk rfl (Bk (Ei _ _ _) (Bk (Ei _ _ _) (Bk (fun _ => rfl) Dw))) (Y0 n hn _ l q hl hq) ?_
 rfl
theorem Acl (n : Nat) (hn : 1048576 < n) (ty : Nat) (l q : List Ch) (hl : l.length ≤ 1048576) (hq : q.length ≤ 1048576) : Ct E0 (n + 6) ty 79 [Al Ak l, Al Ak q] = some (.sc (.bool (Lm l q))) := by
 rw [A2, Ai7, f79]
 simp only [B0, Bf, Ay, B3, Pr.gT, Pr.gF, Pr.hT, Pr.hF, Pr.kT, Pr.kF, C2, Ci]
 rw [Hi, Hi, S3, Lm]
 by_cases h : q.length ≤ l.length
 have e : decide ((q.length : Int) ≤ (l.length : Int)) = true := by simpa using h
 have hi : ((l.length : Int) - (q.length : Int)) = ((l.length - q.length : Nat) : Int) := by omega
 rw [if_pos h]
 exact An e (An e (An e (Do (An e (An e (Do (An e (A1 (v := .sc (.int .i64 ((l.length - q.length : Nat) : Int))) (fun k => by rw [Re _ _ _ (by omega) (by omega), hi]) (An e ((Tp Eb _ _ (by omega) _).trans (An e (An e (Dk rfl (Bk (Ei _ _ _) (Bk (Ei _ _ _) Dw)) (T8 n hn _ (l.drop (l.length - q.length)) q (by rw [zaC]; omega) hq) (Qu e (Eg (by rw [Ns, if_pos (by rw [zaC]; omega)]))))))))))))))))
 have e : decide ((q.length : Int) ≤ (l.length : Int)) = false := by simpa using h
 rw [if_neg h]
 exact Ao e (Ao e (Ao e (Ao e (Ao e (Ao e (Ao e (Ao e (Ao e (Rm e (Eg rfl))))))))))
theorem AiZ {s : ByteArray} (h : s.size ≤ 1048576) : M1 s := za1 h (by decide)
theorem Aaf (n : Nat) (hn : 1048576 < n) (ty : Nat) (s : ByteArray) (hs : s.size ≤ 1048576) : Ct E0 (n + 5) ty 92 [.sc (.string s)] = some (.sc (.bool (D4 s))) := by
 rw [A2, AiH, f92]
 try simp only [Dh, C1, B8, Bn, Bs, Bf, Dy, Dx, Fn, Ay, B3, Pr.gT, Pr.gF, Pr.hT, Pr.hF, Pr.kT, Pr.kF, Ci, B0, Di, B5, Et, C2, Cw, Bx, Bw, D8, C6, D2, D1]
 refine Dk rfl (Bk (C4 _ _) Dw) (AcB (n + 0) (by omega) _ s) ?_
 apply A6 ((Gq s) && (!(s.toList == (⟨#[]⟩ : ByteArray).toList)))
 intro b1 q1
 refine Ag ((Gq s)) (fun h1 => ?_) fun h1 => ?_
 exact An h1 (An h1 (A1 (v := sb (!(s.toList == (⟨#[]⟩ : ByteArray).toList))) (fun k => rfl) (Cb h1 (G9 q1 h1) rfl)))
 exact Ao h1 (Ao h1 (Ca h1 (G8 q1 h1) rfl))
 intro b1 q1
 apply A6 (b1 && (!(Pu s 43)))
 intro b2 q2
 refine Ag (b1) (fun h2 => ?_) fun h2 => ?_
 exact An h2 (An h2 (Dk rfl (Bk (C4 _ _) (Bk (C4 _ _) Dw)) (Akt (n + 3) (by omega) _ s hs) (An h2 (H0 (Cb h2 (G9 q2 h2) rfl)))))
 exact Ao h2 (Ao h2 (Ao h2 (Ca h2 (G8 q2 h2) rfl)))
 intro b2 q2
 apply A6 (b2 && (!(Pu s 35)))
 intro b3 q3
 refine Ag (b2) (fun h3 => ?_) fun h3 => ?_
 exact An h3 (An h3 (Dk rfl (Bk (C4 _ _) (Bk (C4 _ _) Dw)) (Aks (n + 3) (by omega) _ s hs) (An h3 (H0 (Cb h3 (G9 q3 h3) rfl)))))
 exact Ao h3 (Ao h3 (Ao h3 (Ca h3 (G8 q3 h3) rfl)))
 intro b3 q3
 apply A6 (b3 && (decide (((Ez s).length : Int) ≤ 6)))
 intro b4 q4
 refine Ag (b3) (fun h4 => ?_) fun h4 => ?_
 exact An h4 (An h4 (AaL rfl (Bk (C4 _ _) Dw) (Yb (n + 3) (by omega) s hs) fun N5 X5 z5 => An h4 (Af4 (An h4 (A1 (v := sb (decide (((Ez s).length : Int) ≤ 6))) (fun k => rfl) (Cb h4 (G9 q4 h4) rfl))))))
 exact Ao h4 (Ao h4 (Ao h4 (Ao h4 (Ca h4 (G8 q4 h4) rfl))))
 intro b4 q4
 exact Af3 (by subst_vars; unfold D4; first | rfl | (unfold vPH; cases Gq s <;> cases Pu s 43 <;> cases Pu s 35 <;> simp))
theorem Ka (n : Nat) (hn : 1048576 < n) (ty : Nat) (s : ByteArray) (hs : s.size ≤ 1048576) : Ct E0 (n + 5) ty 57 [.sc (.string s)] = some (.sc (.bool (D4 s))) := by
 rw [A2, Aiu, f57]
 try simp only [Dh, C1, B8, Bn, Bs, Bf, Dy, Dx, Fn, Ay, B3, Pr.gT, Pr.gF, Pr.hT, Pr.hF, Pr.kT, Pr.kF, Ci, B0, Di, B5, Et, C2, Cw, Bx, Bw, D8, C6, D2, D1]
 refine Afc rfl (Bk (C4 _ _) Dw) (Acp _ s (AiZ hs)) ?_
 apply A6 ((Gq s) && (!(s.toList == (⟨#[]⟩ : ByteArray).toList)))
 intro b1 q1
 refine Ag ((Gq s)) (fun h1 => ?_) fun h1 => ?_
 exact An h1 (An h1 (A1 (v := sb (!(s.toList == (⟨#[]⟩ : ByteArray).toList))) (fun k => rfl) (Cb h1 (G9 q1 h1) rfl)))
 exact Ao h1 (Ao h1 (Ca h1 (G8 q1 h1) rfl))
 intro b1 q1
 apply A6 (b1 && (!(vPH s)))
 intro b2 q2
 refine Ag (b1) (fun h2 => ?_) fun h2 => ?_
 exact An h2 (An h2 (Afc rfl (Bk (C4 _ _) (Bk (C4 _ _) Dw)) (Abu _ s hs) (An h2 (H0 (Cb h2 (G9 q2 h2) rfl)))))
 exact Ao h2 (Ao h2 (Ao h2 (Ca h2 (G8 q2 h2) rfl)))
 intro b2 q2
 apply A6 (b2 && (decide (((Ez s).length : Int) ≤ 6)))
 intro b3 q3
 refine Ag (b2) (fun h3 => ?_) fun h3 => ?_
 exact An h3 (An h3 (AaL rfl (Bk (C4 _ _) Dw) (W9 (n + 3) s hs) fun N4 X4 z4 => An h3 (Af4 (An h3 (A1 (v := sb (decide (((Ez s).length : Int) ≤ 6))) (fun k => rfl) (Cb h3 (G9 q3 h3) rfl))))))
 exact Ao h3 (Ao h3 (Ao h3 (Ao h3 (Ca h3 (G8 q3 h3) rfl))))
 intro b3 q3
 exact Af3 (by subst_vars; unfold D4; first | rfl | (unfold vPH; cases Gq s <;> cases Pu s 43 <;> cases Pu s 35 <;> simp))
def C9 (m : Ch) : Bool := D4 m.fTopic && decide ((m.fBody.size : Int) ≤ 40) && Fl m.fQos 0 2
theorem AiS (n : Nat) (ty : Nat) (x : Int) : Ct E0 (n + 2) ty 56 [.sc (.int .i64 x)] = some (.sc (.bool (Fl x 0 2))) := by
 rw [A2, AdS, f56]
 try simp only [Dh, C1, B8, Bn, Bs, Bf, Dy, Dx, Fn, Ay, B3, Pr.gT, Pr.gF, Pr.hT, Pr.hF, Pr.kT, Pr.kF, Ci, B0, Di, B5, Et, C2, Cw, Bx, Bw, D8, C6, D2, D1]
 exact Dk rfl (Bk (C4 _ _) (Bk (C4 _ _) (Bk (C4 _ _) Dw))) (Jb (n + 0) _ x 0 2) (Eg (by first | (simp_all [Fl, Fx, Lm, D4, C9]; done) | (rw [zbj]; simp [Fl, Fx, Lm, D4, C9] at *; omega)))
theorem Tr (n : Nat) (hn : 1048576 < n) (ty : Nat) (m : Ch) (hs : m.fTopic.size ≤ 1048576) : Ct E0 (n + 6) ty 51 [.agg (Ak m)] = some (.sc (.bool (C9 m))) := by
 rw [A2, Aiq, f51]
 try simp only [Dh, C1, B8, Bn, Bs, Bf, Dy, Dx, Fn, Ay, B3, Pr.gT, Pr.gF, Pr.hT, Pr.hF, Pr.kT, Pr.kF, Ci, B0, Di, B5, Et, C2, Cw, Bx, Bw, D8, C6, D2, D1]
 refine Kg (Fu _) fun iB1 eB1 B1 => Ai (Bj (c := ss m.fTopic) B1 (Bb rfl) rfl (Dk rfl (Bk (C4 _ _) Dw) (Aaf (n + 0) (by omega) _ m.fTopic (by assumption)) ?_))
 apply A6 ((D4 m.fTopic) && (decide ((m.fBody.size : Int) ≤ 40)))
 intro b2 q2
 refine Ag ((D4 m.fTopic)) (fun h2 => ?_) fun h2 => ?_
 exact An h2 (Ai (An h2 (Bj (c := A3 m.fBody) B1 (Bb rfl) rfl (An h2 (Do (An h2 (A1 (v := sb (decide ((m.fBody.size : Int) ≤ 40))) (fun k => rfl) (Cb h2 (G9 q2 h2) rfl))))))))
 exact Ao h2 (Ao h2 (Ao h2 (Ao h2 (Ca h2 (G8 q2 h2) rfl))))
 intro b2 q2
 apply A6 (b2 && (Fl m.fQos 0 2))
 intro b3 q3
 refine Ag (b2) (fun h3 => ?_) fun h3 => ?_
 exact An h3 (Ai (An h3 (Bj (c := si m.fQos) B1 (Bb rfl) rfl (An h3 (Dk rfl (Bk (C4 _ _) (Bk (C4 _ _) (Bk (C4 _ _) Dw))) (O5 (n + 4) _ m.fQos 0 2) (Cb h3 (G9 q3 h3) rfl))))))
 exact Ao h3 (Ao h3 (Ao h3 (Ca h3 (G8 q3 h3) rfl)))
 intro b3 q3
 exact Eg (by subst_vars; first | rfl | (simp only [C9]; done) | (simp only [C9]; ac_rfl))
theorem Xa (n : Nat) (hn : 1048576 < n) (ty : Nat) (m : Ch) (hs : m.fTopic.size ≤ 1048576) : Ct E0 (n + 6) ty 46 [.agg (Ak m)] = some (.sc (.bool (C9 m))) := by
 rw [A2, Ain, f46]
 try simp only [Dh, C1, B8, Bn, Bs, Bf, Dy, Dx, Fn, Ay, B3, Pr.gT, Pr.gF, Pr.hT, Pr.hF, Pr.kT, Pr.kF, Ci, B0, Di, B5, Et, C2, Cw, Bx, Bw, D8, C6, D2, D1]
 refine Kg (Fu _) fun iB1 eB1 B1 => Ai (Bj (c := ss m.fTopic) B1 (Bb rfl) rfl (Dk rfl (Bk (C4 _ _) Dw) (Ka (n + 0) (by omega) _ m.fTopic (by assumption)) ?_))
 apply A6 ((D4 m.fTopic) && (decide ((m.fBody.size : Int) ≤ 40)))
 intro b2 q2
 refine Ag ((D4 m.fTopic)) (fun h2 => ?_) fun h2 => ?_
 exact An h2 (Ai (An h2 (Bj (c := A3 m.fBody) B1 (Bb rfl) rfl (An h2 (Do (An h2 (A1 (v := sb (decide ((m.fBody.size : Int) ≤ 40))) (fun k => rfl) (Cb h2 (G9 q2 h2) rfl))))))))
 exact Ao h2 (Ao h2 (Ao h2 (Ao h2 (Ca h2 (G8 q2 h2) rfl))))
 intro b2 q2
 apply A6 (b2 && (Fl m.fQos 0 2))
 intro b3 q3
 refine Ag (b2) (fun h3 => ?_) fun h3 => ?_
 exact An h3 (Ai (An h3 (Bj (c := si m.fQos) B1 (Bb rfl) rfl (An h3 (Dk rfl (Bk (C4 _ _) Dw) (AiS (n + 3) _ m.fQos) (Cb h3 (G9 q3 h3) rfl))))))
 exact Ao h3 (Ao h3 (Ao h3 (Ca h3 (G8 q3 h3) rfl)))
 intro b3 q3
 exact Eg (by subst_vars; first | rfl | (simp only [C9]; done) | (simp only [C9]; ac_rfl))
def Eo (l : List Ch) : Bool := l.all C9 && decide ((l.length : Int) ≤ 6)
theorem Ym {α : Type} (p : α → Bool) (e : Bool) (go : List α → List α → Bool) (h0 : ∀ pre, go pre [] = e) (h1 : ∀ pre x r, go pre (x :: r) = (p x && go (pre ++ [x]) r)) : ∀ (r pre : List α), go pre r = (r.all p && e)
 | [], pre => by rw [h0]; simp
 | x :: r, pre => by rw [h1, Ym p e go h0 h1 r, zbk, Bool.and_assoc]
def Vs (l : List Ch) : List Ch → List Ch → Bool
 | pre, [] => decide ((l.length : Int) ≤ 6)
 | pre, x :: r => C9 x && Vs l (pre ++ [x]) r
theorem Tt (n : Nat) (hn : 1048576 < n) (ty : Nat) (l : List Ch) (hlen : l.length ≤ 1048576) (hsl : ∀ x ∈ l, x.fTopic.size ≤ 1048576) : ∀ (r pre : List Ch) (m : Nat) (H : Ab), l = pre ++ r → r.length < m → Sh (PR (n + 6) AV) (n + 6) (fun x H => Be Ap E0.tp ty H x) m (Al Ak l) (.sc (.int .i64 pre.length)) H = some (.sc (.bool (Vs l pre r)))
 | [], pre, m + 1, H, hl, hm => by
  have hlt : decide ((pre.length : Int) < (l.length : Int)) = false := by
   rw [hl]
   simp
  show (PR (n + 6) AV).len _ _ = _
  simp only [Dh, C1, B8, Bn, Bs, Bf, Dy, Dx, Fn, Ay, B3, Pr.gT, Pr.gF, Pr.hT, Pr.hF, Pr.kT, Pr.kF, Ci, B0, Di, B5, Et, C2, Cw, Bx, Bw, D8, C6, D2, D1]
  exact Do (A1 (v := .sc (.bool (decide ((pre.length : Int) < (l.length : Int))))) (fun k => rfl) (F2 hlt (Do (A1 (v := .sc (.bool (decide ((l.length : Int) ≤ 6)))) (fun k => rfl) (Eg (by first | (subst_vars; simp only [Vs]; simp_all; done) | (subst_vars; unfold Vs; simp_all)))))))
 | x :: r, pre, m + 1, H, hl, hm => by
  have hpl : pre.length < l.length := by rw [hl]; simp
  have hlt : decide ((pre.length : Int) < (l.length : Int)) = true := by simpa using hpl
  have hmem : x ∈ l := by rw [hl]; simp
  have hix : IntKind.i64.wrap ((pre.length : Int) + 1) = (((pre ++ [x]).length : Nat) : Int) := by
   rw [Gh _ (by omega) (by omega), zag, zap]
   rfl
  try have hs : x.fTopic.size ≤ 1048576 := hsl x (by assumption)
  show (PR (n + 6) AV).len _ _ = _
  simp only [Dh, C1, B8, Bn, Bs, Bf, Dy, Dx, Fn, Ay, B3, Pr.gT, Pr.gF, Pr.hT, Pr.hF, Pr.kT, Pr.kF, Ci, B0, Di, B5, Et, C2, Cw, Bx, Bw, D8, C6, D2, D1]
  refine Do (A1 (v := sb (decide ((pre.length : Int) < (l.length : Int)))) (fun k => rfl) (Fq hlt (Kv Eb (by decide) hl (Ki (ds := Ak x) (Bb rfl) rfl (Dk rfl (Bk (Gr _ (Fu _)) Dw) (Tr (n + 0) (by omega) _ x (by assumption)) (H0 (Ag ((C9 x)) (fun h1 => ?_) fun h1 => ?_)))))))
  ·refine F2 (nF h1) (A1 (v := si (IntKind.i64.wrap ((pre.length : Int) + 1))) (fun k => rfl) ?_)
   rw [hix]
   refine (Tt n hn ty l hlen hsl r (pre ++ [x]) m _  (by rw [hl]; simp) (by simpa using hm)).trans (congrArg (fun b => some (AV.sc (Value.bool b))) ?_)
   first | (subst_vars; simp only [Vs]; simp_all; done) | (subst_vars; unfold Vs; simp_all)
  ·exact Fq (nT h1) (Eg (by first | (subst_vars; simp only [Vs]; simp_all; done) | (subst_vars; unfold Vs; simp_all)))
def Vr : List Ch → List Ch → Bool
 | pre, [] => true
 | pre, x :: r => C9 x && Vr (pre ++ [x]) r
theorem Su (n : Nat) (hn : 1048576 < n) (ty : Nat) (l : List Ch) (hlen : l.length ≤ 1048576) (hsl : ∀ x ∈ l, x.fTopic.size ≤ 1048576) : ∀ (r pre : List Ch) (m : Nat) (H : Ab), l = pre ++ r → r.length < m → Sn (PR (n + 6) AV) (n + 6) (fun x H => Be Ap E0.tp ty H x) m (Al Ak l) (.sc (.int .i64 (l.length : Int))) (.sc (.int .i64 pre.length)) H = some (.sc (.bool (Vr pre r)))
 | [], pre, m + 1, H, hl, hm => by
  have hlt : decide ((pre.length : Int) < (l.length : Int)) = false := by
   rw [hl]
   simp
  show (PR (n + 6) AV).bin _ _ _ _ = _
  simp only [Dh, C1, B8, Bn, Bs, Bf, Dy, Dx, Fn, Ay, B3, Pr.gT, Pr.gF, Pr.hT, Pr.hF, Pr.kT, Pr.kF, Ci, B0, Di, B5, Et, C2, Cw, Bx, Bw, D8, C6, D2, D1]
  exact A1 (v := .sc (.bool (decide ((pre.length : Int) < (l.length : Int))))) (fun k => rfl) (F2 hlt (Eg (by first | (subst_vars; simp only [Vr]; simp_all; done) | (subst_vars; unfold Vr; simp_all))))
 | x :: r, pre, m + 1, H, hl, hm => by
  have hpl : pre.length < l.length := by rw [hl]; simp
  have hlt : decide ((pre.length : Int) < (l.length : Int)) = true := by simpa using hpl
  have hmem : x ∈ l := by rw [hl]; simp
  have hix : IntKind.i64.wrap ((pre.length : Int) + 1) = (((pre ++ [x]).length : Nat) : Int) := by
   rw [Gh _ (by omega) (by omega), zag, zap]
   rfl
  try have hs : x.fTopic.size ≤ 1048576 := hsl x (by assumption)
  show (PR (n + 6) AV).bin _ _ _ _ = _
  simp only [Dh, C1, B8, Bn, Bs, Bf, Dy, Dx, Fn, Ay, B3, Pr.gT, Pr.gF, Pr.hT, Pr.hF, Pr.kT, Pr.kF, Ci, B0, Di, B5, Et, C2, Cw, Bx, Bw, D8, C6, D2, D1]
  refine A1 (v := sb (decide ((pre.length : Int) < (l.length : Int)))) (fun k => rfl) (Fq hlt (Kv Eb (by decide) hl (Ki (ds := Ak x) (Bb rfl) rfl (Qc rfl (Eb _) (L7 (Fu _)) fun iB1 B1 => Iw (ds := Ak x) B1 (Bb rfl) rfl (Dk rfl (Bk (Gr _ (Fu _)) Dw) (Xa (n + 0) (by omega) _ x (by assumption)) (H0 (Ag ((C9 x)) (fun h2 => ?_) fun h2 => ?_)))))))
  ·refine F2 (nF h2) (A1 (v := si (IntKind.i64.wrap ((pre.length : Int) + 1))) (fun k => rfl) ?_)
   rw [hix]
   refine (Su n hn ty l hlen hsl r (pre ++ [x]) m _  (by rw [hl]; simp) (by simpa using hm)).trans (congrArg (fun b => some (AV.sc (Value.bool b))) ?_)
   first | (subst_vars; simp only [Vr]; simp_all; done) | (subst_vars; unfold Vr; simp_all)
  ·exact Fq (nT h2) (Eg (by first | (subst_vars; simp only [Vr]; simp_all; done) | (subst_vars; unfold Vr; simp_all)))
theorem Tu (n : Nat) (hn : 1048576 < n) (ty : Nat) (l : List Ch) (hlen : l.length ≤ 1048576) (hsl : ∀ x ∈ l, x.fTopic.size ≤ 1048576) : Ct E0 (n + 7) ty 53 [Al Ak l] = some (.sc (.bool (Eo l))) := by
 rw [A2, Ais, f53]
 have key := Tt n hn ty l hlen hsl l [] (n + 6) [] rfl (by omega)
 rw [Ym C9 (decide ((l.length : Int) ≤ 6)) (Vs l) (fun _ => rfl) (fun _ _ _ => rfl) l []] at key
 exact key
theorem Acn (n : Nat) (hn : 1048576 < n) (ty : Nat) (l : List Ch) (hlen : l.length ≤ 1048576) (hsl : ∀ x ∈ l, x.fTopic.size ≤ 1048576) : Ct E0 (n + 7) ty 91 [Al Ak l] = some (.sc (.bool (l.all C9))) := by
 rw [A2, AiG, f91]
 simp only [B0]
 refine Do ?_
 have key := Su n hn ty l hlen hsl l [] (n + 6) [] rfl (by omega)
 rw [Ym C9 true Vr (fun _ => rfl) (fun _ _ _ => rfl) l [], Bool.and_true] at key
 exact key
theorem Zt (n : Nat) (hn : 1048576 < n) (ty : Nat) (l : List Ch) (hlen : l.length ≤ 1048576) (hsl : ∀ x ∈ l, x.fTopic.size ≤ 1048576) : Ct E0 (n + 8) ty 49 [Al Ak l] = some (.sc (.bool (Eo l))) := by
 rw [A2, Aio, f49]
 try simp only [Dh, C1, B8, Bn, Bs, Bf, Dy, Dx, Fn, Ay, B3, Pr.gT, Pr.gF, Pr.hT, Pr.hF, Pr.kT, Pr.kF, Ci, B0, Di, B5, Et, C2, Cw, Bx, Bw, D8, C6, D2, D1]
 refine Do (A1 (v := sb (decide ((l.length : Int) ≤ 6))) (fun k => rfl) ?_)
 apply A6 ((decide ((l.length : Int) ≤ 6)) && (l.all C9))
 intro b1 q1
 refine Ag ((decide ((l.length : Int) ≤ 6))) (fun h1 => ?_) fun h1 => ?_
 exact An h1 (An h1 (Dk rfl (Bk (Ei _ _ _) Dw) (Acn (n + 0) (by omega) _ l (by assumption) (by assumption)) (Cb h1 (G9 q1 h1) rfl)))
 exact Ao h1 (Ao h1 (Ca h1 (G8 q1 h1) rfl))
 intro b1 q1
 exact Eg (by subst_vars; unfold Eo; rw [Bool.and_comm])
theorem U5 (l : List Ch) (b0 : F6 Bv l ≤ 1048576) : l.length ≤ 1048576 ∧ ∀ x ∈ l, x.fTopic.size ≤ 1048576 := by
 have h1 := K4 Bv l
 refine ⟨by omega, fun x hx => ?_⟩
 have h2 := Nu (wt := Bv) hx
 have h3 : Bv x = x.fTopic.size + (x.fBody.size + 0) := rfl
 omega
def V7 (x : Ae) : Bool := if x.fM.fQos == 1 then x.fSt == 1 else (x.fM.fQos == 2 && (x.fSt == 2 || x.fSt == 3))
theorem AiT (n : Nat) (ty : Nat) (x : Ae) : Ct E0 (n + 1) ty 52 [.agg (Aq x)] = some (.sc (.bool (V7 x))) := by
 rw [A2, Air, f52]
 try simp only [Dh, C1, B8, Bn, Bs, Bf, Dy, Dx, Fn, Ay, B3, Pr.gT, Pr.gF, Pr.hT, Pr.hF, Pr.kT, Pr.kF, Ci, B0, Di, B5, Et, C2, Cw, Bx, Bw, D8, C6, D2, D1]
 refine Kg (Ee _) fun iB1 eB1 B1 => Ai (Ai (Bj (c := si x.fM.fQos) B1 (Bb rfl) rfl (A1 (v := sb (x.fM.fQos == 1)) (fun k => rfl) (Ag ((x.fM.fQos == 1)) (fun h2 => ?_) fun h2 => ?_))))
 exact Fq h2 (Ai (Bj (c := .sc (.int .i64 x.fSt)) B1 (Bb rfl) rfl (A1 (v := .sc (.bool (x.fSt == 1))) (fun k => rfl) (Eg (by subst_vars; unfold V7; simp_all)))))
 refine F2 h2 (Ai (Ai (Bj (c := si x.fM.fQos) B1 (Bb rfl) rfl (A1 (v := sb (x.fM.fQos == 2)) (fun k => rfl) ?_))))
 apply A6 ((x.fM.fQos == 2) && ((x.fSt == 2) || (x.fSt == 3)))
 intro b3 q3
 refine Ag ((x.fM.fQos == 2)) (fun h3 => ?_) fun h3 => ?_
 refine An h3 (Ai (An h3 (Bj (c := si x.fSt) B1 (Bb rfl) rfl (An h3 (A1 (v := sb (x.fSt == 2)) (fun k => rfl) (An h3 ?_))))))
 apply A6 ((x.fSt == 2) || (x.fSt == 3))
 intro b4 q4
 refine Ag ((x.fSt == 2)) (fun h4 => ?_) fun h4 => ?_
 exact Df h4 (Df h4 (Df h4 (An h3 (Cb h4 (mOT q4 h4) rfl))))
 exact C5 h4 (Ai (C5 h4 (Bj (c := si x.fSt) B1 (Bb rfl) rfl (C5 h4 (A1 (v := sb (x.fSt == 3)) (fun k => rfl) (An h3 (Ca h4 (mOF q4 h4) rfl)))))))
 intro b4 q4
 exact Cb h3 (by subst q4; exact G9 q3 h3) rfl
 exact Ao h3 (Ao h3 (Ao h3 (Ao h3 (w_u (w_u (w_u (Ao h3 (Ca h3 (G8 q3 h3) rfl))))))))
 intro b3 q3
 exact Eg (by subst_vars; unfold V7; simp_all)
theorem Akw (n : Nat) (ty : Nat) (x : Int) : Ct E0 (n + 2) ty 44 [.sc (.int .i64 x)] = some (.sc (.bool (Fl x 1 65535))) := by
 rw [A2, Zj, f44]
 try simp only [Dh, C1, B8, Bn, Bs, Bf, Dy, Dx, Fn, Ay, B3, Pr.gT, Pr.gF, Pr.hT, Pr.hF, Pr.kT, Pr.kF, Ci, B0, Di, B5, Et, C2, Cw, Bx, Bw, D8, C6, D2, D1]
 exact Dk rfl (Bk (C4 _ _) (Bk (C4 _ _) (Bk (C4 _ _) Dw))) (Jb (n + 0) _ x 1 65535) (Eg (by first | (simp_all [Fl, Fx, Lm, D4, C9, Eo, V7]; done) | (rw [zbj]; simp [Fl, Fx, Lm, D4, C9, Eo, V7] at *; omega)))
theorem AgF (n : Nat) (ty : Nat) (x : Int) : Ct E0 (n + 2) ty 48 [.sc (.int .i64 x)] = some (.sc (.bool (Fl x 0 65535))) := by
 rw [A2, AdJ, f48]
 try simp only [Dh, C1, B8, Bn, Bs, Bf, Dy, Dx, Fn, Ay, B3, Pr.gT, Pr.gF, Pr.hT, Pr.hF, Pr.kT, Pr.kF, Ci, B0, Di, B5, Et, C2, Cw, Bx, Bw, D8, C6, D2, D1]
 exact Dk rfl (Bk (C4 _ _) (Bk (C4 _ _) (Bk (C4 _ _) Dw))) (Jb (n + 0) _ x 0 65535) (Eg (by first | (simp_all [Fl, Fx, Lm, D4, C9, Eo, V7]; done) | (rw [zbj]; simp [Fl, Fx, Lm, D4, C9, Eo, V7] at *; omega)))
def H9 (pre : List Ae) (x : Ae) : Bool := pre.any fun y => y.fId == x.fId
def Ml : List Ae → List Ae → Bool
 | pre, [] => true
 | pre, x :: r => (Fl x.fId 1 65535 && C9 x.fM && V7 x && !(H9 pre x)) && Ml (pre ++ [x]) r
def Dt (o : Bm) : Bool := Ml [] o.fFl && (Fl o.fLast 0 65535 && decide ((o.fFl.length : Int) ≤ 3) && Eo o.fQ)
theorem Vn (o : Bm) (b0 : Gf o ≤ 1048576) : (o.fFl.length ≤ 1048576 ∧ ∀ x ∈ o.fFl, x.fM.fTopic.size ≤ 1048576) ∧ (o.fQ.length ≤ 1048576 ∧ ∀ x ∈ o.fQ, x.fTopic.size ≤ 1048576) := by
 have e : Gf o = F6 Az o.fFl + (F6 Bv o.fQ + 0) := rfl
 refine ⟨?_, U5 _ (by omega)⟩
 have h1 := K4 Az o.fFl
 refine ⟨by omega, fun x hx => ?_⟩
 have h2 := Nu (wt := Az) hx
 have h3 : Az x = x.fM.fTopic.size + (x.fM.fBody.size + 0) + 0 := rfl
 omega
theorem U7 (n : Nat) (ty : Nat) (o : Bm) (hlen : o.fFl.length ≤ 1048576) (x : Ae) (g0 : AV → AV → Ab → Option AV) (kk : AV → Ab → Option AV) (i1 : Nat) (H : Ab) (B : H[i1]? = some ⟨Bl o, true, true⟩) (pre r : List Ae) (hl : o.fFl = pre ++ x :: r) : ∀ (s p2 : List Ae) (m : Nat), pre = p2 ++ s → s.length < m →
  Se (PR n AV) n g0 kk m (.ptr i1 0) (si pre.length) (si p2.length) H = if H9 s x then kk bF H else g0 (.ptr i1 0) (si (IntKind.i64.wrap ((pre.length : Int) + 1))) H
 | [], p2, m + 1, he, hm => by
  rw [zam] at he
  subst he
  show (PR n AV).bin _ _ _ _ = _
  simp only [Bf, Ay, B8, Bn, B5]
  rw [Ed, Ds, if_neg (by simp)]
  rfl
 | y :: s, p2, m + 1, he, hm => by
  have hlt : p2.length < pre.length := by rw [he]; simp
  have hpl : pre.length < o.fFl.length := by rw [hl]; simp
  show (PR n AV).bin _ _ _ _ = _
  simp only [Bf, Ay, B8, Bn, B5]
  rw [Ed, Ds, if_pos (by simpa using hlt)]
  refine Ai (Bj (c := Al Aq o.fFl) B (Bb rfl) rfl (Kv (pre := p2) (x := y) (t := s ++ x :: r) Ba (by decide) (by rw [hl, he]; simp) (Hp (Kw (c := .sc (.int .i64 y.fId)) rfl (Ai (Bj (c := Al Aq o.fFl) B (Bb rfl) rfl (Kv (pre := pre) (x := x) (t := r) Ba (by decide) hl (Hp (Kw (c := .sc (.int .i64 x.fId)) rfl (A1 (v := .sc (.bool (y.fId == x.fId))) (fun k => rfl) ?_))))))))))
  have ih := U7 n ty o hlen x g0 kk i1 H B pre r hl s (p2 ++ [y]) m (by rw [he]; simp) (by simpa using hm)
  rw [zag, zap] at ih
  have hany : H9 (y :: s) x = (y.fId == x.fId || H9 s x) := rfl
  rw [hany]
  cases hid : (y.fId == x.fId)
  refine F2 rfl ?_
  rw [Ew _ _ (by omega), ih]
  rfl
  exact Fq rfl rfl
theorem AaJ (p : Ae → Bool) : ∀ (pre r : List Ae) (x : Ae) (i : Nat), p x = true → Da p (pre ++ x :: r) i = if pre.any p then Da p pre i else ((i + pre.length : Nat) : Int)
 | [], r, x, i, h => by simp [Da, h]
 | y :: pre, r, x, i, h => by
  rw [zao, Da, AaJ p pre r x (i + 1) h, Da, zbh]
  cases hy : p y
  simp only [zaj, if_false, zbr, zat]
  rw [show i + 1 + pre.length = i + (pre.length + 1) by omega]
  simp
theorem AeM (p : Ae → Bool) : ∀ (pre : List Ae) (i : Nat), pre.any p = true → Da p pre i < ((i + pre.length : Nat) : Int)
 | [], i, h => by simp at h
 | y :: pre, i, h => by
  rw [Da]
  cases hy : p y
  rw [zbh, hy, zbr] at h
  have := AeM p pre (i + 1) h
  simp only [zaj, if_false, zat]
  omega
  simp only [if_true, zat]
  omega
theorem AeN (o : Bm) (pre r : List Ae) (x : Ae) (hl : o.fFl = pre ++ x :: r) : (Da (fun y : Ae => y.fId == x.fId) o.fFl 0 != (pre.length : Int)) = H9 pre x := by
 rw [hl, AaJ _ pre r x 0 (by simp)]
 unfold H9
 cases h : pre.any fun y => y.fId == x.fId
 simp
 have := AeM _ pre 0 h
 simp only [if_true]
 rw [bne_iff_ne.2]
 simp at this
 omega
theorem Acj (n : Nat) (ty : Nat) (x : Ae) (z : Int) : Ct E0 (n + 1) ty 90 [.agg (Aq x), .rp [.sc (.int .i64 z)]] = some (.sc (.bool (x.fId == z))) := by
 rw [A2, AiF, f90]
 simp only [Dh, B8, Bn, Bf]
 refine Kg (Ee _) fun i e hi => Ai (Bj (c := si x.fId) hi (Bb rfl) rfl (Kw (c := si z) rfl ?_))
 rw [Ada]
 rfl
theorem Vo (n : Nat) (hn : 1048576 < n) (ty : Nat) (l : List Ae) (z : Int) (hl : l.length ≤ 1048576) : Ct E0 (n + 2) ty 89 [Al Aq l, .fn 90 [] [.rp [.sc (.int .i64 z)]]] = some (.sc (.int .i64 (Da (fun y : Ae => y.fId == z) l 0))) := by
 rw [A2, AiE, f89]
 simp only [B0]
 rw [Hi]
 have key := Sv (n := n + 1) (tb := 4) (g := 90) (caps := [.rp [si z]]) Aq (fun y : Ae => y.fId == z) (fun x H => Be Ap E0.tp ty H x) Ba (by decide) Ee rfl (fun H => rfl) (fun m a b c i H => Sm (PR (n + 1) AV) (n + 1) (fun x H => Be Ap E0.tp ty H x) m a b c i H) (fun m a b c i H => rfl) l (fun x _ => Acj n _ x z) hl [] l [] (n + 1) rfl (by omega)
 simp only [zau, zaY] at key
 rw [key]
 rfl
theorem Ul (n : Nat) (hn : 1048576 < n) (ty : Nat) (l : List Ae) (z : Int) (hl : l.length ≤ 1048576) : Ct E0 (n + 3) ty 45 [Al Aq l, .sc (.int .i64 z)] = some (.sc (.int .i64 (Da (fun y : Ae => y.fId == z) l 0))) := by
 rw [A2, Aim, f45]
 simp only [Dh]
 refine Ajn rfl fun i2 e2 hi2 => Dk rfl (Bk (Ei _ _ _) (Bk (AhE hi2 rfl) Dw)) (Vo n hn _ l z hl) ?_
 rfl
theorem Ahi (x : Ae) (hv : C9 x.fM = true) : V7 x = !((x.fM.fQos == 0) || (!((x.fM.fQos == 1) == (x.fSt == 1)) || !(Fl x.fSt 1 3))) := by
 have hq : 0 ≤ x.fM.fQos ∧ x.fM.fQos ≤ 2 := by
  unfold C9 Fl at hv
  simp at hv
  exact hv.2
 unfold V7 Fl
 obtain h | h | h : x.fM.fQos = 0 ∨ x.fM.fQos = 1 ∨ x.fM.fQos = 2 := by omega
 simp [h]
 rw [h, zbj]
 simp
 intro h1
 omega
 rw [h, zbj]
 simp
 omega
def Oy (o : Bm) : List Ae → List Ae → Bool
 | pre, [] => Fl o.fLast 0 65535 && decide ((o.fFl.length : Int) ≤ 3) && Eo o.fQ
 | pre, x :: r => (Fl x.fId 1 65535 && C9 x.fM && V7 x && !(H9 pre x)) && Oy o (pre ++ [x]) r
theorem Rd (n : Nat) (hn : 1048576 < n) (ty : Nat) (o : Bm) (hlen : o.fFl.length ≤ 1048576) (hsl : ∀ x ∈ o.fFl, x.fM.fTopic.size ≤ 1048576) (hqn : o.fQ.length ≤ 1048576) (hqs : ∀ x ∈ o.fQ, x.fTopic.size ≤ 1048576) (i1 : Nat) : ∀ (r pre : List Ae) (m : Nat) (H : Ab) (B : H[i1]? = some ⟨Bl o, true, true⟩), o.fFl = pre ++ r → r.length < m → N8 (PR (n + 8) AV) (n + 8) (fun x H => Be Ap E0.tp ty H x) m (.ptr i1 0) (.sc (.int .i64 pre.length)) H = some (.sc (.bool (Oy o pre r)))
 | [], pre, m + 1, H, B, hl, hm => by
  have hlt : decide ((pre.length : Int) < (o.fFl.length : Int)) = false := by
   rw [hl]
   simp
  show (PR (n + 8) AV).fadr _ _ _ = _
  simp only [Dh, C1, B8, Bn, Bs, Bf, Dy, Dx, Fn, Ay, B3, Pr.gT, Pr.gF, Pr.hT, Pr.hF, Pr.kT, Pr.kF, Ci, B0, Di, B5, Et, C2, Cw, Bx, Bw, D8, C6, D2, D1]
  refine Ai (Bj (c := Al Aq o.fFl) B (Bb rfl) rfl (Do (A1 (v := sb (decide ((pre.length : Int) < (o.fFl.length : Int)))) (fun k => rfl) (F2 hlt (Ai (Bj (c := si o.fLast) B (Bb rfl) rfl (Dk rfl (Bk (C4 _ _) (Bk (C4 _ _) (Bk (C4 _ _) Dw))) (O5 (n + 7) _ o.fLast 0 65535) ?_)))))))
  apply A6 ((Fl o.fLast 0 65535) && (decide ((o.fFl.length : Int) ≤ 3)))
  intro b1 q1
  refine Ag ((Fl o.fLast 0 65535)) (fun h1 => ?_) fun h1 => ?_
  exact An h1 (Ai (An h1 (Bj (c := Al Aq o.fFl) B (Bb rfl) rfl (An h1 (Do (An h1 (A1 (v := sb (decide ((o.fFl.length : Int) ≤ 3))) (fun k => rfl) (Cb h1 (G9 q1 h1) rfl))))))))
  exact Ao h1 (Ao h1 (Ao h1 (Ao h1 (Ca h1 (G8 q1 h1) rfl))))
  intro b1 q1
  apply A6 (b1 && (Eo o.fQ))
  intro b2 q2
  refine Ag (b1) (fun h2 => ?_) fun h2 => ?_
  exact An h2 (Ai (An h2 (Bj (c := Al Ak o.fQ) B (Bb rfl) rfl (An h2 (Dk rfl (Bk (Ei _ _ _) Dw) (Tu (n + 1) (by omega) _ o.fQ (by assumption) (by assumption)) (Cb h2 (G9 q2 h2) rfl))))))
  exact Ao h2 (Ao h2 (Ao h2 (Ca h2 (G8 q2 h2) rfl)))
  intro b2 q2
  exact Eg (by (try clear ih); (try clear hlt); (try clear hix); (try clear hm); (try clear hmem); (try clear hpl); (try clear hsl); (try clear hlen); (try clear hqn); (try clear hqs); (try clear hs); (try clear B); (try clear B1); (try clear B2); (try clear hl); subst_vars; rw [Oy]; first | done | (cases h1 : Fl x.fId 1 65535 <;> cases h2 : C9 x.fM <;> cases h3 : V7 x <;> cases h4 : H9 pre x <;> simp [h1, h2, h3, h4] at *))
 | x :: r, pre, m + 1, H, B, hl, hm => by
  have hpl : pre.length < o.fFl.length := by rw [hl]; simp
  have hlt : decide ((pre.length : Int) < (o.fFl.length : Int)) = true := by simpa using hpl
  have hmem : x ∈ o.fFl := by rw [hl]; simp
  have hix : IntKind.i64.wrap ((pre.length : Int) + 1) = (((pre ++ [x]).length : Nat) : Int) := by
   rw [Gh _ (by omega) (by omega), zag, zap]
   rfl
  try have hs : x.fM.fTopic.size ≤ 1048576 := hsl x (by assumption)
  show (PR (n + 8) AV).fadr _ _ _ = _
  simp only [Dh, C1, B8, Bn, Bs, Bf, Dy, Dx, Fn, Ay, B3, Pr.gT, Pr.gF, Pr.hT, Pr.hF, Pr.kT, Pr.kF, Ci, B0, Di, B5, Et, C2, Cw, Bx, Bw, D8, C6, D2, D1]
  refine Ai (Bj (c := Al Aq o.fFl) B (Bb rfl) rfl (Do (A1 (v := sb (decide ((pre.length : Int) < (o.fFl.length : Int)))) (fun k => rfl) (Fq hlt (Ai (Bj (c := Al Aq o.fFl) B (Bb rfl) rfl (Kv Ba (by decide) hl (Hp (Kw (c := si x.fId) rfl (Dk rfl (Bk (C4 _ _) (Bk (C4 _ _) (Bk (C4 _ _) Dw))) (O5 (n + 7) _ x.fId 1 65535) (H0 ?_)))))))))))
  apply A6 ((!(Fl x.fId 1 65535)) || (!(C9 x.fM)))
  intro b1 q1
  refine Ag ((Fl x.fId 1 65535)) (fun h1 => ?_) fun h1 => ?_
  exact C5 (nF h1) (Ai (C5 (nF h1) (Bj (c := Al Aq o.fFl) B (Bb rfl) rfl (C5 (nF h1) (C5 (nF h1) (Kv Ba (by decide) hl (C5 (nF h1) (Hp (C5 (nF h1) (Ki (ds := Ak x.fM) (Bb rfl) rfl (C5 (nF h1) (Dk rfl (Bk (Gr _ (Fu _)) Dw) (Tr (n + 2) (by omega) _ x.fM (by assumption)) (C5 (nF h1) (H0 (Ca (nF h1) (mOF q1 (nF h1)) rfl)))))))))))))))
  exact Df (nT h1) (Df (nT h1) (Df (nT h1) (Df (nT h1) (Df (nT h1) (Df (nT h1) (Df (nT h1) (Df (nT h1) (Cb (nT h1) (mOT q1 (nT h1)) rfl))))))))
  intro b1 q1
  apply A6 (b1 || (!(V7 x)))
  intro b2 q2
  refine Ag (b1) (fun h2 => ?_) fun h2 => ?_
  exact Df h2 (Df h2 (Df h2 (Df h2 (Df h2 (Df h2 (Df h2 (Cb h2 (mOT q2 h2) rfl)))))))
  exact C5 h2 (Ai (C5 h2 (Bj (c := Al Aq o.fFl) B (Bb rfl) rfl (C5 h2 (C5 h2 (Kv Ba (by decide) hl (C5 h2 (Ki (ds := Aq x) (Bb rfl) rfl (C5 h2 (Dk rfl (Bk (Gr _ (Ee _)) Dw) (AiT (n + 7) _ x) (C5 h2 (H0 (Ca h2 (mOF q2 h2) rfl)))))))))))))
  intro b2 q2
  refine Ag (b2) (fun h3 => ?_) fun h3 => ?_
  ·exact Fq h3 (Eg (by (try clear ih); (try clear hlt); (try clear hix); (try clear hm); (try clear hmem); (try clear hpl); (try clear hsl); (try clear hlen); (try clear hqn); (try clear hqs); (try clear hs); (try clear B); (try clear B1); (try clear B2); (try clear hl); subst_vars; rw [Oy]; first | done | (cases h1 : Fl x.fId 1 65535 <;> cases h2 : C9 x.fM <;> cases h3 : V7 x <;> cases h4 : H9 pre x <;> simp [h1, h2, h3, h4] at *)))
  refine F2 h3 ?_
  have key := fun g0 kk => U7 (n + 8) ty o hlen x g0 kk i1 H B pre r hl pre [] (n + 8) rfl (by omega)
  simp only [zau, zaY] at key
  rw [key]
  clear key
  cases hpre : H9 pre x
  ·simp only [zaj, if_false]
   rw [hix]
   refine (Rd n hn ty o hlen hsl hqn hqs i1 r (pre ++ [x]) m _ B (by rw [hl]; simp) (by simpa using hm)).trans (congrArg (fun b => some (AV.sc (Value.bool b))) ?_)
   (try clear ih); (try clear hlt); (try clear hix); (try clear hm); (try clear hmem); (try clear hpl); (try clear hsl); (try clear hlen); (try clear hqn); (try clear hqs); (try clear hs); (try clear B); (try clear B1); (try clear B2); (try clear hl); subst_vars; rw [Oy]; first | done | (cases h1 : Fl x.fId 1 65535 <;> cases h2 : C9 x.fM <;> cases h3 : V7 x <;> cases h4 : H9 pre x <;> simp [h1, h2, h3, h4] at *)
  ·simp only [if_true]
   exact Eg (by (try clear ih); (try clear hlt); (try clear hix); (try clear hm); (try clear hmem); (try clear hpl); (try clear hsl); (try clear hlen); (try clear hqn); (try clear hqs); (try clear hs); (try clear B); (try clear B1); (try clear B2); (try clear hl); subst_vars; rw [Oy]; first | done | (cases h1 : Fl x.fId 1 65535 <;> cases h2 : C9 x.fM <;> cases h3 : V7 x <;> cases h4 : H9 pre x <;> simp [h1, h2, h3, h4] at *))
theorem Q6 (n : Nat) (hn : 1048576 < n) (ty : Nat) (o : Bm) (hlen : o.fFl.length ≤ 1048576) (hsl : ∀ x ∈ o.fFl, x.fM.fTopic.size ≤ 1048576) (hqn : o.fQ.length ≤ 1048576) (hqs : ∀ x ∈ o.fQ, x.fTopic.size ≤ 1048576) (i1 : Nat) : ∀ (r pre : List Ae) (m : Nat) (H : Ab) (B : H[i1]? = some ⟨Bl o, true, true⟩), o.fFl = pre ++ r → r.length < m → Sd (PR (n + 9) AV) (n + 9) (fun x H => Be Ap E0.tp ty H x) m (.ptr i1 0) (Al Aq o.fFl) (.sc (.int .i64 (o.fFl.length : Int))) (.sc (.int .i64 pre.length)) H = some (.sc (.bool (Oy o pre r)))
 | [], pre, m + 1, H, B, hl, hm => by
  have hlt : decide ((pre.length : Int) < (o.fFl.length : Int)) = false := by
   rw [hl]
   simp
  show (PR (n + 9) AV).bin _ _ _ _ = _
  simp only [Dh, C1, B8, Bn, Bs, Bf, Dy, Dx, Fn, Ay, B3, Pr.gT, Pr.gF, Pr.hT, Pr.hF, Pr.kT, Pr.kF, Ci, B0, Di, B5, Et, C2, Cw, Bx, Bw, D8, C6, D2, D1]
  refine A1 (v := sb (decide ((pre.length : Int) < (o.fFl.length : Int)))) (fun k => rfl) (F2 hlt (Ai (Bj (c := si o.fLast) B (Bb rfl) rfl (Dk rfl (Bk (C4 _ _) Dw) (AgF (n + 7) _ o.fLast) ?_))))
  apply A6 ((Fl o.fLast 0 65535) && (decide ((o.fFl.length : Int) ≤ 3)))
  intro b1 q1
  refine Ag ((Fl o.fLast 0 65535)) (fun h1 => ?_) fun h1 => ?_
  exact An h1 (Ai (An h1 (Bj (c := Al Aq o.fFl) B (Bb rfl) rfl (An h1 (Do (An h1 (A1 (v := sb (decide ((o.fFl.length : Int) ≤ 3))) (fun k => rfl) (Cb h1 (G9 q1 h1) rfl))))))))
  exact Ao h1 (Ao h1 (Ao h1 (Ao h1 (Ca h1 (G8 q1 h1) rfl))))
  intro b1 q1
  apply A6 (b1 && (Eo o.fQ))
  intro b2 q2
  refine Ag (b1) (fun h2 => ?_) fun h2 => ?_
  exact An h2 (Ai (An h2 (Bj (c := Al Ak o.fQ) B (Bb rfl) rfl (An h2 (Dk rfl (Bk (Ei _ _ _) Dw) (Zt (n + 1) (by omega) _ o.fQ (by assumption) (by assumption)) (Cb h2 (G9 q2 h2) rfl))))))
  exact Ao h2 (Ao h2 (Ao h2 (Ca h2 (G8 q2 h2) rfl)))
  intro b2 q2
  exact Eg (by (try clear ih); (try clear hlt); (try clear hix); (try clear hm); (try clear hmem); (try clear hpl); (try clear hsl); (try clear hlen); (try clear hqn); (try clear hqs); (try clear hs); (try clear B); (try clear B1); (try clear B2); (try clear hl); subst_vars; rw [Oy]; first | done | (cases h2 : C9 x.fM <;> (try rw [Ahi x h2]) <;> cases h1 : Fl x.fId 1 65535 <;> cases h4 : H9 pre x <;> cases h5 : (x.fM.fQos == 0) <;> cases h6 : ((x.fM.fQos == 1) == (x.fSt == 1)) <;> cases h7 : Fl x.fSt 1 3 <;> simp [h1, h2, h4, h5, h6, h7] at * <;> contradiction))
 | x :: r, pre, m + 1, H, B, hl, hm => by
  have hpl : pre.length < o.fFl.length := by rw [hl]; simp
  have hlt : decide ((pre.length : Int) < (o.fFl.length : Int)) = true := by simpa using hpl
  have hmem : x ∈ o.fFl := by rw [hl]; simp
  have hix : IntKind.i64.wrap ((pre.length : Int) + 1) = (((pre ++ [x]).length : Nat) : Int) := by
   rw [Gh _ (by omega) (by omega), zag, zap]
   rfl
  try have hs : x.fM.fTopic.size ≤ 1048576 := hsl x (by assumption)
  try have hidx := AeN o pre r x hl
  show (PR (n + 9) AV).bin _ _ _ _ = _
  simp only [Dh, C1, B8, Bn, Bs, Bf, Dy, Dx, Fn, Ay, B3, Pr.gT, Pr.gF, Pr.hT, Pr.hF, Pr.kT, Pr.kF, Ci, B0, Di, B5, Et, C2, Cw, Bx, Bw, D8, C6, D2, D1]
  refine A1 (v := sb (decide ((pre.length : Int) < (o.fFl.length : Int)))) (fun k => rfl) (Fq hlt (Kv Ba (by decide) hl (Ki (ds := Aq x) (Bb rfl) rfl (Qc rfl (Ba _) (L7 (Ee _)) fun iB1 B1 => ?_))))
  replace B := Jd B [⟨Aq x, true, true⟩]
  refine Ai (Bj (c := si x.fId) B1 (Bb rfl) rfl (Dk rfl (Bk (C4 _ _) Dw) (Akw (n + 7) _ x.fId) (H0 ?_)))
  apply A6 ((!(Fl x.fId 1 65535)) || ((Da (fun y : Ae => y.fId == x.fId) o.fFl 0) != (pre.length : Int)))
  intro b2 q2
  refine Ag ((Fl x.fId 1 65535)) (fun h2 => ?_) fun h2 => ?_
  exact C5 (nF h2) (Ai (C5 (nF h2) (Bj (c := Al Aq o.fFl) B (Bb rfl) rfl (C5 (nF h2) (Ai (C5 (nF h2) (Bj (c := si x.fId) B1 (Bb rfl) rfl (C5 (nF h2) (Dk rfl (Bk (Ei _ _ _) (Bk (C4 _ _) Dw)) (Ul (n + 6) (by omega) _ o.fFl x.fId hlen) (C5 (nF h2) (C5 (nF h2) (A1 (v := sb ((Da (fun y : Ae => y.fId == x.fId) o.fFl 0) != (pre.length : Int))) (fun k => rfl) (Ca (nF h2) (mOF q2 (nF h2)) rfl)))))))))))))
  exact Df (nT h2) (Df (nT h2) (Df (nT h2) (Df (nT h2) (Df (nT h2) (Df (nT h2) (Df (nT h2) (Cb (nT h2) (mOT q2 (nT h2)) rfl)))))))
  intro b2 q2
  apply A6 (b2 || (!(C9 x.fM)))
  intro b3 q3
  refine Ag (b2) (fun h3 => ?_) fun h3 => ?_
  exact Df h3 (Df h3 (Df h3 (Df h3 (Cb h3 (mOT q3 h3) rfl))))
  exact C5 h3 (Ai (C5 h3 (Iw (ds := Ak x.fM) B1 (Bb rfl) rfl (C5 h3 (Dk rfl (Bk (Gr _ (Fu _)) Dw) (Xa (n + 3) (by omega) _ x.fM (by assumption)) (C5 h3 (H0 (Ca h3 (mOF q3 h3) rfl))))))))
  intro b3 q3
  refine Ag (b3) (fun h4 => ?_) fun h4 => ?_
  ·exact Fq h4 (Eg (by (try clear ih); (try clear hlt); (try clear hix); (try clear hm); (try clear hmem); (try clear hpl); (try clear hsl); (try clear hlen); (try clear hqn); (try clear hqs); (try clear hs); (try clear B); (try clear B1); (try clear B2); (try clear hl); subst_vars; rw [Oy]; first | done | (cases h2 : C9 x.fM <;> (try rw [Ahi x h2]) <;> cases h1 : Fl x.fId 1 65535 <;> cases h4 : H9 pre x <;> cases h5 : (x.fM.fQos == 0) <;> cases h6 : ((x.fM.fQos == 1) == (x.fSt == 1)) <;> cases h7 : Fl x.fSt 1 3 <;> simp [h1, h2, h4, h5, h6, h7] at * <;> contradiction)))
  refine F2 h4 (Ai (Ai (Bj (c := si x.fM.fQos) B1 (Bb rfl) rfl (A1 (v := sb (x.fM.fQos == 0)) (fun k => rfl) ?_))))
  apply A6 ((x.fM.fQos == 0) || (!((x.fM.fQos == 1) == (x.fSt == 1))))
  intro b5 q5
  refine Ag ((x.fM.fQos == 0)) (fun h5 => ?_) fun h5 => ?_
  exact Df h5 (Df h5 (Df h5 (Df h5 (Df h5 (Df h5 (Df h5 (Df h5 (Cb h5 (mOT q5 h5) rfl))))))))
  exact C5 h5 (Ai (C5 h5 (Ai (C5 h5 (Bj (c := si x.fM.fQos) B1 (Bb rfl) rfl (C5 h5 (A1 (v := sb (x.fM.fQos == 1)) (fun k => rfl) (C5 h5 (Ai (C5 h5 (Bj (c := si x.fSt) B1 (Bb rfl) rfl (C5 h5 (A1 (v := sb (x.fSt == 1)) (fun k => rfl) (C5 h5 (G7 (v := sb (!((x.fM.fQos == 1) == (x.fSt == 1)))) (fun k => rfl) (Ca h5 (mOF q5 h5) rfl))))))))))))))))
  intro b5 q5
  apply A6 (b5 || (!(Fl x.fSt 1 3)))
  intro b6 q6
  refine Ag (b5) (fun h6 => ?_) fun h6 => ?_
  exact Df h6 (Df h6 (Df h6 (Df h6 (Cb h6 (mOT q6 h6) rfl))))
  exact C5 h6 (Ai (C5 h6 (Bj (c := si x.fSt) B1 (Bb rfl) rfl (C5 h6 (Dk rfl (Bk (C4 _ _) (Bk (C4 _ _) (Bk (C4 _ _) Dw))) (Jb (n + 8) _ x.fSt 1 3) (C5 h6 (H0 (Ca h6 (mOF q6 h6) rfl))))))))
  intro b6 q6
  refine Ag (b6) (fun h7 => ?_) fun h7 => ?_
  ·exact Fq h7 (Eg (by (try clear ih); (try clear hlt); (try clear hix); (try clear hm); (try clear hmem); (try clear hpl); (try clear hsl); (try clear hlen); (try clear hqn); (try clear hqs); (try clear hs); (try clear B); (try clear B1); (try clear B2); (try clear hl); subst_vars; rw [Oy]; first | done | (cases h2 : C9 x.fM <;> (try rw [Ahi x h2]) <;> cases h1 : Fl x.fId 1 65535 <;> cases h4 : H9 pre x <;> cases h5 : (x.fM.fQos == 0) <;> cases h6 : ((x.fM.fQos == 1) == (x.fSt == 1)) <;> cases h7 : Fl x.fSt 1 3 <;> simp [h1, h2, h4, h5, h6, h7] at * <;> contradiction)))
  ·refine F2 h7 (A1 (v := si (IntKind.i64.wrap ((pre.length : Int) + 1))) (fun k => rfl) ?_)
   rw [hix]
   refine (Q6 n hn ty o hlen hsl hqn hqs i1 r (pre ++ [x]) m _ B (by rw [hl]; simp) (by simpa using hm)).trans (congrArg (fun b => some (AV.sc (Value.bool b))) ?_)
   (try clear ih); (try clear hlt); (try clear hix); (try clear hm); (try clear hmem); (try clear hpl); (try clear hsl); (try clear hlen); (try clear hqn); (try clear hqs); (try clear hs); (try clear B); (try clear B1); (try clear B2); (try clear hl); subst_vars; rw [Oy]; first | done | (cases h2 : C9 x.fM <;> (try rw [Ahi x h2]) <;> cases h1 : Fl x.fId 1 65535 <;> cases h4 : H9 pre x <;> cases h5 : (x.fM.fQos == 0) <;> cases h6 : ((x.fM.fQos == 1) == (x.fSt == 1)) <;> cases h7 : Fl x.fSt 1 3 <;> simp [h1, h2, h4, h5, h6, h7] at * <;> contradiction)
theorem Vq (o : Bm) : ∀ (r pre : List Ae), Oy o pre r = (Ml pre r && (Fl o.fLast 0 65535 && decide ((o.fFl.length : Int) ≤ 3) && Eo o.fQ))
 | [], pre => by rw [Oy, Ml, zbE]
 | x :: r, pre => by
  rw [Oy, Ml, Vq o r]
  simp only [Bool.and_assoc]
def Oe : Ch := ⟨⟨#[]⟩, ⟨#[]⟩, 0, false⟩
theorem Abh {α β : Type} {r : Option β} {w : Nat} {enc : α → List AV} {l : List α} {d : α} {K : AV → Option β} (hw : ∀ x, (enc x).length = w) (h0 : 0 < w) (hl : 0 < l.length) (h : K (.rp (enc (l.headD d) ++ (l.tail.map enc).flatten)) = r) : Es w (Al enc l) (.sc (.int .i64 0)) (fun t => K t) = r := by
 refine Ahn hw h0 hl fun x t e => ?_
 subst e
 exact h
theorem Po (n : Nat) (hn : 1048576 < n) (ty : Nat) (o : Bm) (b0 : Gf o ≤ 1048576) : Ct E0 (n + 10) ty 11 [.agg (Bl o)] = some (.sc (.bool (Dt o))) := by
 obtain ⟨⟨h1, h2⟩, h3, h4⟩ := Vn o b0
 rw [A2, AhW, f11]
 simp only [Dh]
 refine Kg (Hg _) fun i e hi => ?_
 have key := Rd (n + 1) (by omega) ty o h1 h2 h3 h4 i o.fFl [] (n + 9) _ hi rfl (by omega)
 rw [Vq] at key
 exact key
theorem Lb (n : Nat) (hn : 1048576 < n) (ty : Nat) (o : Bm) (b0 : Gf o ≤ 1048576) : Ct E0 (n + 10) ty 10 [.agg (Bl o)] = some (.sc (.bool (Dt o))) := by
 obtain ⟨⟨h1, h2⟩, h3, h4⟩ := Vn o b0
 rw [A2, AhV, f10]
 simp only [Dh, B8, Bn, B0]
 refine Kg (Hg _) fun i e hi => Ai (Bj (c := Al Aq o.fFl) hi (Bb rfl) rfl (Do ?_))
 have key := Q6 n hn ty o h1 h2 h3 h4 i o.fFl [] (n + 9) _ hi rfl (by omega)
 rw [Vq] at key
 exact key
theorem M6 (n : Nat) (hn : 1048576 < n) (o : Bm) (k0 : O8 o) (b0 : Gf o ≤ 1048576) : Ct E0 (n + 11) 4 39 [.agg (Bl o)] = some (.sc (.bool ((Dt o && decide ((o.fQ.length : Int) > 0)) && ((o.fQ.headD Oe).fQos == 0 || decide ((o.fFl.length : Int) < 3))))) := by
 rw [A2, Aih, f39]
 try simp only [Dh, C1, B8, Bn, Bs, Bf, Dy, Dx, Fn, Ay, B3, Pr.gT, Pr.gF, Pr.hT, Pr.hF, Pr.kT, Pr.kF, Ci, B0, Di, B5, Et, C2, Cw, Bx, Bw, D8, C6, D2, D1]
 have hwo := b0
 refine Kg (Hg _) fun iB1 eB1 B1 => Iw (ds := Bl o) B1 (Bb rfl) rfl (Dk rfl (Bk (Gr _ (Hg _)) Dw) (Po (n + 0) (by omega) _ o hwo) ?_)
 apply A6 ((Dt o) && (decide ((o.fQ.length : Int) > 0)))
 intro b2 q2
 refine Ag ((Dt o)) (fun h2 => ?_) fun h2 => ?_
 exact An h2 (Ai (An h2 (Bj (c := Al Ak o.fQ) B1 (Bb rfl) rfl (An h2 (Do (An h2 (A1 (v := sb (decide ((o.fQ.length : Int) > 0))) (fun k => rfl) (Cb h2 (G9 q2 h2) rfl))))))))
 exact Ao h2 (Ao h2 (Ao h2 (Ao h2 (Ca h2 (G8 q2 h2) rfl))))
 intro b2 q2
 apply A6 (b2 && ((((o.fQ.headD Oe).fQos) == 0) || (decide ((o.fFl.length : Int) < 3))))
 intro b3 q3
 refine Ag (b2) (fun h3 => ?_) fun h3 => ?_
 ·refine An h3 (Ai (An h3 (Bj (c := Al Ak o.fQ) B1 (Bb rfl) rfl (An h3 (Abh (d := Oe) Eb (by decide) (by first | (simp_all; done) | (simp at *; omega)) (An h3 (Hp (An h3 (Kw (c := .sc (.int .i64 ((o.fQ.headD Oe).fQos))) rfl (An h3 (A1 (v := .sc (.bool (((o.fQ.headD Oe).fQos) == 0))) (fun k => rfl) (An h3 ?_))))))))))))
  apply A6 ((((o.fQ.headD Oe).fQos) == 0) || (decide ((o.fFl.length : Int) < 3)))
  intro b4 q4
  refine Ag ((((o.fQ.headD Oe).fQos) == 0)) (fun h4 => ?_) fun h4 => ?_
  exact Df h4 (Df h4 (Df h4 (Df h4 (An h3 (Cb h4 (mOT q4 h4) rfl)))))
  exact C5 h4 (Ai (C5 h4 (Bj (c := Al Aq o.fFl) B1 (Bb rfl) rfl (C5 h4 (Do (C5 h4 (A1 (v := sb (decide ((o.fFl.length : Int) < 3))) (fun k => rfl) (An h3 (Ca h4 (mOF q4 h4) rfl)))))))))
  intro b4 q4
  exact Cb h3 (by subst q4; exact G9 q3 h3) rfl
 exact Ao h3 (Ao h3 (Ao h3 (Ao h3 (Ao h3 (Ao h3 (Ao h3 (w_u (w_u (w_u (w_u (Ao h3 (Ca h3 (G8 q3 h3) rfl))))))))))))
 intro b3 q3
 exact Eg (by subst_vars; rfl)
theorem Mz (n : Nat) (hn : 1048576 < n) (o : Bm) (k0 : O8 o) (b0 : Gf o ≤ 1048576) : Ct E0 (n + 11) 4 38 [.agg (Bl o)] = some (.sc (.bool ((Dt o && decide ((o.fQ.length : Int) > 0)) && ((o.fQ.headD Oe).fQos == 0 || decide ((o.fFl.length : Int) < 3))))) := by
 rw [A2, Aig, f38]
 try simp only [Dh, C1, B8, Bn, Bs, Bf, Dy, Dx, Fn, Ay, B3, Pr.gT, Pr.gF, Pr.hT, Pr.hF, Pr.kT, Pr.kF, Ci, B0, Di, B5, Et, C2, Cw, Bx, Bw, D8, C6, D2, D1]
 have hwo := b0
 refine Kg (Hg _) fun iB1 eB1 B1 => Iw (ds := Bl o) B1 (Bb rfl) rfl (Dk rfl (Bk (Gr _ (Hg _)) Dw) (Lb (n + 0) (by omega) _ o hwo) ?_)
 apply A6 ((Dt o) && (decide ((o.fQ.length : Int) > 0)))
 intro b2 q2
 refine Ag ((Dt o)) (fun h2 => ?_) fun h2 => ?_
 exact An h2 (Ai (An h2 (Bj (c := Al Ak o.fQ) B1 (Bb rfl) rfl (An h2 (Do (An h2 (A1 (v := sb (decide ((o.fQ.length : Int) > 0))) (fun k => rfl) (Cb h2 (G9 q2 h2) rfl))))))))
 exact Ao h2 (Ao h2 (Ao h2 (Ao h2 (Ca h2 (G8 q2 h2) rfl))))
 intro b2 q2
 apply A6 (b2 && ((((o.fQ.headD Oe).fQos) == 0) || (decide ((o.fFl.length : Int) < 3))))
 intro b3 q3
 refine Ag (b2) (fun h3 => ?_) fun h3 => ?_
 ·refine An h3 (Ai (An h3 (Bj (c := Al Ak o.fQ) B1 (Bb rfl) rfl (An h3 (Abh (d := Oe) Eb (by decide) (by first | (simp_all; done) | (simp at *; omega)) (An h3 (Hp (An h3 (Kw (c := .sc (.int .i64 ((o.fQ.headD Oe).fQos))) rfl (An h3 (A1 (v := .sc (.bool (((o.fQ.headD Oe).fQos) == 0))) (fun k => rfl) (An h3 ?_))))))))))))
  apply A6 ((((o.fQ.headD Oe).fQos) == 0) || (decide ((o.fFl.length : Int) < 3)))
  intro b4 q4
  refine Ag ((((o.fQ.headD Oe).fQos) == 0)) (fun h4 => ?_) fun h4 => ?_
  exact Df h4 (Df h4 (Df h4 (Df h4 (An h3 (Cb h4 (mOT q4 h4) rfl)))))
  exact C5 h4 (Ai (C5 h4 (Bj (c := Al Aq o.fFl) B1 (Bb rfl) rfl (C5 h4 (Do (C5 h4 (A1 (v := sb (decide ((o.fFl.length : Int) < 3))) (fun k => rfl) (An h3 (Ca h4 (mOF q4 h4) rfl)))))))))
  intro b4 q4
  exact Cb h3 (by subst q4; exact G9 q3 h3) rfl
 exact Ao h3 (Ao h3 (Ao h3 (Ao h3 (Ao h3 (Ao h3 (Ao h3 (w_u (w_u (w_u (w_u (Ao h3 (Ca h3 (G8 q3 h3) rfl))))))))))))
 intro b3 q3
 exact Eg (by subst_vars; rfl)
end
section
open Go
variable {β : Type} {n : Nat} {r : Option β}
theorem Uc (s : ByteArray) (hs : s.size ≤ 140737488355328) (H : Ab) (K : KO β) : Ic 1 1 .nl (A3 s) H K = K (.sl H.length 0 s.size 1) (H ++ [⟨Bg s, true, true⟩]) := by
 have e1 : Cu H 1 (A3 s) = some (Bg s) := by
  show (if (Bg s).length = s.size * 1 then some (Bg s) else none) = _
  rw [if_pos (by rw [Ep]; omega)]
 have e2 : Cu H 1 .nl = some [] := rfl
 have e3 : G6 (A3 s) = some s.size := rfl
 simp only [Ic, G6, e1, e2, L9, zab, e3]
 rw [if_pos (by omega), if_pos (Vc s)]
 simp only [Fj, zaw, zae]
theorem U0 {H : Ab} {id d : Nat} {s : ByteArray} (h : H[id]? = some ⟨Bg s, true, true⟩) : B7 Ap E0.tp H (d + 2) 22 (.sl id 0 s.size 1) = some (A3 s, [id]) := by
 rw [Gb]
 have ha : Gi H id = true := by simp only [Gi, h]
 have hr : Aw H id 0 (s.size * 1) = some (Bg s) := by
  have hl := Ep s
  simp only [Aw, h, if_true, zaw, zbR, hl, zal, za4]
  rw [← hl, zaz]
 obtain ⟨i, j, h1, h2, h3, h4⟩ := Nr
 simp only [h1, h2, zab, h3, if_true, ha, hr]
 have ho := AaX (ti := Ap) (tp := E0.tp) (H := H) (d := d) (zad s.size j.cty).flatten (bv s) (by rw [AhF]; simp [h4])
 rw [J5, ho, zab, ← J5]
theorem Xg (n : Nat) (hn : 1 < n) (s : ByteArray) (hs : s.size ≤ 1048576) : Ct E0 (n + 1) 22 88 [.ro 1 [A3 s]] = some (A3 s) := by
 rw [A2, AiD, f88]
 simp only [B0]
 refine Do ?_
 obtain ⟨m, rfl⟩ : ∃ m, n = m + 2 := ⟨n - 2, by omega⟩
 rw [P6]
 simp only [Bf, Ay, B5, Bn, C6]
 refine A1 (v := bT) (fun k => rfl) (Fq rfl ?_)
 have e1 : ∀ K : AV → Option AV, Es 1 (.ro 1 [A3 s]) (.sc (.int .i64 0)) K = K (.rp [A3 s]) := fun K => Rr 1 1 [A3 s] 0 K (by decide) (by simp)
 rw [e1, Od, Uc s (by omega)]
 refine A1 (v := si 1) (fun k => rfl) ?_
 rw [P6]
 simp only [Bf, Ay]
 refine A1 (v := bF) (fun k => rfl) (F2 rfl ?_)
 rw [Be, U0 (d := 6) (s := s) rfl]
 rfl
theorem AgV {H : Ab} {id d : Nat} {m : Ch} (h : H[id]? = some ⟨Bg m.fBody, true, true⟩) : Cp (B7 Ap E0.tp H (d + 2)) Ej [.sc (.string m.fTopic), .sl id 0 m.fBody.size 1, .sc (.int .i64 m.fQos), .sc (.bool m.fRetain)] = some (Ak m, [id]) := by
 have hb := U0 (d := d) h
 simp only [Ej, Cp, Ja, hb, zab, zae, zam]
 rfl
theorem Td {H : Ab} {id : Nat} {m : Ch} (h : H[id]? = some ⟨Bg m.fBody, true, true⟩) : Be Ap E0.tp 33 H (.agg [.sc (.string m.fTopic), .sl id 0 m.fBody.size 1, .sc (.int .i64 m.fQos), .sc (.bool m.fRetain)]) = some (.agg (Ak m)) := by
 obtain ⟨i, hi, hc⟩ := Pt
 rw [Be, Ff, hi, zab, hc, AgV (d := 5) h]
 rfl
end
section
open Go
variable {β : Type} {n : Nat} {r : Option β}
theorem Ru (n : Nat) (m : Ch) (hs : m.fBody.size ≤ 1048576) : Ct E0 (n + 1) 33 101 [.agg (Ak m)] = some (.agg (Ak m)) := by
 rw [A2, AfJ, f101]
 simp only [Dh, C1, B8, Bn, C6, Bw, Bs, Kj]
 rw [N3 _ _ _ (Fu m)]
 simp only [zau, zae, zat, zaw]
 have hH : ([⟨Ak m, true, true⟩] ++ [⟨Fa, true, true⟩] : Ab)[0]? = some ⟨Ak m, true, true⟩ := rfl
 refine Ai (Bj (c := ss m.fTopic) hH (Bb rfl) rfl (Ai (Bj (c := A3 m.fBody) hH (Bb rfl) rfl (Ai (Bj (c := si m.fQos) hH (Bb rfl) rfl (Ai (Bj (c := sb m.fRetain) hH (Bb rfl) rfl ?_)))))))
 rw [Uc _ (by omega)]
 refine Na (cs := [ss m.fTopic, .sl 2 0 m.fBody.size 1, si m.fQos, sb m.fRetain]) rfl ?_
 rw [Hq 4 1 0 _ ⟨Fa, true, true⟩ [.sc (.string m.fTopic), .sl 2 0 m.fBody.size 1, .sc (.int .i64 m.fQos), .sc (.bool m.fRetain)] _ _ rfl rfl rfl (by decide) rfl]
 exact Iw (ds := [ss m.fTopic, .sl 2 0 m.fBody.size 1, si m.fQos, sb m.fRetain]) (cs := [ss m.fTopic, .sl 2 0 m.fBody.size 1, si m.fQos, sb m.fRetain]) rfl (zal _) rfl (Td rfl)
theorem Wu (n : Nat) (hn : 1 < n) (m : Ch) (hs : m.fBody.size ≤ 1048576) : Ct E0 (n + 2) 33 99 [.agg (Ak m)] = some (.agg (Ak m)) := by
 rw [A2, AiK, f99]
 simp only [Dh, C1, B8, Bn, C6, Bw, Bs, Bx, Kj]
 rw [N3 _ _ _ (Fu m)]
 simp only [zau, zae, zat, zaw]
 have hH : ([⟨Ak m, true, true⟩] ++ [⟨Fa, true, true⟩] : Ab)[0]? = some ⟨Ak m, true, true⟩ := rfl
 refine Ai (Bj (c := A3 m.fBody) hH (Bb rfl) rfl (Na (cs := [A3 m.fBody]) rfl ?_))
 simp only [Fj]
 rw [Gk (vs := [.ro 1 [A3 m.fBody]]) rfl rfl (Xg n hn m.fBody hs)]
 obtain ⟨i, j, h1, h2, h3, h4⟩ := Nr
 have hi : ∀ N, Br Ap E0.tp N 22 (A3 m.fBody) = (.sl N 0 m.fBody.size 1, [⟨Bg m.fBody, true, true⟩]) := by
  intro N
  show Br Ap E0.tp N 22 (.ro m.fBody.size (Bg m.fBody)) = _
  simp only [Br, h1, zab, h2, zaA, h3, J5, Sw]
 rw [hi]
 simp only
 refine Ai ?_
 rw [Hq 1 0 (0 + 1) _ ⟨Ak m, true, true⟩ [.sl 3 0 m.fBody.size 1] _ _ rfl rfl rfl (Bb rfl) rfl]
 refine Iw (ds := [ss m.fTopic, .sl 3 0 m.fBody.size 1, si m.fQos, sb m.fRetain]) (cs := [ss m.fTopic, .sl 3 0 m.fBody.size 1, si m.fQos, sb m.fRetain]) rfl (zal _) rfl ?_
 rw [Hq 4 1 0 _ ⟨Fa, true, true⟩ [.sc (.string m.fTopic), .sl 3 0 m.fBody.size 1, .sc (.int .i64 m.fQos), .sc (.bool m.fRetain)] _ _ rfl rfl rfl (by decide) rfl]
 exact Iw (ds := [ss m.fTopic, .sl 3 0 m.fBody.size 1, si m.fQos, sb m.fRetain]) (cs := [ss m.fTopic, .sl 3 0 m.fBody.size 1, si m.fQos, sb m.fRetain]) rfl (zal _) rfl (Td rfl)
theorem P2 {d w te g bytes k : Nat} {cty : List Nat} {H X0 : Ab} {x : AV} {cells cs z : List AV} {args vs : List AV} {K : KO β} (hx : OwnS d H w cty x k cells) (hh : Gg g = false) (hv : args.mapM (Dn (H ++ X0) 8) = some vs) (ht : Ct E0 n te g vs = some (.agg cs))
  (hte : ∃ i, Ap te = some i ∧ i.cty = cty) (hok : E5 (He Ap E0.tp d) cty cs) (hfl : cs.all Im = true) (hw : cs.length = w) (hz : z.length = w) (hb : (k + 1) * bytes ≤ 140737488355328) (h : ∀ x' H', OwnS d H' w cty x' (k + 1) (cells ++ cs) → K x' H' = r) :
  ((PR n β).call te (.fn g [] []) args (H ++ X0) fun t G => (Ft z [(0, w, t)]).bind fun ct => Fj 1 w ct true G fun y G => Ic w bytes x y G K) = r := by
 obtain ⟨i, hi, rfl⟩ := hte
 rw [Gk hh hv ht, Ia, hi, zaA]
 simp only
 have hlen := Jv (ti := Ap) (tp := E0.tp) (H ++ X0).length i.cty cs
 have hleaf := L8 (ti := Ap) (tp := E0.tp) cs (H ++ X0).length i.cty hfl
 have hf : Ft z [(0, w, .agg (Bu Ap E0.tp (H ++ X0).length i.cty cs).1)] = some (Bu Ap E0.tp (H ++ X0).length i.cty cs).1 := by
  have hc : Cz (.agg (Bu Ap E0.tp (H ++ X0).length i.cty cs).1) = some (Bu Ap E0.tp (H ++ X0).length i.cty cs).1 := by
   show (if _ then _ else none) = _
   rw [if_pos hleaf]
  have hs : Cf z 0 (Bu Ap E0.tp (H ++ X0).length i.cty cs).1 = (Bu Ap E0.tp (H ++ X0).length i.cty cs).1 := by
   unfold Cf
   rw [zbI, zae, zaX (by rw [hlen, hw, hz]; omega), zam]
  show ((Cz (.agg _)).bind fun cs => if cs.length = w then (if 0 + w ≤ z.length then Ft (Cf z 0 cs) [] else none) else none) = _
  rw [hc, zab, if_pos (by rw [hlen, hw]), if_pos (by omega), hs]
  rfl
 rw [hf, zab]
 have key := Aar (H := H) (X := X0 ++ (Bu Ap E0.tp (H ++ X0).length i.cty cs).2) (bytes := bytes) (er := (Bu Ap E0.tp (H ++ X0).length i.cty cs).1) (ec := cs) (eids := zbg (H ++ X0).length (Bu Ap E0.tp (H ++ X0).length i.cty cs).2.length) (K := K) (r := r) hx (by rw [hlen, hw]) hleaf (by
   have := AaY (d := d) (H := H ++ X0) hok
   rwa [zak] at this) zaS (fun j hj => by
   rw [zaJ] at hj
   have := hj.1
   simp at this
   omega) hb h
 rw [← zak] at key
 exact key
theorem Xi (n : Nat) (hn : 1048576 < n) (l : List Ch) (hl : l.length ≤ 1048576) (hs : ∀ x ∈ l, x.fBody.size ≤ 1048576) : ∀ (t pre : List Ch) (m : Nat) (x : AV) (H : Ab), l = pre ++ t → t.length < m → OwnS 7 H 4 Ej x pre.length (pre.map Ak).flatten →
  Lv (PR (n + 2) AV) (n + 2) (fun x H => Be Ap E0.tp 25 H x) m (Al Ak l) x (si pre.length) H = some (Al Ak l)
 | [], pre, m + 1, x, H, he, hm, hx => by
  rw [zam] at he
  subst he
  rw [Lv]
  simp only [B0, Bf, Ay]
  rw [Hi, Ed, Ds, if_neg (by simp)]
  obtain ⟨ids, ho, hno⟩ := Rx (d := 7) (tyS := 25) K1 hx
  rw [Be, ho, zab, if_pos hno]
 | y :: t, pre, m + 1, x, H, he, hm, hx => by
  have hlt : pre.length < l.length := by rw [he]; simp
  have hy : y ∈ l := by rw [he]; simp
  rw [Lv]
  simp only [B0, Bf, Ay, B5, Bn, Bw, Bx, C6]
  rw [Hi, Ed, Ds, if_pos (by simpa using hlt)]
  have hel := fun k => K9 (β := AV) Eb (by decide) pre y t k
  rw [← he] at hel
  rw [hel, O6 4 _ _ _ _ (Eb y)]
  have hst := fun K h => P2 (β := AV) (n := n + 2) (X0 := []) (bytes := 56) (z := Fa) (K := K) (r := some (Al Ak l)) hx rfl (Bk (Gr _ (Fu y)) Dw) (Ru (n + 1) y (hs y hy)) Pt (Io 5 y) (Fu y) (Eb y) rfl (by omega) h
  simp only [zam] at hst
  refine hst _ fun x' H' hx' => ?_
  rw [Ew _ _ (by omega)]
  have ih := Xi n hn l hl hs t (pre ++ [y]) m x' H' (by rw [he]; simp) (by simpa using hm) (by
   rw [zag, zap, za6, zay]
   simpa using hx')
  rw [zag, zap] at ih
  exact ih
theorem O3 (n : Nat) (hn : 1048576 < n) (l : List Ch) (hl : l.length ≤ 1048576) (hs : ∀ x ∈ l, x.fBody.size ≤ 1048576) : Ct E0 (n + 3) 25 100 [Al Ak l] = some (Al Ak l) := by
 rw [A2, AfI, f100]
 exact Xi n hn l hl hs l [] (n + 2) .nl [] rfl (by omega) (OwnS.nil _ _ _ _)
theorem Nw (n : Nat) (hn : 1048576 < n) (l : List Ch) (hl : l.length ≤ 1048576) (hs : ∀ x ∈ l, x.fBody.size ≤ 1048576) : ∀ (t pre : List Ch) (m : Nat) (x : AV) (H : Ab), l = pre ++ t → t.length < m → OwnS 7 H 4 Ej x pre.length (pre.map Ak).flatten →
  Ob (PR (n + 2) AV) (n + 2) (fun x H => Be Ap E0.tp 25 H x) m x (Al Ak l) (si l.length) (si pre.length) H = some (Al Ak l)
 | [], pre, m + 1, x, H, he, hm, hx => by
  rw [zam] at he
  subst he
  rw [Ob]
  simp only [B0, Bf, Ay]
  rw [Ed, Ds, if_neg (by simp)]
  obtain ⟨ids, ho, hno⟩ := Rx (d := 7) (tyS := 25) K1 hx
  rw [Be, ho, zab, if_pos hno]
 | y :: t, pre, m + 1, x, H, he, hm, hx => by
  have hlt : pre.length < l.length := by rw [he]; simp
  have hy : y ∈ l := by rw [he]; simp
  rw [Ob]
  simp only [B0, Bf, Ay, B5, Bn, Bw, Bx, C6, C1, Bs]
  rw [Ed, Ds, if_pos (by simpa using hlt)]
  have hel := fun k => K9 (β := AV) Eb (by decide) pre y t k
  rw [← he] at hel
  rw [hel, O6 4 _ _ _ _ (Eb y)]
  refine Qc rfl (Eb _) (L7 (Fu _)) fun i hi => S6 hi (Eb _) (P2 (β := AV) (n := n + 2) (X0 := [⟨Ak y, true, true⟩]) (bytes := 56) (z := Fa) (r := some (Al Ak l)) hx rfl (Bk (Gr _ (Fu y)) Dw) (Wu n (by omega) y (hs y hy)) Pt (Io 5 y) (Fu y) (Eb y) rfl (by omega) fun x' H' hx' => ?_)
  rw [Ew _ _ (by omega)]
  have ih := Nw n hn l hl hs t (pre ++ [y]) m x' H' (by rw [he]; simp) (by simpa using hm) (by
   rw [zag, zap, za6, zay]
   simpa using hx')
  rw [zag, zap] at ih
  exact ih
theorem P1 (n : Nat) (hn : 1048576 < n) (l : List Ch) (hl : l.length ≤ 1048576) (hs : ∀ x ∈ l, x.fBody.size ≤ 1048576) : Ct E0 (n + 3) 25 98 [Al Ak l] = some (Al Ak l) := by
 rw [A2, AiJ, f98]
 simp only [B0]
 exact Do (Nw n hn l hl hs l [] (n + 2) .nl [] rfl (by omega) (OwnS.nil _ _ _ _))
end
section
open Go
def OwnSI (d : Nat) (H : Ab) (w : Nat) (cty : List Nat) (x : AV) (k : Nat) (cells : List AV) (ids : List Nat) : Prop :=
 (x = .nl ∧ k = 0 ∧ cells = [] ∧ ids = []) ∨ ∃ id raw is, ids = id :: is ∧ x = .sl id 0 k w ∧ H[id]? = some ⟨raw, true, true⟩ ∧ raw.length = k * w ∧ OwnC d H (zad k cty).flatten raw cells is ∧ (id :: is).Nodup
theorem OwnSI.nil (d : Nat) (H : Ab) (w : Nat) (cty : List Nat) : OwnSI d H w cty .nl 0 [] [] := .inl ⟨rfl, rfl, rfl, rfl⟩
theorem OwnSI.lt {d : Nat} {H : Ab} {w : Nat} {cty : List Nat} {x : AV} {k : Nat} {cells : List AV} {ids : List Nat} (h : OwnSI d H w cty x k cells ids) : ∀ i ∈ ids, i < H.length := by
 rcases h with ⟨_, _, _, rfl⟩ | ⟨id, raw, is, rfl, _, h2, _, h4, _⟩
 ·intro i hi
  cases hi
 ·intro i hi
  rcases za2.1 hi with rfl | hi
  ·exact (zac.1 h2).1
  ·exact h4.lt i hi
theorem OwnSI.nodup {d : Nat} {H : Ab} {w : Nat} {cty : List Nat} {x : AV} {k : Nat} {cells : List AV} {ids : List Nat} (h : OwnSI d H w cty x k cells ids) : ids.Nodup := by
 rcases h with ⟨_, _, _, rfl⟩ | ⟨id, raw, is, rfl, _, h2, _, h4, h5⟩
 ·exact zb9
 ·exact h5
theorem OwnSI.frame {d : Nat} {H H' : Ab} {w : Nat} {cty : List Nat} {x : AV} {k : Nat} {cells : List AV} {ids : List Nat} (h : OwnSI d H w cty x k cells ids) (hs : ∀ i ∈ ids, H'[i]? = H[i]?) : OwnSI d H' w cty x k cells ids := by
 rcases h with h | ⟨id, raw, is, rfl, h1, h2, h3, h4, h5⟩
 ·exact .inl h
 ·exact .inr ⟨id, raw, is, rfl, h1, by rw [hs id za9]; exact h2, h3, h4.frame fun i hi => hs i (zav _ hi), h5⟩
theorem OwnSI.grow {d : Nat} {H : Ab} {w : Nat} {cty : List Nat} {x : AV} {k : Nat} {cells : List AV} {ids : List Nat} (h : OwnSI d H w cty x k cells ids) (X : List Hr) : OwnSI d (H ++ X) w cty x k cells ids :=
 h.frame fun i hi => zai (h.lt i hi)
theorem OwnSI.res {H : Ab} {d w tyS k : Nat} {cty : List Nat} {x : AV} {cells : List AV} {ids : List Nat} (h : OwnSI d H w cty x k cells ids) (hty : ∃ i j, Ap tyS = some i ∧ Ap i.elem = some j ∧ j.size = w ∧ j.cty = cty) : B7 Ap E0.tp H (d + 1) tyS x = some (.ro k cells, ids) := by
 rcases h with ⟨rfl, rfl, rfl, rfl⟩ | ⟨id, raw, is, rfl, rfl, h2, h3, h4, h5⟩
 ·rfl
 ·obtain ⟨i, j, e1, e2, rfl, rfl⟩ := hty
  rw [Gb]
  have ha : Gi H id = true := by simp only [Gi, h2]
  have hr : Aw H id 0 (k * j.size) = some raw := by
   simp only [Aw, h2, if_true, zaw, h3, zal, za4]
   rw [← h3, zaz]
  have h4' : Cp (B7 Ap E0.tp H d) (zad k j.cty).flatten raw = some (cells, is) := h4
  simp only [e1, e2, zab, if_true, ha, hr, h4']
variable {β : Type} {n : Nat} {r : Option β}
theorem AcP {d : Nat} {H X : Ab} {w bytes : Nat} {cty : List Nat} {x : AV} {k : Nat} {cells er ec : List AV} {ids eids : List Nat} {K : KO β} (hx : OwnSI d H w cty x k cells ids) (hw : er.length = w) (hl : er.all Ar = true)
  (he : OwnC d (H ++ X) cty er ec eids) (hn : eids.Nodup) (hge : ∀ i ∈ eids, H.length ≤ i) (hb : (k + 1) * bytes ≤ 140737488355328)
  (h : ∀ x' H' ids', OwnSI d H' w cty x' (k + 1) (cells ++ ec) ids' → (∀ i ∈ ids', i ∈ ids ∨ H.length ≤ i) → (∀ i, i < H.length → i ∉ ids → H'[i]? = H[i]?) → H.length ≤ H'.length → K x' H' = r) :
  Fj 1 w er true (H ++ X) (fun y G => Ic w bytes x y G K) = r := by
 have hy : ∀ G : Ab, Cu (G ++ [⟨er, true, true⟩]) w (.sl G.length 0 1 w) = some er := by
  intro G
  simp only [Cu, if_true, zbt, Aw, Kx G _ [], zaw, hw, zal, za4]
  rw [← hw, zaz]
 rcases hx with ⟨rfl, rfl, rfl, rfl⟩ | ⟨id, raw, is, rfl, rfl, h2, h3, h4, h5⟩
 ·simp only [Fj, Ic, G6, zab, hy]
  rw [show Cu (H ++ X ++ [⟨er, true, true⟩]) w .nl = some [] from rfl]
  simp only [zab, L9]
  rw [if_pos hb, if_pos hl]
  refine h _ _ (_ :: eids) (.inr ⟨_, er, eids, rfl, rfl, ?_, by simp [hw], ?_, ?_⟩) (fun i hi => .inr ?_) (fun i hi _ => ?_) (by simp)
  ·rw [zaf (zal _), zaN]
   rfl
  ·simp only [zaw, List.replicate_one, zaH, List.flatten_nil, zam, zae]
   exact (he.grow _).grow _
  ·rw [zaF]
   refine ⟨fun hm => ?_, hn⟩
   have := he.lt _ hm
   simp at this
   omega
  ·rcases za2.1 hi with rfl | hi
   ·simp [zaQ]
   ·exact hge i hi
  ·rw [zak, zak, zai hi]
 ·have hid : id < H.length := (zac.1 h2).1
  have hg : (H ++ X ++ [(⟨er, true, true⟩ : Hr)])[id]? = some ⟨raw, true, true⟩ := by
   rw [zak, zai hid]
   exact h2
  have hcx : Cu (H ++ X ++ [⟨er, true, true⟩]) w (.sl id 0 k w) = some raw := by
   simp only [Cu, if_true, Aw, hg, zaw, h3, zal, za4]
   rw [← h3, zaz]
  simp only [Fj, Ic, G6, zab, hy, hcx, L9, hg, if_true]
  rw [if_pos hb, if_pos hl]
  have hn5 := zaF.1 h5
  have hne : ∀ i ∈ is, i ≠ id := fun i hi e => hn5.1 (e ▸ hi)
  have hne2 : ∀ i ∈ eids, i ≠ id := fun i hi e => by
   have := hge i hi
   omega
  refine h _ _ (_ :: (is ++ eids)) (.inr ⟨_, raw ++ er, is ++ eids, rfl, rfl, ?_, by simp [h3, hw, zbS], ?_, ?_⟩) (fun i hi => ?_) (fun i hi hni => ?_) (by simp; omega)
  ·rw [zaf (zal _), zaN]
   rfl
  ·have e : (zad (k + 1) cty).flatten = (zad k cty).flatten ++ cty := by
    rw [zbH, zay]
    simp
   rw [e]
   refine OwnC.append ?_ ?_
   ·refine OwnC.grow (OwnC.frame (H := H ++ X ++ [⟨er, true, true⟩]) ((h4.grow X).grow _) fun i hi => ?_) _
    rw [za0 (fun e => hne i hi e.symm)]
   ·refine OwnC.grow (OwnC.frame (H := H ++ X ++ [⟨er, true, true⟩]) (he.grow _) fun i hi => ?_) _
    rw [za0 (fun e => hne2 i hi e.symm)]
  ·rw [zaF]
   refine ⟨fun hm => ?_, ?_⟩
   ·rcases zaL.1 hm with hm | hm
    ·have := h4.lt _ hm
     simp at this
     omega
    ·have := he.lt _ hm
     simp at this
     omega
   ·rw [zaO]
    refine ⟨hn5.2, hn, fun a ha b hb e => ?_⟩
    have h1 := h4.lt a ha
    have h2 := hge b hb
    omega
  ·rcases za2.1 hi with rfl | hi
   ·right
    simp [zaQ]
   ·rcases zaL.1 hi with hi | hi
    ·exact .inl (zav _ hi)
    ·exact .inr (hge i hi)
  ·have : i ≠ id := fun e => hni (e ▸ za9)
   rw [zai (by simp; omega), za0 (fun e => this e.symm), zak, zai hi]
theorem AeC {w : Nat} {z ys : List AV} (hz : z.length = w) (hy : ys.length = w) (hl : ys.all Ar = true) : Ft z [(0, w, .agg ys)] = some ys := by
 have hc : Cz (.agg ys) = some ys := by
  show (if ys.all Ar then some ys else none) = _
  rw [if_pos hl]
 have hs : Cf z 0 ys = ys := by
  unfold Cf
  rw [zbI, zae, zaX (by rw [hy, hz]; omega), zam]
 show ((Cz (.agg ys)).bind fun cs => if cs.length = w then (if 0 + w ≤ z.length then Ft (Cf z 0 cs) [] else none) else none) = _
 rw [hc, zab, if_pos hy, if_pos (by omega), hs]
 rfl
end
section
open Go
variable {β : Type} {n : Nat} {r : Option β}
theorem Ahm {α : Type} {w : Nat} {enc : α → List AV} {l pre t : List α} {x : α} {K : AV → Option β} (hw : ∀ x, (enc x).length = w) (h0 : 0 < w) (hl : l = pre ++ x :: t) (h : K (.rp (enc x ++ (t.map enc).flatten)) = r) : Es w (Al enc l) (.sc (.int .i64 (pre.length : Int))) (fun t => K t) = r := by
 subst hl
 exact (K9 (β := β) hw h0 pre x t (fun t => K t)).trans h
theorem AeU (N : Nat) (s : ByteArray) : Br Ap E0.tp N 22 (A3 s) = (.sl N 0 s.size 1, [⟨Bg s, true, true⟩]) := by
 obtain ⟨i, j, h1, h2, h3, h4⟩ := Nr
 show Br Ap E0.tp N 22 (.ro s.size (Bg s)) = _
 simp only [Br, h1, zab, h2, zaA, h3, J5, Sw]
theorem AeV (N : Nat) (m : Ch) : Bu Ap E0.tp N Ej (Ak m) = ([.sc (.string m.fTopic), .sl N 0 m.fBody.size 1, .sc (.int .i64 m.fQos), .sc (.bool m.fRetain)], [⟨Bg m.fBody, true, true⟩]) := by
 have h := AeU N m.fBody
 show Bu Ap E0.tp N [9, 22, 3, 4] [.sc (.string m.fTopic), A3 m.fBody, .sc (.int .i64 m.fQos), .sc (.bool m.fRetain)] = _
 simp only [Bu, zb3, zb8, Hy, zau, zbf, h, zae, zam]
theorem Ks (N : Nat) (f : Ae) : Bu Ap E0.tp N Gs (Aq f) = ([.sc (.int .i64 f.fId), .sc (.string f.fM.fTopic), .sl N 0 f.fM.fBody.size 1, .sc (.int .i64 f.fM.fQos), .sc (.bool f.fM.fRetain), .sc (.int .i64 f.fSt)], [⟨Bg f.fM.fBody, true, true⟩]) := by
 have h := AeU N f.fM.fBody
 show Bu Ap E0.tp N [3, 9, 22, 3, 4, 3] [.sc (.int .i64 f.fId), .sc (.string f.fM.fTopic), A3 f.fM.fBody, .sc (.int .i64 f.fM.fQos), .sc (.bool f.fM.fRetain), .sc (.int .i64 f.fSt)] = _
 simp only [Bu, zb3, zb8, Hy, zau, zbf, h, zae, zam]
theorem Q5 {te g k : Nat} {H X0 : Ab} {x : AV} {cells : List AV} {ids : List Nat} {args : List AV} {f : Ae} {K : KO β} (hx : OwnSI 6 H 6 Gs x k cells ids) (hh : Gg g = false) (hv : args.mapM (Dn (H ++ X0) 8) = some [.agg (Ak f.fM)]) (ht : Ct E0 n te g [.agg (Ak f.fM)] = some (.agg (Ak f.fM)))
  (hte : ∃ i, Ap te = some i ∧ i.cty = Ej) (hb : (k + 1) * 72 ≤ 140737488355328)
  (h : ∀ x' H' ids', OwnSI 6 H' 6 Gs x' (k + 1) (cells ++ Aq f) ids' → (∀ i ∈ ids', i ∈ ids ∨ H.length ≤ i) → (∀ i, i < H.length → i ∉ ids → H'[i]? = H[i]?) → H.length ≤ H'.length → K x' H' = r) :
  ((PR n β).call te (.fn g [] []) args (H ++ X0) fun t G => (Ft T4 [(0, 1, si f.fId), (1, 4, t), (5, 1, si f.fSt)]).bind fun c => (Ft T4 [(0, 6, .agg c)]).bind fun ct => Fj 1 6 ct true G fun y G => Ic 6 72 x y G K) = r := by
 obtain ⟨i, hi, hc⟩ := hte
 rw [Gk hh hv ht, Ia, hi, zaA, hc, AeV]
 simp only
 have hf : Ft T4 [(0, 1, si f.fId), (1, 4, .agg [ss f.fM.fTopic, .sl (H ++ X0).length 0 f.fM.fBody.size 1, si f.fM.fQos, sb f.fM.fRetain]), (5, 1, si f.fSt)] = some [si f.fId, ss f.fM.fTopic, .sl (H ++ X0).length 0 f.fM.fBody.size 1, si f.fM.fQos, sb f.fM.fRetain, si f.fSt] := rfl
 rw [hf, zab, AeC (w := 6) rfl rfl rfl, zab]
 have key := AcP (H := H) (X := X0 ++ [⟨Bg f.fM.fBody, true, true⟩]) (bytes := 72) (er := (Bu Ap E0.tp (H ++ X0).length Gs (Aq f)).1) (ec := Aq f) (eids := zbg (H ++ X0).length (Bu Ap E0.tp (H ++ X0).length Gs (Aq f)).2.length) (K := K) (r := r) hx (by rw [Ks]; rfl) (by rw [Ks]; rfl) (by
   have := AaY (d := 6) (H := H ++ X0) (Qi 4 f)
   rw [Ks] at this ⊢
   rwa [zak] at this) zaS (fun j hj => by
   rw [zaJ] at hj
   have := hj.1
   simp at this
   omega) hb h
 rw [Ks, ← zak] at key
 exact key
structure OutI (H : Ab) (io i2 i1 : Nat) (o : Bm) (x q : AV) (k : Nat) (cells : List AV) (ids qids : List Nat) : Prop where
 ho : H[io]? = some ⟨[si o.fLast, x, q], true, true⟩
 hs : OwnSI 6 H 6 Gs x k cells ids
 hq : B7 Ap E0.tp H 7 25 q = some (Al Ak o.fQ, qids)
 qn : qids.Nodup
 hz : ∃ z2, H[i2]? = some ⟨z2, true, true⟩ ∧ z2.length = 3
 src : H[i1]? = some ⟨Bl o, true, true⟩
 ne : io ≠ i2
 ne1 : i1 ≠ io
 ne2 : i1 ≠ i2
 o1 : io ∉ ids
 o2 : io ∉ qids
 z1 : i2 ∉ ids
 z2 : i2 ∉ qids
 s1 : i1 ∉ ids
 dj : ∀ i ∈ qids, i ∉ ids
theorem OutI.lt {H : Ab} {io i2 i1 : Nat} {o : Bm} {x q : AV} {k : Nat} {cells : List AV} {ids qids : List Nat} (h : OutI H io i2 i1 o x q k cells ids qids) : io < H.length ∧ i2 < H.length ∧ i1 < H.length ∧ ∀ i ∈ qids, i < H.length := by
 obtain ⟨z2, hz, _⟩ := h.hz
 exact ⟨(zac.1 h.ho).1, (zac.1 hz).1, (zac.1 h.src).1, Ky 7 _ _ _ h.hq⟩
theorem OutI.put {H H' : Ab} {io i2 i1 : Nat} {o : Bm} {x x' q : AV} {k : Nat} {cells ec : List AV} {ids ids' qids : List Nat} {K : Ab → Option β} (h : OutI H io i2 i1 o x q k cells ids qids)
  (h1 : OwnSI 6 H' 6 Gs x' (k + 1) (cells ++ ec) ids') (h2 : ∀ i ∈ ids', i ∈ ids ∨ H.length ≤ i) (h3 : ∀ i, i < H.length → i ∉ ids → H'[i]? = H[i]?) (hk : ∀ H'', OutI H'' io i2 i1 o x' q (k + 1) (cells ++ ec) ids' qids → K H'' = r) :
  Ev 1 (.ptr io (0 + 1)) x' H' K = r := by
 obtain ⟨l1, l2, l3, l4⟩ := h.lt
 have hlf : Cz x' = some [x'] := by
  rcases h1 with ⟨_, h0, _⟩ | ⟨id, raw, is, _, rfl, _⟩
  omega
  rfl
 have ho : H'[io]? = some ⟨[.sc (.int .i64 o.fLast), x, q], true, true⟩ := by rw [h3 io l1 h.o1]; exact h.ho
 have hio : io < H'.length := (zac.1 ho).1
 rw [Hq 1 io (0 + 1) x' _ [x'] H' K ho hlf rfl (Bb rfl) rfl]
 have hni : io ∉ ids' := fun hm => by
  rcases h2 io hm with h' | h'
  exact h.o1 h'
  omega
 refine hk _ ⟨?_, ?_, ?_, h.qn, ?_, ?_, h.ne, h.ne1, h.ne2, hni, h.o2, ?_, h.z2, ?_, ?_⟩
 rw [zaR hio]
 rfl
 refine h1.frame fun i hi => ?_
 rw [za0 (fun (e : io = i) => hni (e ▸ hi))]
 refine Dg 7 _ _ _ h.hq fun i hi => ?_
 rw [za0 (fun (e : io = i) => h.o2 (e ▸ hi)), h3 i (l4 i hi) (h.dj i hi)]
 obtain ⟨z2, hz, hl⟩ := h.hz
 exact ⟨z2, by rw [za0 h.ne, h3 i2 l2 h.z1]; exact hz, hl⟩
 rw [za0 (fun e => h.ne1 e.symm), h3 i1 l3 h.s1]
 exact h.src
 intro hm
 rcases h2 i2 hm with h' | h'
 exact h.z1 h'
 omega
 intro hm
 rcases h2 i1 hm with h' | h'
 exact h.s1 h'
 omega
 intro i hi hm
 rcases h2 i hm with h' | h'
 exact h.dj i hi h'
 have := l4 i hi
 omega
theorem OutI.fin {H : Ab} {io i2 i1 : Nat} {o : Bm} {x q : AV} {ids qids : List Nat} (h : OutI H io i2 i1 o x q o.fFl.length (o.fFl.map Aq).flatten ids qids) :
  (Cs true 3 (.ptr io 0) H fun t => Ev 3 (.ptr i2 0) t H fun H => Cs true 3 (.ptr i2 0) H fun r0 => Be Ap E0.tp 27 H r0) = some (.agg (Bl o)) := by
 obtain ⟨l1, l2, l3, l4⟩ := h.lt
 obtain ⟨z2, hz, hzl⟩ := h.hz
 have hx : Ar x = true := by
  rcases h.hs with ⟨rfl, _⟩ | ⟨id, raw, is, _, rfl, _⟩ <;> rfl
 have hq : Ar q = true := by
  have := h.hq
  cases q with
  | sc v => cases this
  | nl => rfl
  | sl => rfl
  | agg cs =>
   rw [Ff] at this
   simp only [zaa] at this
   obtain ⟨_, _, _, _, h3⟩ := this
   cases h3
  | tup cs =>
   rw [Gc] at this
   simp only [zaa] at this
   obtain ⟨_, _, _, _, h3⟩ := this
   cases h3
  | _ => simp [B7] at this
 refine Iw (ds := [si o.fLast, x, q]) h.ho (Bb rfl) rfl ?_
 have hc : Cz (.agg [si o.fLast, x, q]) = some [si o.fLast, x, q] := by
  show (if (true && (Ar x && (Ar q && true))) = true then _ else none) = _
  rw [hx, hq]
  rfl
 rw [Hq 3 i2 0 _ ⟨z2, true, true⟩ [.sc (.int .i64 o.fLast), x, q] H _ hz hc rfl (by show 0 + 3 ≤ z2.length; omega) rfl]
 have hs : Cf z2 0 [si o.fLast, x, q] = [si o.fLast, x, q] := by
  unfold Cf
  rw [zbI, zae, zaX (by rw [hzl]; exact zal _), zam]
 simp only [hs]
 refine Iw (ds := [.sc (.int .i64 o.fLast), x, q]) (cs := [.sc (.int .i64 o.fLast), x, q]) (by rw [zaR l2]) (Bb rfl) rfl ?_
 have e1 := (h.hs.frame (H' := H.set i2 ⟨[.sc (.int .i64 o.fLast), x, q], true, true⟩) fun i hi => by rw [za0 (fun (e : i2 = i) => h.z1 (e ▸ hi))]).res U9
 have e2 := Dg (H' := H.set i2 ⟨[.sc (.int .i64 o.fLast), x, q], true, true⟩) 7 _ _ _ h.hq fun i hi => by rw [za0 (fun (e : i2 = i) => h.z2 (e ▸ hi))]
 obtain ⟨i, hi, hcy⟩ := Afy
 rw [Be, Ff, hi, zab, hcy]
 simp only [R9, Cp, Ja, e1, e2, zab, zae, zam]
 rw [if_pos]
 rfl
 rw [zaO]
 exact ⟨h.hs.nodup, h.qn, fun a ha b hb e => h.dj b hb (e ▸ ha)⟩
def Og (o : Bm) : Prop := (o.fFl.length ≤ 1048576 ∧ ∀ x ∈ o.fFl, x.fM.fBody.size ≤ 1048576) ∧ (o.fQ.length ≤ 1048576 ∧ ∀ x ∈ o.fQ, x.fBody.size ≤ 1048576)
theorem S0 (n : Nat) (hn : 1048576 < n) (o : Bm) (hs : Og o) (io i2 i1 : Nat) (q : AV) (qids : List Nat) : ∀ (t pre : List Ae) (m : Nat) (x : AV) (H : Ab) (ids : List Nat), o.fFl = pre ++ t → t.length < m → OutI H io i2 i1 o x q pre.length (pre.map Aq).flatten ids qids →
  P5 (PR (n + 3) AV) (n + 3) (fun x H => Be Ap E0.tp 27 H x) m (.ptr i1 0) (.ptr i2 0) (.ptr io 0) (si pre.length) H = some (.agg (Bl o))
 | [], pre, m + 1, x, H, ids, he, hm, hi => by
  rw [zam] at he
  show (PR (n + 3) AV).fadr _ _ _ = _
  simp only [B8, Bn, B0, Bf, Ay, Bs]
  refine Ai (Bj (c := Al Aq o.fFl) hi.src (Bb rfl) rfl (Do ?_))
  rw [Ed, Ds, if_neg (by rw [he]; simp)]
  subst he
  exact hi.fin
 | y :: t, pre, m + 1, x, H, ids, he, hm, hi => by
  have hlt : pre.length < o.fFl.length := by rw [he]; simp
  have hy : y.fM.fBody.size ≤ 1048576 := hs.1.2 y (by rw [he]; simp)
  have hlen := hs.1.1
  show (PR (n + 3) AV).fadr _ _ _ = _
  simp only [B8, Bn, B0, Bf, Ay, Bs, B5, Bw, Bx, C6]
  refine Ai (Bj (c := Al Aq o.fFl) hi.src (Bb rfl) rfl (Do ?_))
  rw [Ed, Ds, if_pos (by simpa using hlt)]
  refine Ai (Bj (c := x) hi.ho (Bb rfl) rfl (Ai (Bj (c := Al Aq o.fFl) hi.src (Bb rfl) rfl (Ahm Ba (by decide) he (Hp (Kw (c := si y.fId) rfl (Ai (Bj (c := Al Aq o.fFl) hi.src (Bb rfl) rfl (Ahm Ba (by decide) he (Hp (Ki (ds := Ak y.fM) (Bb rfl) rfl (Ai (Bj (c := Al Aq o.fFl) hi.src (Bb rfl) rfl (Ahm Ba (by decide) he (Hp (Kw (c := si y.fSt) rfl ?_))))))))))))))))
  have hst := fun K h => Q5 (β := AV) (n := n + 3) (X0 := []) (f := y) (K := K) (r := some (.agg (Bl o))) hi.hs rfl (Bk (Gr _ (Fu _)) Dw) (Ru (n + 2) y.fM hy) Pt (by omega) h
  simp only [zam] at hst
  refine hst _ fun x' H' ids' h1 h2 h3 h4 => Ai (hi.put h1 h2 h3 fun H'' hi' => ?_)
  rw [Ew _ _ (by omega)]
  have ih := S0 n hn o hs io i2 i1 q qids t (pre ++ [y]) m x' H'' ids' (by rw [he]; simp) (by simpa using hm) (by
   rw [zag, zap, za6, zay]
   simpa using hi')
  rw [zag, zap] at ih
  exact ih
theorem Lu (n : Nat) (hn : 1048576 < n) (o : Bm) (hs : Og o) (io i2 i1 : Nat) (q : AV) (qids : List Nat) : ∀ (t pre : List Ae) (m : Nat) (x : AV) (H : Ab) (ids : List Nat), o.fFl = pre ++ t → t.length < m → OutI H io i2 i1 o x q pre.length (pre.map Aq).flatten ids qids →
  P4 (PR (n + 3) AV) (n + 3) (fun x H => Be Ap E0.tp 27 H x) m (.ptr i2 0) (.ptr io 0) (Al Aq o.fFl) (si o.fFl.length) (si pre.length) H = some (.agg (Bl o))
 | [], pre, m + 1, x, H, ids, he, hm, hi => by
  rw [zam] at he
  show (PR (n + 3) AV).bin _ _ _ _ = _
  simp only [B8, Bn, B0, Bf, Ay, Bs]
  rw [Ed, Ds, if_neg (by rw [he]; simp)]
  subst he
  exact hi.fin
 | y :: t, pre, m + 1, x, H, ids, he, hm, hi => by
  have hlt : pre.length < o.fFl.length := by rw [he]; simp
  have hy : y.fM.fBody.size ≤ 1048576 := hs.1.2 y (by rw [he]; simp)
  have hlen := hs.1.1
  obtain ⟨l1, l2, l3, l4⟩ := hi.lt
  show (PR (n + 3) AV).bin _ _ _ _ = _
  simp only [B8, Bn, B0, Bf, Ay, Bs, B5, Bw, Bx, C6, C1]
  rw [Ed, Ds, if_pos (by simpa using hlt)]
  refine Ahm Ba (by decide) he (Ki (ds := Aq y) (Bb rfl) rfl (Qc rfl (Ba _) (L7 (Ee _)) fun i5 h5 => Ai (Bj (c := x) (Jd hi.ho _) (Bb rfl) rfl (Ai (Bj (c := si y.fId) h5 (Bb rfl) rfl (Ai (Iw (ds := Ak y.fM) h5 (Bb rfl) rfl (Ai (Bj (c := si y.fSt) h5 (Bb rfl) rfl (Q5 (β := AV) (n := n + 3) (X0 := [⟨Aq y, true, true⟩]) (f := y) (r := some (.agg (Bl o))) hi.hs rfl (Bk (Gr _ (Fu _)) Dw) (Wu (n + 1) (by omega) y.fM hy) Pt (by omega) fun x' H' ids' h1 h2 h3 h4 => Ai (hi.put h1 h2 h3 fun H'' hi' => ?_)))))))))))
  rw [Ew _ _ (by omega)]
  have ih := Lu n hn o hs io i2 i1 q qids t (pre ++ [y]) m x' H'' ids' (by rw [he]; simp) (by simpa using hm) (by
   rw [zag, zap, za6, zay]
   simpa using hi')
  rw [zag, zap] at ih
  exact ih
theorem Aff (o : Bm) (A : AV × List Hr) (hA : Br Ap E0.tp 2 25 (Al Ak o.fQ) = A) : OutI (([⟨Bl o, true, true⟩, ⟨Cv, true, true⟩] ++ A.2 ++ [⟨Cv, true, true⟩] : Ab).set (2 + A.2.length) ⟨[.sc (.int .i64 o.fLast), .nl, A.1], true, true⟩) (2 + A.2.length) 1 0 o .nl A.1 0 [] [] (zbg 2 A.2.length) := by
 have hlen : ([⟨Bl o, true, true⟩, ⟨Cv, true, true⟩] ++ A.2 : Ab).length = 2 + A.2.length := by simp; omega
 have e : ([⟨Bl o, true, true⟩, ⟨Cv, true, true⟩] ++ A.2 ++ [⟨Cv, true, true⟩] : Ab).set (2 + A.2.length) ⟨[si o.fLast, .nl, A.1], true, true⟩ = [⟨Bl o, true, true⟩, ⟨Cv, true, true⟩] ++ A.2 ++ [⟨[si o.fLast, .nl, A.1], true, true⟩] := by
  rw [← hlen]
  exact Aac _ _ _ []
 rw [e]
 refine ⟨?_, OwnSI.nil _ _ _ _, ?_, zaS, ⟨Cv, rfl, rfl⟩, rfl, by omega, by omega, by decide, by simp, ?_, by simp, ?_, by simp, by simp⟩
 rw [← hlen]
 exact Kx _ _ []
 rw [← hA]
 refine Ge 7 _ _ 2 (Ip (d := 6) Eb K1 (Io 4) o.fQ) ?_
 rw [hA]
 exact Nb [(⟨Bl o, true, true⟩ : Hr), ⟨Cv, true, true⟩] A.2 _
 rw [zaJ]; omega
 rw [zaJ]; omega
theorem Afg (o : Bm) (A : AV × List Hr) (hA : Br Ap E0.tp 3 25 (Al Ak o.fQ) = A) : OutI (([⟨Bl o, true, true⟩, ⟨Cv, true, true⟩, ⟨Cv, true, true⟩] ++ A.2 : Ab).set 2 ⟨[.sc (.int .i64 o.fLast), .nl, A.1], true, true⟩) 2 1 0 o .nl A.1 0 [] [] (zbg 3 A.2.length) := by
 refine ⟨rfl, OwnSI.nil _ _ _ _, ?_, zaS, ⟨Cv, rfl, rfl⟩, rfl, by decide, by decide, by decide, by simp, ?_, by simp, ?_, by simp, by simp⟩
 rw [← hA]
 refine Ge 7 _ _ 3 (Ip (d := 6) Eb K1 (Io 4) o.fQ) ?_
 rw [hA]
 exact Jc [(⟨Bl o, true, true⟩ : Hr), ⟨Cv, true, true⟩, (⟨[si o.fLast, .nl, A.1], true, true⟩ : Hr)] A.2
 rw [zaJ]; omega
 rw [zaJ]; omega
theorem Nh (N : Nat) (o : Bm) : Ar (Br Ap E0.tp N 25 (Al Ak o.fQ)).1 = true := rfl
theorem Sz (n : Nat) (hn : 1048576 < n) (o : Bm) (hs : Og o) : Ct E0 (n + 4) 27 64 [.agg (Bl o)] = some (.agg (Bl o)) := by
 rw [A2, Aiy, f64]
 simp only [Dh, C1, B8, Bn, Aam, Bw, Bs, Kj]
 rw [N3 _ _ _ (Hg o)]
 simp only [zau, zae, zat, zaw]
 have hz : ([⟨[i0, .nl, .nl], true, true⟩] : Ab) = [⟨Cv, true, true⟩] := rfl
 rw [hz]
 have hH : ([⟨Bl o, true, true⟩] ++ [⟨Cv, true, true⟩] : Ab)[0]? = some ⟨Bl o, true, true⟩ := rfl
 refine Ai (Bj (c := si o.fLast) hH (Bb rfl) rfl (Ai (Bj (c := Al Ak o.fQ) hH (Bb rfl) rfl (Pe ?_ ?_))))
 rw [Gk (vs := [Al Ak o.fQ]) rfl (Bk (Ei _ _ _) Dw) (O3 n hn o.fQ hs.2.1 hs.2.2)]
 have hl := Nh 2 o
 generalize hA : Br Ap E0.tp 2 25 (Al Ak o.fQ) = A at hl
 have hA' : Br Ap E0.tp ([⟨Bl o, true, true⟩] ++ [⟨Cv, true, true⟩] : Ab).length 25 (Al Ak o.fQ) = A := hA
 rw [hA']
 have hc1 : Cz A.1 = some [A.1] := by
  generalize A.1 = y at hl
  cases y <;> first | (simp [Ar] at hl; done) | (simp only [Cz, hl, if_true]) | rfl
 refine Na (cs := [.sc (.int .i64 o.fLast), .nl, A.1]) (by simp only [Ft, hc1]; rfl) ?_
 have hlen : ([⟨Bl o, true, true⟩] ++ [⟨Cv, true, true⟩] ++ A.2 : Ab).length = 2 + A.2.length := by simp; omega
 have hg : ([⟨Bl o, true, true⟩] ++ [⟨Cv, true, true⟩] ++ A.2 ++ [⟨Cv, true, true⟩] : Ab)[2 + A.2.length]? = some ⟨Cv, true, true⟩ := by
  rw [← hlen]
  exact Kx _ _ []
 have hc : Cz (.agg [si o.fLast, .nl, A.1]) = some [si o.fLast, .nl, A.1] := by
  show (if (true && (true && (Ar A.1 && true))) = true then _ else none) = _
  rw [hl]
  rfl
 rw [hlen, Hq 3 (2 + A.2.length) 0 _ ⟨Cv, true, true⟩ [.sc (.int .i64 o.fLast), .nl, A.1] _ _ hg hc rfl (Bb rfl) rfl]
 exact S0 n hn o hs (2 + A.2.length) 1 0 A.1 _ o.fFl [] (n + 3) .nl _ [] rfl (by have := hs.1.1; omega) (Aff o A hA)
 rw [Gk (vs := [Al Ak o.fQ]) rfl (Bk (Ei _ _ _) Dw) (O3 n hn o.fQ hs.2.1 hs.2.2)]
 have hl := Nh 3 o
 generalize hA : Br Ap E0.tp 3 25 (Al Ak o.fQ) = A at hl
 have hA' : Br Ap E0.tp ([⟨Bl o, true, true⟩] ++ [⟨Cv, true, true⟩] ++ [⟨Cv, true, true⟩] : Ab).length 25 (Al Ak o.fQ) = A := hA
 rw [hA']
 have hc1 : Cz A.1 = some [A.1] := by
  generalize A.1 = y at hl
  cases y <;> first | (simp [Ar] at hl; done) | (simp only [Cz, hl, if_true]) | rfl
 refine Na (cs := [.sc (.int .i64 o.fLast), .nl, A.1]) (by simp only [Ft, hc1]; rfl) ?_
 have hc : Cz (.agg [si o.fLast, .nl, A.1]) = some [si o.fLast, .nl, A.1] := by
  show (if (true && (true && (Ar A.1 && true))) = true then _ else none) = _
  rw [hl]
  rfl
 rw [show ([⟨Bl o, true, true⟩] ++ [⟨Cv, true, true⟩] : Ab).length = 2 from rfl]
 rw [Hq 3 2 0 _ ⟨Cv, true, true⟩ [.sc (.int .i64 o.fLast), .nl, A.1] _ _ rfl hc rfl (Bb rfl) rfl]
 exact S0 n hn o hs 2 1 0 A.1 _ o.fFl [] (n + 3) .nl _ [] rfl (by have := hs.1.1; omega) (Afg o A hA)
theorem Wv (n : Nat) (hn : 1048576 < n) (o : Bm) (hs : Og o) : Ct E0 (n + 4) 27 62 [.agg (Bl o)] = some (.agg (Bl o)) := by
 rw [A2, Aix, f62]
 simp only [Dh, C1, B8, Bn, Aam, Bw, Bs, B0, Kj]
 rw [N3 _ _ _ (Hg o)]
 simp only [zau, zae, zat, zaw]
 have hz : ([⟨[i0, .nl, .nl], true, true⟩] : Ab) = [⟨Cv, true, true⟩] := rfl
 rw [hz]
 have hH : ([⟨Bl o, true, true⟩] ++ [⟨Cv, true, true⟩] : Ab)[0]? = some ⟨Bl o, true, true⟩ := rfl
 refine Ai (Bj (c := si o.fLast) hH (Bb rfl) rfl (Ai (Bj (c := Al Ak o.fQ) hH (Bb rfl) rfl (Pe ?_ ?_))))
 rw [Gk (vs := [Al Ak o.fQ]) rfl (Bk (Ei _ _ _) Dw) (P1 n hn o.fQ hs.2.1 hs.2.2)]
 have hl := Nh 2 o
 generalize hA : Br Ap E0.tp 2 25 (Al Ak o.fQ) = A at hl
 have hA' : Br Ap E0.tp ([⟨Bl o, true, true⟩] ++ [⟨Cv, true, true⟩] : Ab).length 25 (Al Ak o.fQ) = A := hA
 rw [hA']
 have hc1 : Cz A.1 = some [A.1] := by
  generalize A.1 = y at hl
  cases y <;> first | (simp [Ar] at hl; done) | (simp only [Cz, hl, if_true]) | rfl
 refine Na (cs := [.sc (.int .i64 o.fLast), .nl, A.1]) (by simp only [Ft, hc1]; rfl) ?_
 have hlen : ([⟨Bl o, true, true⟩] ++ [⟨Cv, true, true⟩] ++ A.2 : Ab).length = 2 + A.2.length := by simp; omega
 have hg : ([⟨Bl o, true, true⟩] ++ [⟨Cv, true, true⟩] ++ A.2 ++ [⟨Cv, true, true⟩] : Ab)[2 + A.2.length]? = some ⟨Cv, true, true⟩ := by
  rw [← hlen]
  exact Kx _ _ []
 have hc : Cz (.agg [si o.fLast, .nl, A.1]) = some [si o.fLast, .nl, A.1] := by
  show (if (true && (true && (Ar A.1 && true))) = true then _ else none) = _
  rw [hl]
  rfl
 rw [hlen, Hq 3 (2 + A.2.length) 0 _ ⟨Cv, true, true⟩ [.sc (.int .i64 o.fLast), .nl, A.1] _ _ hg hc rfl (Bb rfl) rfl]
 have hI := Aff o A hA
 exact Ai (Bj (c := Al Aq o.fFl) hI.src (Bb rfl) rfl (Do (Lu n hn o hs (2 + A.2.length) 1 0 A.1 _ o.fFl [] (n + 3) .nl _ [] rfl (by have := hs.1.1; omega) hI)))
 rw [Gk (vs := [Al Ak o.fQ]) rfl (Bk (Ei _ _ _) Dw) (P1 n hn o.fQ hs.2.1 hs.2.2)]
 have hl := Nh 3 o
 generalize hA : Br Ap E0.tp 3 25 (Al Ak o.fQ) = A at hl
 have hA' : Br Ap E0.tp ([⟨Bl o, true, true⟩] ++ [⟨Cv, true, true⟩] ++ [⟨Cv, true, true⟩] : Ab).length 25 (Al Ak o.fQ) = A := hA
 rw [hA']
 have hc1 : Cz A.1 = some [A.1] := by
  generalize A.1 = y at hl
  cases y <;> first | (simp [Ar] at hl; done) | (simp only [Cz, hl, if_true]) | rfl
 refine Na (cs := [.sc (.int .i64 o.fLast), .nl, A.1]) (by simp only [Ft, hc1]; rfl) ?_
 have hc : Cz (.agg [si o.fLast, .nl, A.1]) = some [si o.fLast, .nl, A.1] := by
  show (if (true && (true && (Ar A.1 && true))) = true then _ else none) = _
  rw [hl]
  rfl
 rw [show ([⟨Bl o, true, true⟩] ++ [⟨Cv, true, true⟩] : Ab).length = 2 from rfl]
 rw [Hq 3 2 0 _ ⟨Cv, true, true⟩ [.sc (.int .i64 o.fLast), .nl, A.1] _ _ rfl hc rfl (Bb rfl) rfl]
 have hI := Afg o A hA
 exact Ai (Bj (c := Al Aq o.fFl) hI.src (Bb rfl) rfl (Do (Lu n hn o hs 2 1 0 A.1 _ o.fFl [] (n + 3) .nl _ [] rfl (by have := hs.1.1; omega) hI)))
end
section
open Go
variable {α : Type}
theorem Aji {wt : α → Nat} (sm : α → Prop) (hs : ∀ x, wt x ≤ 1048576 → sm x) (l : List α) (h : F6 wt l ≤ 1048576) : l.length ≤ 1048576 ∧ ∀ y ∈ l, sm y := by
 have h1 := K4 wt l
 refine ⟨by omega, fun y hy => hs y ?_⟩
 have h2 := Nu (wt := wt) hy
 omega
def Ya (x : Ch) : Prop := x.fBody.size ≤ 1048576 ∧ True
theorem V4 (x : Ch) (h : Bv x ≤ 1048576) : Ya x := by
 have h0 := h
 unfold Bv at h0
 exact ⟨by omega, trivial⟩
def Tq (x : Ae) : Prop := x.fM.fBody.size ≤ 1048576 ∧ True
theorem Ac8 (x : Ae) (h : Az x ≤ 1048576) : Tq x := by
 have h0 := h
 unfold Az Bv at h0
 exact ⟨by omega, trivial⟩
def Ak8 (x : Bm) : Prop := (x.fFl.length ≤ 1048576 ∧ ∀ y ∈ x.fFl, Tq y) ∧ (x.fQ.length ≤ 1048576 ∧ ∀ y ∈ x.fQ, Ya y) ∧ True
theorem Aad (x : Bm) (h : Gf x ≤ 1048576) : Ak8 x := by
 have e0 := K4 Az x.fFl
 have e1 := K4 Bv x.fQ
 have h0 := h
 unfold Gf at h0
 exact ⟨Aji Tq Ac8 _ (by omega), Aji Ya V4 _ (by omega), trivial⟩
end
section
open Go
def Ak0 : Ch := ⟨⟨#[]⟩, ⟨#[]⟩, 0, false⟩
def Ad (l : List Ch) : Ch := l.headD Ak0
def Abg (l : List Ch) : Bool := !l.isEmpty
theorem Ps {ty : Nat} {H : Ab} {ts : List Nat} {raw cells : List AV} {ids : List Nat} (hts : E0.tp ty = some ts) (h : Cp (B7 Ap E0.tp H 7) ts raw = some (cells, ids)) (hn : ids.Nodup) : Be Ap E0.tp ty H (.tup raw) = some (.tup cells) := by
 rw [Be, Gc, hts, zab, h, zab, zab, if_pos hn]
theorem AgU {H : Ab} {t0 t1 t2 : Nat} {x0 x1 : AV} {v : Value} {a b : AV × List Nat} (h0 : B7 Ap E0.tp H 7 t0 x0 = some a) (h1 : B7 Ap E0.tp H 7 t1 x1 = some b) : Cp (B7 Ap E0.tp H 7) [t0, t1, t2] [x0, x1, .sc v] = some ([a.1, b.1, .sc v], a.2 ++ b.2) := by
 simp only [Cp, h0, h1, Ja, zab, zam]
theorem Afi (H : Ab) : B7 Ap E0.tp H 7 33 (.agg Fa) = some (.agg (Ak Ak0), []) := by
 obtain ⟨i, hi, hc⟩ := Pt
 rw [Ff, hi, zab, hc]
 rfl
theorem Xw {H : Ab} {raw cells : List AV} {ids : List Nat} (h : Cp (B7 Ap E0.tp H 6) Ej raw = some (cells, ids)) : B7 Ap E0.tp H 7 33 (.agg raw) = some (.agg cells, ids) := by
 obtain ⟨i, hi, hc⟩ := Pt
 rw [Ff, hi, zab, hc, h]
 rfl
theorem Ac9 (n : Nat) (hn : 1048576 < n) (x0 : List Ch) (k0 : x0.length ≤ 9223372036854775807 ∧ ∀ z ∈ x0, De z) (b0 : F6 Bv x0 ≤ 1048576) : Ct E0 (n + 4) 100 129 [Al Ak x0] = some (.tup [Al Ak x0.tail, .agg (Ak (Ad x0)), .sc (.bool (Abg x0))]) := by
 have hlen : x0.length ≤ 1048576 := by have := K4 Bv x0; omega
 have hs : ∀ x ∈ x0, x.fBody.size ≤ 1048576 := by
  intro x hx
  have h1 := K4 Bv x0
  have h2 := Nu (wt := Bv) hx
  have h3 : Bv x = x.fTopic.size + (x.fBody.size + 0) := rfl
  omega
 rw [A2, Agd, f129]
 simp only [C1, B0, Bf, Ay, Bw, Bs, Bn, C2, B5, Kj, zau, zae]
 have hz : ([⟨[sE, .nl, i0, bF], true, true⟩] : Ab) = [⟨Fa, true, true⟩] := rfl
 rw [hz]
 refine Do ?_
 cases x0 with
 | nil =>
  refine A1 (v := bT) (fun k => rfl) (Fq rfl (Na (cs := Fa) rfl ?_))
  rw [Hq 4 0 0 _ ⟨Fa, true, true⟩ Fa _ _ rfl rfl rfl (by decide) rfl]
  exact Iw (ds := Fa) (cs := Fa) rfl (zal _) rfl (Ps rfl (AgU (a := (.ro 0 [], [])) rfl (Afi _)) zb9)
 | cons m l =>
  have hm : m.fBody.size ≤ 1048576 := hs m za9
  refine A1 (v := bF) (fun k => ?_) ?_
  show k (.sc (.bool (((m :: l).length : Int) == 0))) = _
  have e : (((m :: l).length : Int) == 0) = false := by
   rw [beq_eq_false_iff_ne]
   intro h
   have : (m :: l).length = l.length + 1 := rfl
   omega
  rw [e]
  refine F2 rfl ?_
  have hsl := Tp Eb (m :: l) 1 (by simp) (β := AV)
  have hsl' : ∀ k : AV → Option AV, Ir 4 (Al Ak (m :: l)) (some (si 1)) none k = k (Al Ak l) := fun k => hsl k
  rw [hsl']
  have hel := fun k => K9 (β := AV) Eb (by decide) [] m l k
  simp only [zae, zau, zaY] at hel
  rw [hel, O6 4 _ _ _ _ (Eb m)]
  rw [Gk (vs := [Al Ak l]) rfl (Bk (Ei _ _ _) Dw) (O3 n hn l (by simp at hlen; omega) fun x hx => hs x (zav _ hx))]
  rw [Gk (vs := [.agg (Ak m)]) rfl (Bk (Gr _ (Fu m)) Dw) (Ru (n + 2) m hm)]
  obtain ⟨i, hi, hc⟩ := Pt
  rw [Ia, hi, zaA, hc]
  simp only
  generalize hA : Br Ap E0.tp ([⟨Fa, true, true⟩] : Ab).length 25 (Al Ak l) = A
  generalize hB : Bu Ap E0.tp ([⟨Fa, true, true⟩] ++ A.2 : Ab).length Ej (Ak m) = B
  have hBl : B.1.length = 4 := by rw [← hB, Jv]; rfl
  have hBc : Cz (.agg B.1) = some B.1 := by
   show (if _ then _ else none) = _
   rw [if_pos (by rw [← hB]; exact L8 _ _ _ (Fu m))]
  have hsp : Cf Fa 0 B.1 = B.1 := by
   unfold Cf
   rw [zbI, zae, zaX (by rw [hBl]; decide), zam]
  rw [Hq 4 0 0 _ ⟨Fa, true, true⟩ B.1 _ _ rfl hBc hBl (by decide) rfl]
  simp only [hsp]
  have hH : ([⟨Fa, true, true⟩] ++ A.2 ++ B.2 : Ab).set 0 ⟨B.1, true, true⟩ = ⟨B.1, true, true⟩ :: (A.2 ++ B.2) := by simp
  rw [hH]
  refine Iw (ds := B.1) (cs := B.1) rfl (by omega) (by rw [za4, ← hBl, zaz]) ?_
  have hA1 : A = Br Ap E0.tp 1 25 (Al Ak l) := hA.symm
  have hNB : ([⟨Fa, true, true⟩] ++ A.2 : Ab).length = 1 + A.2.length := by simp; omega
  rw [hNB] at hB
  have o1 : B7 Ap E0.tp (⟨B.1, true, true⟩ :: (A.2 ++ B.2)) 7 25 A.1 = some (Al Ak l, zbg 1 A.2.length) := by
   rw [hA1]
   refine Ge 7 _ _ 1 (Ip (d := 6) Eb K1 (Io 4) l) ?_
   have := Nb [⟨B.1, true, true⟩] (Br Ap E0.tp 1 25 (Al Ak l)).2 B.2
   exact this
  have o2 : Cp (B7 Ap E0.tp (⟨B.1, true, true⟩ :: (A.2 ++ B.2)) 6) Ej B.1 = some (Ak m, zbg (1 + A.2.length) B.2.length) := by
   rw [← hB]
   refine I5 (fun ty t N h h' _ => Ge 6 ty t N h h') Ej (Ak m) (1 + A.2.length) (Io 4 m) ?_ (Fc _ _ _)
   have := Jc (⟨B.1, true, true⟩ :: A.2) B.2
   rw [zat, zbO] at this
   rw [hB]
   exact this
  refine Ps rfl (AgU o1 (Xw o2)) ?_
  have := List.range'_append (s := 1) (m := A.2.length) (n := B.2.length) (step := 1)
  rw [zbt] at this
  rw [this]
  exact zaS
theorem Acm (n : Nat) (hn : 1048576 < n) (x0 : List Ch) (k0 : x0.length ≤ 9223372036854775807 ∧ ∀ z ∈ x0, De z) (b0 : F6 Bv x0 ≤ 1048576) : Ct E0 (n + 4) 100 84 [Al Ak x0] = some (.tup [Al Ak x0.tail, .agg (Ak (Ad x0)), .sc (.bool (Abg x0))]) := by
 have hlen : x0.length ≤ 1048576 := by have := K4 Bv x0; omega
 have hs : ∀ x ∈ x0, x.fBody.size ≤ 1048576 := by
  intro x hx
  have h1 := K4 Bv x0
  have h2 := Nu (wt := Bv) hx
  have h3 : Bv x = x.fTopic.size + (x.fBody.size + 0) := rfl
  omega
 rw [A2, Ai9, f84]
 simp only [C1, B0, Bf, Ay, Bw, Bs, Bn, C2, B5, Kj, zau, zae]
 rw [Gk (vs := [Al Ak x0]) rfl (Bk (Ei _ _ _) Dw) (P1 n hn x0 hlen hs)]
 obtain ⟨i, j, h1, h2, h3, h4⟩ := K1
 have hi : Br Ap E0.tp ([⟨Fa, true, true⟩] : Ab).length 25 (Al Ak x0) = (.sl 1 0 x0.length 4, ⟨(Bu Ap E0.tp 2 (zad x0.length Ej).flatten (x0.map Ak).flatten).1, true, true⟩ :: (Bu Ap E0.tp 2 (zad x0.length Ej).flatten (x0.map Ak).flatten).2) := by
  show Br Ap E0.tp 1 25 (.ro x0.length (x0.map Ak).flatten) = _
  simp only [Br, h1, zab, h2, zaA, h3, h4]
 have hz : ([⟨[sE, .nl, i0, bF], true, true⟩] : Ab) = [⟨Fa, true, true⟩] := rfl
 rw [hz, hi]
 simp only
 refine Do ?_
 cases x0 with
 | nil =>
  refine A1 (v := bT) (fun k => rfl) (Fq rfl (Na (cs := Fa) rfl ?_))
  rw [Hq 4 0 0 _ ⟨Fa, true, true⟩ Fa _ _ rfl rfl rfl (by decide) rfl]
  refine Iw (ds := Fa) (cs := Fa) rfl (zal _) rfl ?_
  have o1 : B7 Ap E0.tp (([⟨Fa, true, true⟩] ++ [⟨[], true, true⟩] : Ab).set 0 ⟨Cf Fa 0 Fa, true, true⟩) 7 25 (.sl 1 0 0 4) = some (.ro 0 [], [1]) := by
   rw [Gb]
   simp only [h1, h2, zab, h3, if_true, h4]
   rfl
  exact Ps rfl (AgU o1 (Afi _)) (by simp)
 | cons m l =>
  refine A1 (v := bF) (fun k => ?_) ?_
  show k (.sc (.bool (((m :: l).length : Int) == 0))) = _
  have e : (((m :: l).length : Int) == 0) = false := by
   rw [beq_eq_false_iff_ne]
   intro h
   have : (m :: l).length = l.length + 1 := rfl
   omega
  rw [e]
  refine F2 rfl ?_
  have hsl : ∀ (id : Nat) (k : AV → Option AV), Ir 4 (.sl id 0 (m :: l).length 4) (some (si 1)) none k = k (.sl id 4 l.length 4) := by
   intro id k
   simp only [Ir, G6, Jm, Yi, zab, if_true]
   rw [if_pos (by simp; omega)]
   congr 2
   simp
  rw [hsl]
  rw [show ∀ k : AV → Option AV, Es 4 (.sl 1 0 (m :: l).length 4) (.sc (.int .i64 0)) k = k (.ptr 1 0) from fun k => Rs 4 (m :: l).length 1 0 0 k (by simp)]
  have hap := O1 (ti := Ap) (tp := E0.tp) Ej (Ak m) (zad l.length Ej).flatten (l.map Ak).flatten 2 rfl
  rw [show (zad (m :: l).length Ej).flatten = Ej ++ (zad l.length Ej).flatten by simp [zbN], show ((m :: l).map Ak).flatten = Ak m ++ (l.map Ak).flatten by simp, hap]
  simp only
  generalize hP : Bu Ap E0.tp 2 Ej (Ak m) = P
  generalize hQ : Bu Ap E0.tp (2 + P.2.length) (zad l.length Ej).flatten (l.map Ak).flatten = Q
  have hPl : P.1.length = 4 := by rw [← hP, Jv]; rfl
  have hQl : Q.1.length = l.length * 4 := by rw [← hQ, Jv, Fg Eb]
  have hPc : Cz (.agg P.1) = some P.1 := by
   show (if _ then _ else none) = _
   rw [if_pos (by rw [← hP]; exact L8 _ _ _ (Fu m))]
  refine Iw (ds := P.1) (cs := P.1 ++ Q.1) rfl (by rw [zag]; omega) (by rw [za4, ← hPl, List.take_left' rfl]) ?_
  have hsp : Cf Fa 0 P.1 = P.1 := by
   unfold Cf
   rw [zbI, zae, zaX (by rw [hPl]; decide), zam]
  rw [Hq 4 0 0 _ ⟨Fa, true, true⟩ P.1 _ _ rfl hPc hPl (by decide) rfl]
  simp only [hsp]
  have hH : ([⟨Fa, true, true⟩] ++ ⟨P.1 ++ Q.1, true, true⟩ :: (P.2 ++ Q.2) : Ab).set 0 ⟨P.1, true, true⟩ = ⟨P.1, true, true⟩ :: ⟨P.1 ++ Q.1, true, true⟩ :: (P.2 ++ Q.2) := by simp
  rw [hH]
  refine Iw (ds := P.1) (cs := P.1) rfl (by omega) (by rw [za4, ← hPl, zaz]) ?_
  have lP : Lies (⟨P.1, true, true⟩ :: ⟨P.1 ++ Q.1, true, true⟩ :: (P.2 ++ Q.2)) 2 P.2 := Nb [⟨P.1, true, true⟩, ⟨P.1 ++ Q.1, true, true⟩] P.2 Q.2
  have lQ : Lies (⟨P.1, true, true⟩ :: ⟨P.1 ++ Q.1, true, true⟩ :: (P.2 ++ Q.2)) (2 + P.2.length) Q.2 := by
   have := Jc (⟨P.1, true, true⟩ :: ⟨P.1 ++ Q.1, true, true⟩ :: P.2) Q.2
   rw [zat, zat, show P.2.length + 1 + 1 = 2 + P.2.length by omega] at this
   exact this
  have o2 : Cp (B7 Ap E0.tp (⟨P.1, true, true⟩ :: ⟨P.1 ++ Q.1, true, true⟩ :: (P.2 ++ Q.2)) 6) Ej P.1 = some (Ak m, zbg 2 P.2.length) := by
   have := I5 (H := ⟨P.1, true, true⟩ :: ⟨P.1 ++ Q.1, true, true⟩ :: (P.2 ++ Q.2)) (fun ty t N h h' _ => Ge 6 ty t N h h') Ej (Ak m) 2 (Io 4 m) (by rw [hP]; exact lP) (Fc _ _ _)
   rw [hP] at this
   exact this
  have o1' : Cp (B7 Ap E0.tp (⟨P.1, true, true⟩ :: ⟨P.1 ++ Q.1, true, true⟩ :: (P.2 ++ Q.2)) 6) (zad l.length Ej).flatten Q.1 = some ((l.map Ak).flatten, zbg (2 + P.2.length) Q.2.length) := by
   have := I5 (H := ⟨P.1, true, true⟩ :: ⟨P.1 ++ Q.1, true, true⟩ :: (P.2 ++ Q.2)) (fun ty t N h h' _ => Ge 6 ty t N h h') (zad l.length Ej).flatten (l.map Ak).flatten (2 + P.2.length) (Lg l fun x _ => Io 4 x) (by rw [hQ]; exact lQ) (Fc _ _ _)
   rw [hQ] at this
   exact this
  have o1 : B7 Ap E0.tp (⟨P.1, true, true⟩ :: ⟨P.1 ++ Q.1, true, true⟩ :: (P.2 ++ Q.2)) 7 25 (.sl 1 4 l.length 4) = some (Al Ak l, 1 :: zbg (2 + P.2.length) Q.2.length) := by
   rw [Gb]
   have ha : Gi (⟨P.1, true, true⟩ :: ⟨P.1 ++ Q.1, true, true⟩ :: (P.2 ++ Q.2)) 1 = true := rfl
   have hr : Aw (⟨P.1, true, true⟩ :: ⟨P.1 ++ Q.1, true, true⟩ :: (P.2 ++ Q.2)) 1 4 (l.length * 4) = some Q.1 := by
    have hg : (⟨P.1, true, true⟩ :: ⟨P.1 ++ Q.1, true, true⟩ :: (P.2 ++ Q.2) : Ab)[1]? = some ⟨P.1 ++ Q.1, true, true⟩ := rfl
    simp only [Aw, hg, if_true]
    rw [if_pos (by rw [zag]; omega), ← hPl, zbl (zal _), zbM, zae, hPl, ← hQl, zaz]
   simp only [h1, h2, zab, h3, if_true, ha, hr, h4, o1']
  refine Ps rfl (AgU o1 (Xw o2)) ?_
  rw [zao, zaF, zaO]
  refine ⟨?_, zaS, zaS, ?_⟩
  rw [zaL, zaJ, zaJ]
  omega
  intro a ha b hb
  rw [zaJ] at ha hb
  omega
theorem Aab (x0 : List Ch) (b0 : F6 Bv x0 ≤ 1048576) : Bv (Ad x0) ≤ 1048576 ∧ Ya (Ad x0) := by
 have h : Bv (Ad x0) ≤ 1048576 := by
  cases x0 with
  | nil => decide
  | cons m l =>
   have : F6 Bv (m :: l) = 1 + Bv m + F6 Bv l := rfl
   show Bv m ≤ _
   omega
 exact ⟨h, V4 _ h⟩
end
section
open Go
def G0 : A5 := ⟨0, false, 0, false, 0, ⟨#[]⟩, ⟨#[]⟩, ⟨#[]⟩, 0, false, 0, false, ⟨#[]⟩, ⟨#[]⟩, 0, false, false, ⟨#[]⟩, false, ⟨#[]⟩, 0, false, [], [], []⟩
end
end Go.Proofs.YtdofipeaomgbbaaGreatDoor.Abs
set_option maxHeartbeats 1600000
namespace Go.Proofs.YtdofipeaomgbbaaGreatDoor.Abs
open _root_.Option renaming bind_eq_some_iff → zaa, bind_some → zab, getD_some → zaA
open _root_.List renaming getElem?_eq_some_iff → zac, replicate → zad, nil_append → zae, getElem?_append_right → zaf, length_append → zag, getElem?_append_left → zai, append_assoc → zak, append_nil → zam, cons_append → zao, length_singleton → zap, length_cons → zat, length_nil → zau, mem_cons_of_mem → zav, map_cons → zax, flatten_append → zay, take_length → zaz, getElem?_set_ne → za0, mem_cons → za2, drop_zero → za4, map_append → za6, mem_cons_self → za9, length_drop → zaC, nodup_cons → zaF, flatten_cons → zaH, mem_range'_1 → zaJ, mem_append → zaL, nodup_append → zaO, getElem?_set_self → zaR, nodup_range' → zaS, getElem?_drop → zaT, drop_eq_getElem_cons → zaV, drop_of_length_le → zaX, drop_drop → zba, getElem?_map → zbd, range' → zbg, any_cons → zbh, length_set → zbi, all_cons → zbk, drop_append_of_le_length → zbl, set_eq_take_append_cons_drop → zbw, map_nil → zbx, headD_cons → zb3, length_map → zb4, take_append_of_le_length → zb7, tail_cons → zb8, nodup_nil → zb9, getD_eq_getElem?_getD → zbF, replicate_succ' → zbH, take_zero → zbI, drop_length → zbM, replicate_succ → zbN
open _root_.Bool renaming and_eq_true → zah, false_eq_true → zaj, eq_iff_iff → zbj, false_or → zbr, true_and → zbE
open _root_.Nat renaming le_refl → zal, zero_add → zaw, le_trans → za1, zero_le → za3, min_eq_left → zaM, sub_self → zaN, add_assoc → zaQ, add_zero → zbf, add_sub_cancel_left → zbs, one_mul → zbt, add_comm → zbO, mul_one → zbR, succ_mul → zbS
open _root_.Int renaming natCast_zero → zaY, toNat_natCast → zbo
section
open Go
def As (m : Ch) (i : Int) (d : Bool) : A5 := ⟨3, d, m.fQos, m.fRetain, i, m.fTopic, m.fBody, ⟨#[]⟩, 0, false, 0, false, ⟨#[]⟩, ⟨#[]⟩, 0, false, false, ⟨#[]⟩, false, ⟨#[]⟩, 0, false, [], [], []⟩
theorem Yc (n : Nat) (hn : 1048576 < n) (m : Ch) (i : Int) (d : Bool) (hs : m.fBody.size ≤ 1048576) : Ct E0 (n + 1) 41 130 [.agg (Ak m), .sc (.int .i64 i), .sc (.bool d)] = some (.agg (Bp (As m i d))) := by
 rw [A2, Age, f130]
 refine Gn (G := (· = some (.agg (Bp (As m i d))))) ?_
 try simp only [Qx, Qw]
 have s0 : Sep [] [] := Gm
 refine Mf s0 (F9 (Fu _)) fun i1 H s2 => C8 s2 fun i3 H s4 => Aj (o' := 2) rfl (Au (c := si m.fQos) s4 A7 rfl (Aj (o' := 3) rfl (Au (c := sb m.fRetain) s4 A7 rfl (Aj (o' := 0) rfl (Au (c := ss m.fTopic) s4 A7 rfl (Aj (o' := 1) rfl (Au (c := A3 m.fBody) s4 A7 rfl (Ag1 s4 (by omega) fun x5 H lx5 s6 => ?_))))))))
 refine Bq (cs := [si 3, sb d, si m.fQos, sb m.fRetain, si i, ss m.fTopic, x5, sE, i0, bF, i0, bF, sE, .nl, i0, bF, bF, sE, bF, .nl, i0, bF, .nl, .nl, .nl]) (Eu (z' := [si 3, bF, i0, bF, i0, sE, .nl, sE, i0, bF, i0, bF, sE, .nl, i0, bF, bF, sE, bF, .nl, i0, bF, .nl, .nl, .nl]) (Cq rfl) rfl (Bb rfl) rfl (Eu (z' := [si 3, sb d, i0, bF, i0, sE, .nl, sE, i0, bF, i0, bF, sE, .nl, i0, bF, bF, sE, bF, .nl, i0, bF, .nl, .nl, .nl]) (Cq rfl) rfl (Bb rfl) rfl (Eu (z' := [si 3, sb d, si m.fQos, bF, i0, sE, .nl, sE, i0, bF, i0, bF, sE, .nl, i0, bF, bF, sE, bF, .nl, i0, bF, .nl, .nl, .nl]) (Cq rfl) rfl (Bb rfl) rfl (Eu (z' := [si 3, sb d, si m.fQos, sb m.fRetain, i0, sE, .nl, sE, i0, bF, i0, bF, sE, .nl, i0, bF, bF, sE, bF, .nl, i0, bF, .nl, .nl, .nl]) (Cq rfl) rfl (Bb rfl) rfl (Eu (z' := [si 3, sb d, si m.fQos, sb m.fRetain, si i, sE, .nl, sE, i0, bF, i0, bF, sE, .nl, i0, bF, bF, sE, bF, .nl, i0, bF, .nl, .nl, .nl]) (Cq rfl) rfl (Bb rfl) rfl (Eu (z' := [si 3, sb d, si m.fQos, sb m.fRetain, si i, ss m.fTopic, .nl, sE, i0, bF, i0, bF, sE, .nl, i0, bF, bF, sE, bF, .nl, i0, bF, .nl, .nl, .nl]) (Cq rfl) rfl (Bb rfl) rfl (Eu (z' := [si 3, sb d, si m.fQos, sb m.fRetain, si i, ss m.fTopic, x5, sE, i0, bF, i0, bF, sE, .nl, i0, bF, bF, sE, bF, .nl, i0, bF, .nl, .nl, .nl]) (Cq lx5) rfl (Bb rfl) rfl (rfl)))))))) ?_
 refine Bo (cs' := [si 3, sb d, si m.fQos, sb m.fRetain, si i, ss m.fTopic, x5, sE, i0, bF, i0, bF, sE, .nl, i0, bF, bF, sE, bF, .nl, i0, bF, .nl, .nl, .nl]) s6 A7 (Ac (Aa rfl (Aa rfl (Aa rfl (Aa rfl (Aa rfl (Aa rfl (Aa lx5 rfl)))))))) rfl (Bb rfl) rfl fun H s7 => Ah s7 (.here) rfl (Dd (Nm s7 ⟨_, rfl, rfl⟩ (Hd (.own A7 (Hd (.nl (Mn (.nl (.sc (.sc (.nl (.nl (.nl .nil))))))))))) (Hf ⟨(At (F4 m.fBody) (by decide)), (Hf ⟨Dv, (Mk ⟨Dv, (Ku ⟨Dv, ⟨Dv, ⟨Dv, trivial⟩⟩⟩)⟩)⟩)⟩)) ?_)
 have e8 : As m i d = (⟨3, d, m.fQos, m.fRetain, i, m.fTopic, m.fBody, ⟨#[]⟩, 0, false, 0, false, ⟨#[]⟩, ⟨#[]⟩, 0, false, false, ⟨#[]⟩, false, ⟨#[]⟩, 0, false, [], [], []⟩ : A5) := by
  clear s0 s2 s4 s6 s7
  first | assumption | (simp only [As, if_true, if_false, zaj]; first | done | rfl)
 ·rw [e8]
  first | done | rfl
theorem Xd (n : Nat) (hn : 1048576 < n) (m : Ch) (i : Int) (d : Bool) (hs : m.fBody.size ≤ 1048576) : Ct E0 (n + 2) 41 43 [.agg (Ak m), .sc (.int .i64 i), .sc (.bool d)] = some (.agg (Bp (As m i d))) := by
 rw [A2, Ail, f43]
 refine Gn (G := (· = some (.agg (Bp (As m i d))))) ?_
 try simp only [Qx, Qw]
 have s0 : Sep [] [] := Gm
 refine Mf s0 (F9 (Fu _)) fun i1 H s2 => C8 s2 fun i3 H s4 => Aj (o' := 2) rfl (Au (c := si m.fQos) s4 A7 rfl (Aj (o' := 3) rfl (Au (c := sb m.fRetain) s4 A7 rfl (Aj (o' := 0) rfl (Au (c := ss m.fTopic) s4 A7 rfl (Aj (o' := 1) rfl (Au (c := A3 m.fBody) s4 A7 rfl (Bq (cs := [A3 m.fBody]) rfl (Cg s4 fun i5 H s6 => Ag0 s6 rfl (.sl (.here) rfl (.cons .ro .nil) .nil) (Xg n (by omega) m.fBody (by omega)) (F4 m.fBody) fun x7 H lx7 s8 => ?_)))))))))
 refine Bq (cs := [si 3, sb d, si m.fQos, sb m.fRetain, si i, ss m.fTopic, x7, sE, i0, bF, i0, bF, sE, .nl, i0, bF, bF, sE, bF, .nl, i0, bF, .nl, .nl, .nl]) (Eu (z' := [si 3, bF, i0, bF, i0, sE, .nl, sE, i0, bF, i0, bF, sE, .nl, i0, bF, bF, sE, bF, .nl, i0, bF, .nl, .nl, .nl]) (Cq rfl) rfl (Bb rfl) rfl (Eu (z' := [si 3, sb d, i0, bF, i0, sE, .nl, sE, i0, bF, i0, bF, sE, .nl, i0, bF, bF, sE, bF, .nl, i0, bF, .nl, .nl, .nl]) (Cq rfl) rfl (Bb rfl) rfl (Eu (z' := [si 3, sb d, si m.fQos, bF, i0, sE, .nl, sE, i0, bF, i0, bF, sE, .nl, i0, bF, bF, sE, bF, .nl, i0, bF, .nl, .nl, .nl]) (Cq rfl) rfl (Bb rfl) rfl (Eu (z' := [si 3, sb d, si m.fQos, sb m.fRetain, i0, sE, .nl, sE, i0, bF, i0, bF, sE, .nl, i0, bF, bF, sE, bF, .nl, i0, bF, .nl, .nl, .nl]) (Cq rfl) rfl (Bb rfl) rfl (Eu (z' := [si 3, sb d, si m.fQos, sb m.fRetain, si i, sE, .nl, sE, i0, bF, i0, bF, sE, .nl, i0, bF, bF, sE, bF, .nl, i0, bF, .nl, .nl, .nl]) (Cq rfl) rfl (Bb rfl) rfl (Eu (z' := [si 3, sb d, si m.fQos, sb m.fRetain, si i, ss m.fTopic, .nl, sE, i0, bF, i0, bF, sE, .nl, i0, bF, bF, sE, bF, .nl, i0, bF, .nl, .nl, .nl]) (Cq rfl) rfl (Bb rfl) rfl (Eu (z' := [si 3, sb d, si m.fQos, sb m.fRetain, si i, ss m.fTopic, x7, sE, i0, bF, i0, bF, sE, .nl, i0, bF, bF, sE, bF, .nl, i0, bF, .nl, .nl, .nl]) (Cq lx7) rfl (Bb rfl) rfl (rfl)))))))) ?_
 refine Bo (cs' := [si 3, sb d, si m.fQos, sb m.fRetain, si i, ss m.fTopic, x7, sE, i0, bF, i0, bF, sE, .nl, i0, bF, bF, sE, bF, .nl, i0, bF, .nl, .nl, .nl]) s8 B9 (Ac (Aa rfl (Aa rfl (Aa rfl (Aa rfl (Aa rfl (Aa rfl (Aa lx7 rfl)))))))) rfl (Bb rfl) rfl fun H s9 => Ah s9 (.here) rfl (Dd (Nm s9 ⟨_, rfl, rfl⟩ (Hd (.own A7 (Hd (.nl (Mn (.nl (.sc (.sc (.nl (.nl (.nl .nil))))))))))) (Hf ⟨(At (F4 m.fBody) (by decide)), (Hf ⟨Dv, (Mk ⟨Dv, (Ku ⟨Dv, ⟨Dv, ⟨Dv, trivial⟩⟩⟩)⟩)⟩)⟩)) ?_)
 have e10 : As m i d = (⟨3, d, m.fQos, m.fRetain, i, m.fTopic, m.fBody, ⟨#[]⟩, 0, false, 0, false, ⟨#[]⟩, ⟨#[]⟩, 0, false, false, ⟨#[]⟩, false, ⟨#[]⟩, 0, false, [], [], []⟩ : A5) := by
  clear s0 s2 s4 s6 s8 s9
  first | assumption | (simp only [As, if_true, if_false, zaj]; first | done | rfl)
 ·rw [e10]
  first | done | rfl
end
section
open Go
def nx (x : Int) : Int := x % 65535 + 1
def Hb (used : List Int) : Nat → Int → Int × Bool
 | 0, _ => (0, false)
 | k + 1, x => if used.contains (nx x) then Hb used k (nx x) else (nx x, true)
def orb : Nat → Int → List Int
 | 0, _ => []
 | k + 1, x => nx x :: orb k (nx x)
theorem V0 : ∀ (k : Nat) (x : Int), (orb k x).length = k
 | 0, _ => rfl
 | k + 1, x => by rw [orb, zat, V0 k]
theorem AaR : ∀ (k : Nat) (x y : Int), 0 ≤ x → y ∈ orb k x → ∃ i : Nat, i < k ∧ y = (x + i) % 65535 + 1
 | 0, _, _, _, h => by cases h
 | k + 1, x, y, h0, h => by
  rcases za2.1 h with rfl | h
  exact ⟨0, by omega, by unfold nx; simp⟩
  obtain ⟨i, hi, rfl⟩ := AaR k (nx x) y (by unfold nx; omega) h
  refine ⟨i + 1, by omega, ?_⟩
  unfold nx
  omega
theorem Ql : ∀ (k : Nat) (x : Int), 0 ≤ x → k ≤ 65535 → (orb k x).Nodup
 | 0, _, _, _ => zb9
 | k + 1, x, h0, hk => by
  rw [orb, zaF]
  refine ⟨fun hm => ?_, Ql k _ (by unfold nx; omega) (by omega)⟩
  obtain ⟨i, hi, e⟩ := AaR k (nx x) (nx x) (by unfold nx; omega) hm
  unfold nx at e
  omega
theorem Qq : ∀ (used : List Int) (k : Nat) (x : Int), (Hb used k x).2 = false → ∀ y ∈ orb k x, y ∈ used
 | used, 0, _, _, y, hy => by cases hy
 | used, k + 1, x, h, y, hy => by
  rw [Hb] at h
  split at h
  rename_i hc
  rcases za2.1 hy with rfl | hy
  exact List.contains_iff_mem.1 hc
  exact Qq used k _ h y hy
  cases h
theorem U6 : ∀ (used : List Int) (k j : Nat) (x : Int), (Hb used k x).2 = true → Hb used (k + j) x = Hb used k x
 | used, 0, _, _, h => by cases h
 | used, k + 1, j, x, h => by
  rw [show k + 1 + j = (k + j) + 1 by omega, Hb, Hb]
  rw [Hb] at h
  split
  rename_i hc
  rw [if_pos hc] at h
  exact U6 used k j _ h
  rfl
theorem Qd : ∀ (l u : List Int), l.Nodup → (∀ y ∈ l, y ∈ u) → l.length ≤ u.length
 | [], u, _, _ => za3 _
 | x :: l, u, h, hs => by
  rw [zaF] at h
  have hx : x ∈ u := hs x za9
  have h1 := Qd l (u.erase x) h.2 fun y hy => (List.mem_erase_of_ne (fun (e : y = x) => h.1 (e ▸ hy))).2 (hs y (zav _ hy))
  rw [List.length_erase_of_mem hx] at h1
  have := List.length_pos_of_mem hx
  rw [zat]
  omega
theorem Ahg (used : List Int) (x : Int) (h0 : 0 ≤ x) : Hb used 65535 x = Hb used (min (used.length + 1) 65535) x := by
 by_cases h : used.length + 1 < 65535
 rw [zaM (by omega)]
 cases hs : (Hb used (used.length + 1) x).2
 exfalso
 have h1 := Qd _ used (Ql (used.length + 1) x h0 (by omega)) (Qq used _ x hs)
 rw [V0] at h1
 omega
 have := U6 used (used.length + 1) (65535 - (used.length + 1)) x hs
 rw [show used.length + 1 + (65535 - (used.length + 1)) = 65535 by omega] at this
 exact this
 rw [Nat.min_eq_right (by omega)]
def A9 (last : Int) (used : List Int) : Int × Bool := if 0 ≤ last ∧ last ≤ 65535 then Hb used 65535 last else (0, false)
theorem Z2 (last : Int) (used : List Int) (h : 0 ≤ last ∧ last ≤ 65535) (hu : used.length < 65535) : (A9 last used).2 = true := by
 unfold A9
 rw [if_pos h]
 cases hs : (Hb used 65535 last).2
 exfalso
 have h1 := Qd _ used (Ql 65535 last h.1 (zal _)) (Qq used _ last hs)
 rw [V0] at h1
 omega
 rfl
theorem Tn : ∀ (used : List Int) (k : Nat) (x : Int), 0 ≤ x → (Hb used k x).2 = true → 1 ≤ (Hb used k x).1 ∧ (Hb used k x).1 ≤ 65535
 | used, 0, _, _, h => by cases h
 | used, k + 1, x, h0, h => by
  rw [Hb] at h ⊢
  split
  rename_i hc
  rw [if_pos hc] at h
  exact Tn used k _ (by unfold nx; omega) h
  unfold nx
  show 1 ≤ x % 65535 + 1 ∧ x % 65535 + 1 ≤ 65535
  omega
end
section
open Go
variable {β : Type} {n : Nat} {r : Option β}
def inR (t lo hi : Int) : Bool := decide (lo ≤ t) && decide (t ≤ hi)
theorem Abi (n ty : Nat) (t lo hi : Int) : Ct E0 (n + 1) ty 47 [.sc (.int .i64 t), .sc (.int .i64 lo), .sc (.int .i64 hi)] = some (.sc (.bool (inR t lo hi))) := by
 rw [A2, AdH, f47]
 simp only [Bf, B3, Pr.gT, Pr.gF, Pr.hT, Pr.hF, Pr.kT, Pr.kF, Ci]
 refine A1 (v := .sc (.bool (decide (lo ≤ t)))) (fun k => rfl) ?_
 cases h : decide (lo ≤ t)
 exact Ao rfl (Ao rfl (Ao rfl (Rm rfl (Eg (by rw [inR, h]; rfl)))))
 refine An rfl (An rfl (An rfl ?_))
 rw [S3]
 exact Qu rfl (Eg (by rw [inR, h]; rfl))
theorem AgG (n ty : Nat) (t : Int) : Ct E0 (n + 2) ty 48 [.sc (.int .i64 t)] = some (.sc (.bool (inR t 0 65535))) := by
 rw [A2, AdJ, f48]
 refine Dk rfl (Bk (C4 _ _) (Bk (C4 _ _) (Bk (C4 _ _) Dw))) (Abi n _ t 0 65535) ?_
 rfl
theorem Akx (n ty : Nat) (t : Int) : Ct E0 (n + 2) ty 44 [.sc (.int .i64 t)] = some (.sc (.bool (inR t 1 65535))) := by
 rw [A2, Zj, f44]
 refine Dk rfl (Bk (C4 _ _) (Bk (C4 _ _) (Bk (C4 _ _) Dw))) (Abi n _ t 1 65535) ?_
 rfl
def tkV (u : List Int) (j : Nat) : AV := .sc (.bool (u.any fun z => z == (j : Int) && inR z 1 65535))
def Wa (W : Nat) (u : List Int) : List AV := (List.range W).map (tkV u)
theorem Nq (W : Nat) (u : List Int) : (Wa W u).length = W := by simp [Wa]
theorem V6 (W : Nat) (u : List Int) (j : Nat) (h : j < W) : (Wa W u)[j]? = some (tkV u j) := by
 rw [Wa, zbd, List.getElem?_range h]
 rfl
theorem Afq : ∀ n : Nat, (zad n [AV.sc (.bool false)]).flatten = Wa n []
 | 0 => rfl
 | n + 1 => by
  rw [zbH, zay, Afq n]
  show Wa n [] ++ [AV.sc (.bool false)] = _
  rw [Wa, Wa, List.range_succ, za6]
  rfl
theorem Aag {l : List AV} {i : Nat} {x : AV} (h : i < l.length) : Cf l (0 + i * 1) [x] = l.set i x := by
 unfold Cf
 rw [zbw, if_pos h, zaw, zbR]
 simp
theorem Ajl (W : Nat) (u : List Int) (i : Nat) (h : i < W) (hi : inR (i : Int) 1 65535 = true) : Cf (Wa W u) (0 + i * 1) [.sc (.bool true)] = Wa W (u ++ [(i : Int)]) := by
 rw [Aag (by rw [Nq]; exact h)]
 apply List.ext_getElem?
 intro j
 by_cases hj : j < W
 rw [V6 _ _ _ hj]
 by_cases e : i = j
 subst e
 rw [zaR (by rw [Nq]; exact h), tkV, List.any_append]
 simp [hi]
 rw [za0 e, V6 _ _ _ hj, tkV, tkV, List.any_append]
 have : ((i : Int) == (j : Int)) = false := by
  rw [beq_eq_false_iff_ne]
  omega
 simp [this]
 rw [List.getElem?_eq_none (by rw [zbi, Nq]; omega), List.getElem?_eq_none (by rw [Nq]; omega)]
theorem Ahl (W : Nat) (u : List Int) (z : Int) (h : inR z 1 65535 = false) : Wa W (u ++ [z]) = Wa W u := by
 unfold Wa
 congr 1
 funext j
 rw [tkV, tkV, List.any_append]
 simp [h]
theorem AkA (u : List Int) (x : Int) (h0 : 0 ≤ x) : tkV u (nx x).toNat = .sc (.bool (u.contains (nx x))) := by
 have h1 : 1 ≤ nx x ∧ nx x ≤ 65535 := by unfold nx; omega
 rw [tkV]
 congr 2
 rw [show (((nx x).toNat : Nat) : Int) = nx x by omega]
 induction u with
 | nil => rfl
 | cons z u ih =>
  rw [zbh, ih, List.contains_cons]
  congr 1
  cases e : (z == nx x)
  rw [Bool.false_and]
  symm
  rw [beq_eq_false_iff_ne] at e ⊢
  exact fun h => e h.symm
  have e' : z = nx x := by simpa using e
  subst e'
  rw [inR, decide_eq_true h1.1, decide_eq_true h1.2]
  simp
theorem AgM (W : Nat) (hW : W = 65536) (H : Ab) (k : KO β) : U3 1 1 [.sc (.bool false)] (.sc (.int .i64 65536)) (.sc (.int .i64 65536)) H k = k (.sl H.length 0 W 1) (H ++ [⟨Wa W [], true, true⟩]) := by
 subst hW
 show (if (65536 : Int) = 65536 then (if (0 : Int) ≤ 65536 then (if (65536 : Int).toNat * 1 ≤ 140737488355328 then Fj (65536 : Int).toNat 1 ((zad (65536 : Int).toNat [AV.sc (.bool false)]).flatten) true H k else none) else none) else none) = _
 rw [if_pos rfl, if_pos (by decide), if_pos (by decide), Afq]
 rfl
theorem AaO (W : Nat) (hW : W = 65536) (u : List Int) (b : Nat) (H : Ab) (hb : H[b]? = some ⟨Wa W u, true, true⟩) (K : KO β) : ∀ (k m : Nat) (x : Int) (c : Nat), c + k = 65535 → k < m → 0 ≤ x → x ≤ 65535 →
  Mt (PR n β) n K m (.sl b 0 W 1) (.sc (.int .i64 x)) (.sc (.int .i64 c)) H = K (.tup [.sc (.int .i64 (Hb u k x).1), .sc (.bool (Hb u k x).2)]) H
 | 0, m + 1, x, c, hc, hm, h0, h1 => by
  rw [Mt]
  simp only [Bf, Ay]
  refine A1 (v := .sc (.bool (decide ((c : Int) < 65535)))) (fun k => rfl) (F2 (by simp; omega) ?_)
  rfl
 | k + 1, m + 1, x, c, hc, hm, h0, h1 => by
  have hx : 1 ≤ nx x ∧ nx x ≤ 65535 := by unfold nx; omega
  have ih := AaO W hW u b H hb K k m (nx x) (c + 1) (by omega) (by omega) (by omega) (by omega)
  rw [Mt]
  simp only [Bf, Ay, B5, Bn, Fn]
  refine A1 (v := .sc (.bool (decide ((c : Int) < 65535)))) (fun k => rfl) (Fq (by simp; omega) (A1 (v := .sc (.int .i64 (x + 1))) (fun k => by rw [Q0, Gh _ (by omega) (by omega)]) (A1 (v := .sc (.bool (decide (x + 1 > 65535)))) (fun k => rfl) ?_)))
  have body : ∀ y : Int, y = nx x → (Es 1 (.sl b 0 W 1) (.sc (.int .i64 y)) fun t35 => Cs false 1 t35 H fun t36 => pUn .not t36 fun t37 => Hm t37 (K (Cy [.sc (.int .i64 y), .sc (.bool true)]) H) (E2 .add (.sc (.int .i64 c)) (.sc (.int .i64 1)) fun t39 => Mt (PR n β) n K m (.sl b 0 W 1) (.sc (.int .i64 y)) t39 H)) = K (.tup [.sc (.int .i64 (Hb u (k + 1) x).1), .sc (.bool (Hb u (k + 1) x).2)]) H := by
   intro y hy
   subst hy
   have hi : (nx x).toNat < W := by omega
   have e : (.sc (.int .i64 (nx x)) : AV) = .sc (.int .i64 (((nx x).toNat : Nat) : Int)) := by rw [show (((nx x).toNat : Nat) : Int) = nx x by omega]
   have hld : ∀ K2 : AV → Option β, (Es 1 (.sl b 0 W 1) (.sc (.int .i64 (nx x))) fun t35 => Cs false 1 t35 H K2) = K2 (.sc (.bool (u.contains (nx x)))) := by
    intro K2
    rw [e, Rs 1 W b 0 (nx x).toNat _ hi]
    refine Bj (c := .sc (.bool (u.contains (nx x)))) hb (by rw [Nq]; omega) ?_ rfl
    rw [zaw, zbR]
    refine Aja ?_
    rw [V6 _ _ _ hi, AkA u x h0]
   rw [hld]
   refine H0 ?_
   rw [Hb]
   cases hu : u.contains (nx x)
   refine Fq rfl ?_
   rfl
   refine F2 rfl ?_
   rw [Ew _ _ (by omega)]
   exact ih
  refine V8 ?_
  by_cases hg : x + 1 > 65535
  exact Fq (by simpa using hg) (body 1 (by unfold nx; omega))
  exact F2 (by simpa using hg) (body (x + 1) (by unfold nx; omega))
theorem Vz (hn : 1048576 < n) (W : Nat) (hW : W = 65536) (u : List Int) (hu : u.length ≤ 1048576) (x : Int) (h0 : 0 ≤ x) (h1 : x ≤ 65535) (b : Nat) (K : KO β) (RES : Option β) (hK : ∀ H, K (.tup [.sc (.int .i64 (Hb u 65535 x).1), .sc (.bool (Hb u 65535 x).2)]) H = RES) : ∀ (t pre : List Int) (m : Nat) (H : Ab), u = pre ++ t → t.length < m → H[b]? = some ⟨Wa W pre, true, true⟩ →
  J8 (PR (n + 2) β) (n + 2) K m (.sc (.int .i64 x)) (.sl b 0 W 1) (Fo u) (.sc (.int .i64 u.length)) (.sc (.int .i64 pre.length)) H = RES
 | [], pre, m + 1, H, he, hm, hb => by
  rw [zam] at he
  rw [J8]
  simp only [Bf, Ay]
  rw [Ed, Ds, if_neg (by rw [he]; simp)]
  rw [← he] at hb
  rw [show (.sc (.int .i64 0) : AV) = .sc (.int .i64 ((0 : Nat) : Int)) from rfl, AaO (n := n + 2) W hW u b H hb K 65535 (n + 2) x 0 (by omega) (by omega) h0 h1]
  exact hK H
 | z :: t, pre, m + 1, H, he, hm, hb => by
  have hlt : pre.length < u.length := by rw [he]; simp
  rw [J8]
  simp only [Bf, Ay, B5, Bn, Bs]
  rw [Ed, Ds, if_pos (by simpa using hlt)]
  have hel : ∀ K2 : AV → Option β, (Es 1 (Fo u) (.sc (.int .i64 pre.length)) fun t18 => Cs false 1 t18 H K2) = K2 (.sc (.int .i64 z)) := by
   intro K2
   rw [Iz, he, K9 (β := β) (enc := Rf) (fun _ => rfl) (by decide) pre z t]
   exact ldI z _ H K2
  rw [hel]
  refine Dk rfl (Bk (C4 _ _) Dw) (Akx n _ z) ?_
  cases hz : inR z 1 65535
  refine F2 rfl ?_
  rw [Ew _ _ (by omega)]
  have ih := Vz hn W hW u hu x h0 h1 b K RES hK t (pre ++ [z]) m H (by rw [he]; simp) (by simpa using hm) (by rw [Ahl W pre z hz]; exact hb)
  rw [zag, zap] at ih
  exact ih
  refine Fq rfl ?_
  have hz2 : 1 ≤ z ∧ z ≤ 65535 := by
   rw [inR, zah, decide_eq_true_eq, decide_eq_true_eq] at hz
   exact hz
  have ez : z = ((z.toNat : Nat) : Int) := by omega
  have hbl : b < H.length := (zac.1 hb).1
  rw [show (.sc (.int .i64 z) : AV) = .sc (.int .i64 ((z.toNat : Nat) : Int)) by rw [← ez], Rs 1 W b 0 z.toNat _ (by omega)]
  rw [Hq 1 b (0 + z.toNat * 1) _ _ [.sc (.bool true)] _ _ hb rfl rfl (by show _ ≤ (Wa W pre).length; rw [Nq]; omega) rfl]
  have hs := Ajl W pre z.toNat (by omega) (by rw [← ez]; exact hz)
  rw [Ew _ _ (by omega)]
  have ih := Vz hn W hW u hu x h0 h1 b K RES hK t (pre ++ [z]) m (H.set b ⟨Cf (Wa W pre) (0 + z.toNat * 1) [.sc (.bool true)], true, true⟩) (by rw [he]; simp) (by simpa using hm) (by rw [zaR hbl, hs, ← ez])
  rw [zag, zap] at ih
  exact ih
theorem Afx {ty : Nat} {H : Ab} {t0 t1 : Nat} {a b : Value} (hts : E0.tp ty = some [t0, t1]) : Be Ap E0.tp ty H (.tup [.sc a, .sc b]) = some (.tup [.sc a, .sc b]) := by
 rw [Be, Gc, hts, zab]
 rfl
theorem Aco (n : Nat) (hn : 1048576 < n) (ty : Nat) (hty : ∃ t0 t1, E0.tp ty = some [t0, t1]) (x : Int) (u : List Int) (hu : u.length ≤ 1048576) : Ct E0 (n + 3) ty 85 [.sc (.int .i64 x), Fo u] = some (.tup [.sc (.int .i64 (A9 x u).1), .sc (.bool (A9 x u).2)]) := by
 obtain ⟨t0, t1, hts⟩ := hty
 rw [A2, AiA, f85]
 simp only [Fn, Ay, D8, B0]
 refine Dk rfl (Bk (C4 _ _) Dw) (AgG n _ x) (H0 ?_)
 cases hx : inR x 0 65535
 refine Fq rfl ?_
 have hn : ¬(0 ≤ x ∧ x ≤ 65535) := by
  intro h
  rw [inR, decide_eq_true h.1, decide_eq_true h.2] at hx
  cases hx
 rw [A9, if_neg hn]
 exact Afx hts
 refine F2 rfl ?_
 rw [inR, zah, decide_eq_true_eq, decide_eq_true_eq] at hx
 rw [A9, if_pos hx]
 obtain ⟨W, hW⟩ : ∃ W : Nat, W = 65536 := ⟨_, rfl⟩
 rw [AgM W hW]
 exact Do (Vz (n := n) (by omega) W hW u hu x hx.1 hx.2 0 _ _ (fun H => Afx hts) u [] (n + 2) _ rfl (by omega) rfl)
end
section
open Go
theorem Un (n : Nat) (u : List Int) (hu : u.length ≤ 1048576) (z : Int) (k : AV → Ab → Option AV) : ∀ (t pre : List Int) (m : Nat) (i : Int) (H : Ab), u = pre ++ t → i = ((pre.length : Nat) : Int) → t.length < m → L6 (PR n AV) n k m (Fo u) (.sc (.int .i64 z)) (.sc (.int .i64 i)) H = k (.sc (.bool (t.contains z))) H
 | [], pre, m + 1, i, H, he, hi, hm => by
  rw [zam] at he
  subst he
  rw [L6]
  simp only [B0, Bf, Ay]
  refine Do (A1 (v := .sc (.bool (decide (i < (u.length : Nat))))) (fun k => rfl) (F2 (by simp [hi]) ?_))
  rfl
 | y :: t, pre, m + 1, i, H, he, hi, hm => by
  have hlt : pre.length < u.length := by rw [he]; simp
  rw [L6]
  simp only [B0, Bf, Ay, B5, Bn]
  refine Do (A1 (v := .sc (.bool (decide (i < (u.length : Nat))))) (fun k => rfl) (Fq (by simp [hi]; omega) ((show Gd (· = k (.sc (.bool ((y :: t).contains z))) H) _ from ?_))))
  refine Acu hi he (AeE (c := .sc (.int .i64 y)) rfl (Bh ?_))
  by_cases hy : y = z
  refine Co (by simpa using hy) ?_
  show k _ H = k _ H
  simp [hy]
  refine Bt (by simpa using hy) (Hx (by omega) (by omega) ?_)
  have ih := Un n u hu z k t (pre ++ [y]) m (i + 1) H (by rw [he]; simp) (by rw [hi]; simp) (by simpa using hm)
  refine ih.trans ?_
  have e : (y :: t).contains z = t.contains z := by
   rw [List.contains_cons]
   simp [Ne.symm hy]
  rw [e]
theorem Akv (n ty : Nat) (hn : 1048576 < n) (u : List Int) (hu : u.length ≤ 1048576) (z : Int) : Ct E0 (n + 1) ty 139 [Fo u, .sc (.int .i64 z)] = some (.sc (.bool (u.contains z))) := by
 rw [A2, Agh, f139]
 exact Un n u hu z _ u [] n 0 [] rfl rfl (by omega)
theorem Ak3 (x : Int) (h0 : 0 ≤ x) (h1 : x ≤ 65535) : nx x = if x + 1 > 65535 then 1 else x + 1 := by
 unfold nx
 split <;> omega
theorem Z1 (n : Nat) (hn : 1048576 < n) (u : List Int) (hu : u.length ≤ 1048576) (k : AV → Ab → Option AV) (H : Ab) : ∀ (j m : Nat) (x c : Int), 0 ≤ c → c + j = min ((u.length : Int) + 1) 65535 → j < m → 0 ≤ x → x ≤ 65535 →
  Kr (PR (n + 1) AV) (n + 1) k m (Fo u) (.sc (.int .i64 x)) (.sc (.int .i64 c)) H = k (.tup [.sc (.int .i64 (Hb u j x).1), .sc (.bool (Hb u j x).2)]) H := by
 intro j
 induction j with
 | zero =>
  intro m x c h0 hc hm hx0 hx1
  obtain ⟨m, rfl⟩ : ∃ m', m = m' + 1 := ⟨m - 1, by omega⟩
  rw [Kr]
  simp only [B0, Bf, Ay, B3, Pr.gT, Pr.gF, Pr.hT, Pr.hF, Pr.kT, Pr.kF, Ci]
  refine Do (A1 (v := .sc (.bool (decide (c ≤ (u.length : Nat))))) (fun k => rfl) ?_)
  by_cases hl : c ≤ (u.length : Nat)
  refine An (by simpa using hl) (An (by simpa using hl) (A1 (v := .sc (.bool (decide (c < 65535)))) (fun k => rfl) (Qu (by simpa using hl) (F2 (by simp; omega) ?_))))
  rfl
  refine Ao (by simpa using hl) (Ao (by simpa using hl) (Rm (by simpa using hl) (F2 rfl ?_)))
  rfl
 | succ j ih =>
  intro m x c h0 hc hm hx0 hx1
  obtain ⟨m, rfl⟩ : ∃ m', m = m' + 1 := ⟨m - 1, by omega⟩
  rw [Kr]
  simp only [B0, Bf, Ay, B3, Pr.gT, Pr.gF, Pr.hT, Pr.hF, Pr.kT, Pr.kF, Ci, Fn]
  refine Do (A1 (v := .sc (.bool (decide (c ≤ (u.length : Nat))))) (fun k => rfl) ?_)
  have hl : c ≤ (u.length : Nat) := by omega
  refine An (by simpa using hl) (An (by simpa using hl) (A1 (v := .sc (.bool (decide (c < 65535)))) (fun k => rfl) (Qu (by simpa using hl) (Fq (by simp; omega) (A1 (v := .sc (.int .i64 (x + 1))) (fun k => by rw [Q0, Gh _ (by omega) (by omega)]) (A1 (v := .sc (.bool (decide (x + 1 > 65535)))) (fun k => rfl) (V8 ?_)))))))
  have hnx := Ak3 x hx0 hx1
  have hr : 0 ≤ nx x ∧ nx x ≤ 65535 := by
   unfold nx
   omega
  have tail : ∀ y, y = nx x → ((PR (n + 1) AV).call 4 (.fn 139 [] []) [Fo u, .sc (.int .i64 y)] H fun t28 H => pUn .not t28 fun t29 => Hm t29 (k (Cy [.sc (.int .i64 y), .sc (.bool true)]) H) (E2 .add (.sc (.int .i64 c)) (.sc (.int .i64 1)) fun t21 => Kr (PR (n + 1) AV) (n + 1) k m (Fo u) (.sc (.int .i64 y)) t21 H)) = k (.tup [.sc (.int .i64 (Hb u (j + 1) x).1), .sc (.bool (Hb u (j + 1) x).2)]) H := by
   rintro y rfl
   refine Dk rfl (Bk (Ei _ _ _) (Bk (C4 _ _) Dw)) (Akv n _ hn u hu (nx x)) (H0 ?_)
   rw [Hb]
   cases hh : u.contains (nx x)
   refine Fq rfl ?_
   rfl
   exact F2 rfl (A1 (v := .sc (.int .i64 (c + 1))) (fun k => by rw [Q0, Gh _ (by omega) (by omega)]) (ih m (nx x) (c + 1) (by omega) (by omega) (by omega) hr.1 hr.2))
  by_cases hg : x + 1 > 65535
  refine Fq (by simpa using hg) ?_
  rw [if_pos hg] at hnx
  exact tail 1 hnx.symm
  refine F2 (by simpa using hg) ?_
  rw [if_neg hg] at hnx
  exact tail (x + 1) hnx.symm
theorem Abc {ty : Nat} {H : Ab} {t0 t1 : Nat} {a b : Value} (hts : E0.tp ty = some [t0, t1]) : Be Ap E0.tp ty H (.tup [.sc a, .sc b]) = some (.tup [.sc a, .sc b]) := by
 rw [Be, Gc, hts, zab]
 simp [Cp, Ja]
theorem AcA (n : Nat) (hn : 1048576 < n) (ty : Nat) (hty : ∃ t0 t1, E0.tp ty = some [t0, t1]) (x : Int) (u : List Int) (hu : u.length ≤ 1048576) : Ct E0 (n + 2) ty 131 [.sc (.int .i64 x), Fo u] = some (.tup [.sc (.int .i64 (A9 x u).1), .sc (.bool (A9 x u).2)]) := by
 obtain ⟨t0, t1, hty⟩ := hty
 rw [A2, Agf, f131]
 simp only [Fn, Ay]
 refine Dk rfl (Bk (C4 _ _) (Bk (C4 _ _) (Bk (C4 _ _) Dw))) (O5 n _ x 0 65535) (H0 ?_)
 unfold A9
 by_cases h : 0 ≤ x ∧ x ≤ 65535
 rw [if_pos h]
 refine F2 (by simp [Fl, h]) ?_
 rw [Z1 n hn u hu _ _ (min (u.length + 1) 65535) (n + 1) x 0 (by omega) (by omega) (by omega) h.1 h.2, Ahg u x h.1]
 exact Abc hty
 rw [if_neg h]
 exact Fq (by simp [Fl]; omega) (Abc hty)
end
section
open Go
theorem Ak7 (o : Bm) (h : Gf o ≤ 1048576) : Og o := by
 have h1 := Aad o h
 exact ⟨⟨h1.1.1, fun y hy => (h1.1.2 y hy).1⟩, ⟨h1.2.1.1, fun y hy => (h1.2.1.2 y hy).1⟩⟩
def Ce (o : Bm) : Bool := ((Dt o && decide ((o.fQ.length : Int) > 0)) && ((o.fQ.headD Oe).fQos == 0 || decide ((o.fFl.length : Int) < 3)))
def Cd (o : Bm) : Int := (A9 o.fLast (o.fFl.map (·.fId))).1
def Af (o : Bm) : Bm := if Ce o then (if (Ad o.fQ).fQos = 0 then { o with fQ := o.fQ.tail } else ⟨Cd o, o.fFl ++ [⟨Cd o, Ad o.fQ, (Ad o.fQ).fQos⟩], o.fQ.tail⟩) else o
def A0 (o : Bm) : A5 := if Ce o then (if (Ad o.fQ).fQos = 0 then As (Ad o.fQ) 0 false else As (Ad o.fQ) (Cd o) false) else G0
theorem Ajc (o : Bm) (b : Gf o ≤ 1048576) : F6 Bv o.fQ ≤ 1048576 := by
 unfold Gf at b
 omega
theorem P7 (o : Bm) (b : Gf o ≤ 1048576) : o.fFl.length ≤ 1048576 := (Vn o b).1.1
theorem Li (o : Bm) (b : Gf o ≤ 1048576) : (Ad o.fQ).fBody.size ≤ 1048576 := (Aab o.fQ (Ajc o b)).2.1
theorem Ll (n : Nat) (hn : 1048576 < n) (x0 : Bm) (k0 : O8 x0) (b0 : Gf x0 ≤ 1048576) (h13 : (Ce x0) = true) (h21 : (decide (((Ad x0.fQ).fQos) = 0)) = false)  : ∀ (t pre : List Ae) (m : Nat) (i : Int) (i10 i17 i5 i3 i1 : Nat) (a5 x14 x15 x8 x7 : AV) (H : Ab), x0.fFl = pre ++ t → i = ((pre.length : Nat) : Int) → t.length < m → Ar a5 = true → Ar x14 = true → Ar x15 = true → Ar x8 = true → Ar x7 = true → Sep H [.own a5 39 (Fo (pre.map (·.fId))), .blk i10 [.sc (.int .i64 x0.fLast), x7, x15] true, .blk i17 [.sc (.string ((Ad x0.fQ).fTopic)), x14, .sc (.int .i64 ((Ad x0.fQ).fQos)), .sc (.bool (Ad x0.fQ).fRetain)] true, .own x14 22 (A3 ((Ad x0.fQ).fBody)), .own x15 25 (Al Ak x0.fQ.tail), .own x8 25 (Al Ak x0.fQ), .own x7 24 (Al Aq x0.fFl), .blk i5 [.sc (.int .i64 0), .sc (.bool false), .sc (.int .i64 0), .sc (.bool false), .sc (.int .i64 0), .sc (.string (⟨#[]⟩)), .nl, .sc (.string (⟨#[]⟩)), .sc (.int .i64 0), .sc (.bool false), .sc (.int .i64 0), .sc (.bool false), .sc (.string (⟨#[]⟩)), .nl, .sc (.int .i64 0), .sc (.bool false), .sc (.bool false), .sc (.string (⟨#[]⟩)), .sc (.bool false), .nl, .sc (.int .i64 0), .sc (.bool false), .nl, .nl, .nl] true, .blk i3 [.sc (.int .i64 0), .nl, .nl] true, .blk i1 (Bl x0) true] → Gd (· = some (.tup [.agg (Bl (Af x0)), .agg (Bp (A0 x0)), .sc (.bool (Ce x0))])) (L4 (PR (n + 12) AV) (n + 12) (fun x H => Be Ap E0.tp 45 H x) m (.ptr i1 0) (.ptr i3 0) (.ptr i5 0) (.ptr i10 0) (.ptr i17 0) (a5) (.sc (.int .i64 i)) H)
 | [], pre, m + 1, i, i10, i17, i5, i3, i1, a5, x14, x15, x8, x7, H, he, hi, hm, la5, lx14, lx15, lx8, lx7, s0 => by
  obtain rfl : pre = x0.fFl := by simpa using he.symm
  have hfl := P7 x0 b0
  have hpb := Li x0 b0
  rw [L4]
  try simp only [Qx, Qw]
  refine Aj (o' := 1) rfl (Au (c := Al Aq x0.fFl) s0 D9 rfl (Mv (Mw (Bt (by simp [hi]) (Aj (o' := 0) rfl (Au (c := .sc (.int .i64 x0.fLast)) s0 D9 rfl ?_))))))
  have c201 := AcA (n + 10) (by omega) 102 ⟨_, _, rfl⟩ x0.fLast (x0.fFl.map (·.fId)) (by rw [zb4]; omega)
  refine Gx s0 rfl (.cons .sc (.cons (.own (by decide) (.here)) .nil)) (c201) rfl (Db (Db Fz)) ?_
  rintro _ _ H ⟨_, rfl, ⟨_, rfl, ⟨rfl, rfl⟩⟩⟩ s202
  simp only [zae] at s202
  refine C7 (v := si ((A9 x0.fLast (x0.fFl.map (·.fId))).1)) rfl (C7 (v := .sc (.bool (A9 x0.fLast (x0.fFl.map (·.fId))).2)) rfl (Aj (o' := 0) rfl (B4 s202 A7 rfl rfl fun H s203 => Aj (o' := 1) rfl (Au (c := x7) s203 (.here) rfl (Ah s203 B9 rfl (Aj (o' := 2) rfl (Au (c := si ((Ad x0.fQ).fQos)) s203 B9 rfl (Bq (cs := [si ((A9 x0.fLast (x0.fFl.map (·.fId))).1), ss ((Ad x0.fQ).fTopic), x14, si ((Ad x0.fQ).fQos), .sc (.bool (Ad x0.fQ).fRetain), si ((Ad x0.fQ).fQos)]) (Eu (z' := [si ((A9 x0.fLast (x0.fFl.map (·.fId))).1), sE, .nl, i0, bF, i0]) (Cq rfl) rfl (Bb rfl) rfl (Eu (z' := [si ((A9 x0.fLast (x0.fFl.map (·.fId))).1), ss ((Ad x0.fQ).fTopic), x14, si ((Ad x0.fQ).fQos), .sc (.bool (Ad x0.fQ).fRetain), i0]) (Ac (Aa rfl (Aa lx14 rfl))) rfl (Bb rfl) rfl (Eu (z' := [si ((A9 x0.fLast (x0.fFl.map (·.fId))).1), ss ((Ad x0.fQ).fTopic), x14, si ((Ad x0.fQ).fQos), .sc (.bool (Ad x0.fQ).fRetain), si ((Ad x0.fQ).fQos)]) (Cq rfl) rfl (Bb rfl) rfl (rfl)))) (Bq (cs := [si ((A9 x0.fLast (x0.fFl.map (·.fId))).1), ss ((Ad x0.fQ).fTopic), x14, si ((Ad x0.fQ).fQos), .sc (.bool (Ad x0.fQ).fRetain), si ((Ad x0.fQ).fQos)]) (Eu (z' := [si ((A9 x0.fLast (x0.fFl.map (·.fId))).1), ss ((Ad x0.fQ).fTopic), x14, si ((Ad x0.fQ).fQos), .sc (.bool (Ad x0.fQ).fRetain), si ((Ad x0.fQ).fQos)]) (Ac (Aa rfl (Aa rfl (Aa lx14 rfl)))) rfl (Bb rfl) rfl (rfl)) (Cg s203 fun i204 H s205 => ?_))))))))))
  refine AaG (cty := [3, 9, 22, 3, 4, 3]) (e := (⟨(A9 x0.fLast (x0.fFl.map (·.fId))).1, ⟨(Ad x0.fQ).fTopic, (Ad x0.fQ).fBody, (Ad x0.fQ).fQos, (Ad x0.fQ).fRetain⟩, (Ad x0.fQ).fQos⟩ : Ae)) (k := 2) s205 ⟨_, _, rfl, rfl, rfl, rfl⟩ Yh (.here) rfl (Aa rfl (Aa rfl (Aa lx14 rfl))) (.sc (.sc (.own C3 (oS3 .nil)))) (Ku ⟨(Acz ((Ad x0.fQ).fBody)), (tK3 trivial)⟩) rfl (by omega) Ba rfl rfl rfl rfl (F4 ((Ad x0.fQ).fBody)) fun x206 H lx206 s207 => Aj (o' := 1) rfl (B4 s207 A7 lx206 rfl fun H s208 => Ah s208 (.here) rfl (Ah s208 C3 rfl ?_))
  have c209 := Yc (n + 11) (by omega) (Ad x0.fQ) ((A9 x0.fLast (x0.fFl.map (·.fId))).1) false hpb
  refine Gl s208 rfl (.agg (.cons .sc (.cons (.shr (by decide) A7) (Hw .nil))) (Hw .nil)) (c209) ⟨_, rfl, rfl⟩ (Dr _) ?_
  rintro _ _ H ⟨x210, x211, x212, x213, x214, x215, lx210, lx211, lx212, lx213, lx214, lx215, rfl, rfl⟩ s216
  simp only [zae, zao] at s216
  refine Bo (cs' := [si ((A9 x0.fLast (x0.fFl.map (·.fId))).1), x206, x15]) s216 Px (Ac (Aa rfl (Aa lx206 (Aa lx15 rfl)))) rfl (Bb rfl) rfl fun H s217 => ?_
  refine Bo (cs' := [.sc (.int .i64 ((As (Ad x0.fQ) ((A9 x0.fLast (x0.fFl.map (·.fId))).1) false).fType)), .sc (.bool (As (Ad x0.fQ) ((A9 x0.fLast (x0.fFl.map (·.fId))).1) false).fDup), .sc (.int .i64 ((As (Ad x0.fQ) ((A9 x0.fLast (x0.fFl.map (·.fId))).1) false).fQos)), .sc (.bool (As (Ad x0.fQ) ((A9 x0.fLast (x0.fFl.map (·.fId))).1) false).fRetain), .sc (.int .i64 ((As (Ad x0.fQ) ((A9 x0.fLast (x0.fFl.map (·.fId))).1) false).fId)), .sc (.string ((As (Ad x0.fQ) ((A9 x0.fLast (x0.fFl.map (·.fId))).1) false).fTopic)), x210, .sc (.string ((As (Ad x0.fQ) ((A9 x0.fLast (x0.fFl.map (·.fId))).1) false).fClient)), .sc (.int .i64 ((As (Ad x0.fQ) ((A9 x0.fLast (x0.fFl.map (·.fId))).1) false).fLevel)), .sc (.bool (As (Ad x0.fQ) ((A9 x0.fLast (x0.fFl.map (·.fId))).1) false).fClean), .sc (.int .i64 ((As (Ad x0.fQ) ((A9 x0.fLast (x0.fFl.map (·.fId))).1) false).fKeep)), .sc (.bool (As (Ad x0.fQ) ((A9 x0.fLast (x0.fFl.map (·.fId))).1) false).fHasWill), .sc (.string ((As (Ad x0.fQ) ((A9 x0.fLast (x0.fFl.map (·.fId))).1) false).fWTopic)), x211, .sc (.int .i64 ((As (Ad x0.fQ) ((A9 x0.fLast (x0.fFl.map (·.fId))).1) false).fWQos)), .sc (.bool (As (Ad x0.fQ) ((A9 x0.fLast (x0.fFl.map (·.fId))).1) false).fWRetain), .sc (.bool (As (Ad x0.fQ) ((A9 x0.fLast (x0.fFl.map (·.fId))).1) false).fHasUser), .sc (.string ((As (Ad x0.fQ) ((A9 x0.fLast (x0.fFl.map (·.fId))).1) false).fUser)), .sc (.bool (As (Ad x0.fQ) ((A9 x0.fLast (x0.fFl.map (·.fId))).1) false).fHasPass), x212, .sc (.int .i64 ((As (Ad x0.fQ) ((A9 x0.fLast (x0.fFl.map (·.fId))).1) false).fCode)), .sc (.bool (As (Ad x0.fQ) ((A9 x0.fLast (x0.fFl.map (·.fId))).1) false).fPresent), x213, x214, x215]) s217 Px (Ac (Aa rfl (Aa rfl (Aa rfl (Aa rfl (Aa rfl (Aa rfl (Aa lx210 (Aa rfl (Aa rfl (Aa rfl (Aa rfl (Aa rfl (Aa rfl (Aa lx211 (Aa rfl (Aa rfl (Aa rfl (Aa rfl (Aa rfl (Aa lx212 (Aa rfl (Aa rfl (Aa lx213 (Aa lx214 (Aa lx215 rfl)))))))))))))))))))))))))) rfl (Bb rfl) rfl fun H s218 => Ah s218 A7 rfl (Ah s218 (.here) rfl ?_)
  have s219 := s218.forget D9
  refine Dd (Dq s219 rfl (.agg ⟨_, rfl, rfl⟩ (.sc (.own (.here) (.own It .nil))) (.agg ⟨_, rfl, rfl⟩ (Hd (.own Yh (Hd (.own zP6 (Mn (.own Oi (.sc (.sc (.own F5 (.own C3 (.own B9 .nil))))))))))) (.sc .nil))) ⟨(Eh ⟨_, rfl, rfl⟩ ⟨trivial, ⟨(At (Cj (x0.fFl ++ [⟨(A9 x0.fLast (x0.fFl.map (·.fId))).1, ⟨(Ad x0.fQ).fTopic, (Ad x0.fQ).fBody, (Ad x0.fQ).fQos, (Ad x0.fQ).fRetain⟩, (Ad x0.fQ).fQos⟩])) (by decide)), ⟨(At (D7 x0.fQ.tail) (by decide)), trivial⟩⟩⟩), ⟨(Eh ⟨_, rfl, rfl⟩ (Hf ⟨(At (F4 ((As (Ad x0.fQ) ((A9 x0.fLast (x0.fFl.map (·.fId))).1) false).fBody)) (by decide)), (Hf ⟨(At (F4 ((As (Ad x0.fQ) ((A9 x0.fLast (x0.fFl.map (·.fId))).1) false).fWBody)) (by decide)), (Mk ⟨(At (F4 ((As (Ad x0.fQ) ((A9 x0.fLast (x0.fFl.map (·.fId))).1) false).fPass)) (by decide)), (Ku ⟨(At (Hn ((As (Ad x0.fQ) ((A9 x0.fLast (x0.fFl.map (·.fId))).1) false).fWants)) (by decide)), ⟨(At (Qh ((As (Ad x0.fQ) ((A9 x0.fLast (x0.fFl.map (·.fId))).1) false).fNames)) (by decide)), ⟨(At (Qg ((As (Ad x0.fQ) ((A9 x0.fLast (x0.fFl.map (·.fId))).1) false).fCodes)) (by decide)), trivial⟩⟩⟩)⟩)⟩)⟩)), ⟨trivial, trivial⟩⟩⟩) ?_
  have e220 : Af x0 = (⟨(A9 x0.fLast (x0.fFl.map (·.fId))).1, (x0.fFl ++ [⟨(A9 x0.fLast (x0.fFl.map (·.fId))).1, ⟨(Ad x0.fQ).fTopic, (Ad x0.fQ).fBody, (Ad x0.fQ).fQos, (Ad x0.fQ).fRetain⟩, (Ad x0.fQ).fQos⟩]), x0.fQ.tail⟩ : Bm) := by
   clear s0 s202 s203 s205 s207 s208 s216 s217 s218 s219
   try simp only [bne_iff_ne, beq_iff_eq, beq_eq_false_iff_ne, F7] at h13 h21
   first | assumption | (simp only [Af, A0, Cd, h13, h21, if_true, if_false, zaj]; first | done | rfl)
  have e221 : A0 x0 = (⟨(As (Ad x0.fQ) ((A9 x0.fLast (x0.fFl.map (·.fId))).1) false).fType, (As (Ad x0.fQ) ((A9 x0.fLast (x0.fFl.map (·.fId))).1) false).fDup, (As (Ad x0.fQ) ((A9 x0.fLast (x0.fFl.map (·.fId))).1) false).fQos, (As (Ad x0.fQ) ((A9 x0.fLast (x0.fFl.map (·.fId))).1) false).fRetain, (As (Ad x0.fQ) ((A9 x0.fLast (x0.fFl.map (·.fId))).1) false).fId, (As (Ad x0.fQ) ((A9 x0.fLast (x0.fFl.map (·.fId))).1) false).fTopic, (As (Ad x0.fQ) ((A9 x0.fLast (x0.fFl.map (·.fId))).1) false).fBody, (As (Ad x0.fQ) ((A9 x0.fLast (x0.fFl.map (·.fId))).1) false).fClient, (As (Ad x0.fQ) ((A9 x0.fLast (x0.fFl.map (·.fId))).1) false).fLevel, (As (Ad x0.fQ) ((A9 x0.fLast (x0.fFl.map (·.fId))).1) false).fClean, (As (Ad x0.fQ) ((A9 x0.fLast (x0.fFl.map (·.fId))).1) false).fKeep, (As (Ad x0.fQ) ((A9 x0.fLast (x0.fFl.map (·.fId))).1) false).fHasWill, (As (Ad x0.fQ) ((A9 x0.fLast (x0.fFl.map (·.fId))).1) false).fWTopic, (As (Ad x0.fQ) ((A9 x0.fLast (x0.fFl.map (·.fId))).1) false).fWBody, (As (Ad x0.fQ) ((A9 x0.fLast (x0.fFl.map (·.fId))).1) false).fWQos, (As (Ad x0.fQ) ((A9 x0.fLast (x0.fFl.map (·.fId))).1) false).fWRetain, (As (Ad x0.fQ) ((A9 x0.fLast (x0.fFl.map (·.fId))).1) false).fHasUser, (As (Ad x0.fQ) ((A9 x0.fLast (x0.fFl.map (·.fId))).1) false).fUser, (As (Ad x0.fQ) ((A9 x0.fLast (x0.fFl.map (·.fId))).1) false).fHasPass, (As (Ad x0.fQ) ((A9 x0.fLast (x0.fFl.map (·.fId))).1) false).fPass, (As (Ad x0.fQ) ((A9 x0.fLast (x0.fFl.map (·.fId))).1) false).fCode, (As (Ad x0.fQ) ((A9 x0.fLast (x0.fFl.map (·.fId))).1) false).fPresent, ((As (Ad x0.fQ) ((A9 x0.fLast (x0.fFl.map (·.fId))).1) false).fWants), (As (Ad x0.fQ) ((A9 x0.fLast (x0.fFl.map (·.fId))).1) false).fNames, (As (Ad x0.fQ) ((A9 x0.fLast (x0.fFl.map (·.fId))).1) false).fCodes⟩ : A5) := by
   clear s0 s202 s203 s205 s207 s208 s216 s217 s218 s219
   try simp only [bne_iff_ne, beq_iff_eq, beq_eq_false_iff_ne, F7] at h13 h21
   first | assumption | (simp only [Af, A0, Cd, h13, h21, if_true, if_false, zaj]; first | done | rfl)
  have e222 : Ce x0 = true := by
   clear s0 s202 s203 s205 s207 s208 s216 s217 s218 s219
   try simp only [bne_iff_ne, beq_iff_eq, beq_eq_false_iff_ne, F7] at h13 h21
   first | assumption | (simp only [Af, A0, Cd, h13, h21, if_true, if_false, zaj]; first | done | rfl)
  ·rw [e220, e221, e222]
   first | done | rfl
 | y :: t, pre, m + 1, i, i10, i17, i5, i3, i1, a5, x14, x15, x8, x7, H, he, hi, hm, la5, lx14, lx15, lx8, lx7, s0 => by
  have hlt : pre.length < x0.fFl.length := by rw [he]; simp
  have hfl := P7 x0 b0
  have hpb := Li x0 b0
  rw [L4]
  try simp only [Qx, Qw]
  exact Aj (o' := 1) rfl (Au (c := Al Aq x0.fFl) s0 D9 rfl (Mv (Mw (Co (by simp [hi]; omega) (Aj (o' := 1) rfl (Au (c := Al Aq x0.fFl) s0 D9 rfl (Sr hi Ba (by decide) he (AaH (AeE (c := .sc (.int .i64 y.fId)) rfl (Bq (cs := [.sc (.int .i64 y.fId)]) rfl (Cg s0 fun i201 H s202 => AaF s202 A7 (.here) ⟨_, _, rfl, rfl, rfl, rfl⟩ rfl (by first | omega | (simp only [zb4]; omega)) fun x203 H lx203 s204 => Hx (by omega) (by omega) (Ll n hn x0 k0 b0 h13 h21  t (pre ++ [y]) m _ i10 i17 i5 i3 i1 x203 x14 x15 x8 x7 _ (by rw [he]; simp) (by rw [hi]; simp) (by simpa using hm) lx203 lx14 lx15 lx8 lx7 (by simpa only [za6, zax, zbx] using (s204.sel (.cons (.here) (.cons (.here) (.cons (.here) (.cons (.here) (.cons (.here) (.cons (.here) (.cons (.here) (.cons (.here) (.cons (.here) (.cons (.here) .nil))))))))))))))))))))))))
theorem T9 (n : Nat) (hn : 1048576 < n) (x0 : Bm) (k0 : O8 x0) (b0 : Gf x0 ≤ 1048576) : Ct E0 (n + 13) 45 113 [.agg (Bl x0)] = some (.tup [.agg (Bl (Af x0)), .agg (Bp (A0 x0)), .sc (.bool (Ce x0))]) := by
 rw [A2, AfT, f113]
 refine Gn (G := (· = some (.tup [.agg (Bl (Af x0)), .agg (Bp (A0 x0)), sb (Ce x0)]))) ?_
 have hfl := P7 x0 b0
 have hpb := Li x0 b0
 try simp only [Qx, Qw]
 have s0 : Sep [] [] := Gm
 refine Mf s0 (F9 (Hg _)) fun i1 H s2 => C8 s2 fun i3 H s4 => C8 s4 fun i5 H s6 => Ah s6 B9 rfl (Gl s6 rfl (.aggF (Hg _) .nil) (Sz (n + 8) (by omega) x0 (Ak7 x0 b0)) ⟨_, rfl, rfl⟩ (H6 _) ?_)
 rintro _ _ H ⟨x7, x8, lx7, lx8, rfl, rfl⟩ s9
 simp only [zae, zao] at s9
 refine C8 s9 fun i10 H s11 => Bo (cs' := [si x0.fLast, x7, x8]) s11 (.here) (Ac (Aa rfl (Aa lx7 (Aa lx8 rfl)))) rfl (Bb rfl) rfl fun H s12 => Ah s12 Oi rfl (Cc (v := (.bool (Ce x0))) s12 rfl (.aggF (Hg _) .nil) (M6 (n + 1) (by omega) x0 k0 b0) (Gt (Ag ((Ce x0)) (fun h13 => ?_) fun h13 => ?_)))
 refine Bt (nF h13) (Aj (o' := 2) rfl (Au (c := Al Ak x0.fQ) s12 Oi rfl (Gx s12 rfl (.cons .ro .nil) (Ac9 (n + 8) (by omega) x0.fQ k0.2.2 (Ajc x0 b0)) rfl (Kb (ty := 25) rfl (D7 x0.fQ.tail) (Ey ⟨_, rfl, rfl⟩ (AeT _) (Db Fz))) ?_)))
 rintro _ _ H ⟨x15, _, _, lx15, rfl, rfl, ⟨_, _, _, _, rfl, rfl, ⟨x14, lx14, rfl, rfl⟩, ⟨_, rfl, ⟨rfl, rfl⟩⟩⟩⟩ s16
 simp only [zae, zao] at s16
 refine C7 (v := x15) rfl (C7 (v := .agg [ss ((Ad x0.fQ).fTopic), x14, si ((Ad x0.fQ).fQos), .sc (.bool (Ad x0.fQ).fRetain)]) rfl (C7 (v := sb (Abg x0.fQ)) rfl (C8 s16 fun i17 H s18 => Bo (cs' := [ss ((Ad x0.fQ).fTopic), x14, si ((Ad x0.fQ).fQos), .sc (.bool (Ad x0.fQ).fRetain)]) s18 (.here) (Ac (Aa rfl (Aa lx14 rfl))) rfl (Bb rfl) rfl fun H s19 => Aj (o' := 2) rfl (Bo (cs' := [si x0.fLast, x7, x15]) s19 C3 (Cq lx15) rfl (Bb rfl) rfl fun H s20 => Aj (o' := 2) rfl (Au (c := si ((Ad x0.fQ).fQos)) s20 A7 rfl (Bh (Ag ((decide (((Ad x0.fQ).fQos) = 0))) (fun h21 => ?_) fun h21 => ?_)))))))
 refine Co h21 (Ah s20 (.here) rfl (Ah s20 A7 rfl ?_))
 have c22 := Yc (n + 11) (by omega) (Ad x0.fQ) 0 false hpb
 refine Gl s20 rfl (.agg (.cons .sc (.cons (.own (by decide) B9) (Hw .nil))) (Hw .nil)) (c22) ⟨_, rfl, rfl⟩ (Dr _) ?_
 rintro _ _ H ⟨x23, x24, x25, x26, x27, x28, lx23, lx24, lx25, lx26, lx27, lx28, rfl, rfl⟩ s29
 simp only [zae, zao] at s29
 refine Bo (cs' := [si x0.fLast, x7, x15]) s29 Px (Ac (Aa rfl (Aa lx7 (Aa lx15 rfl)))) rfl (Bb rfl) rfl fun H s30 => Bo (cs' := [si ((As (Ad x0.fQ) 0 false).fType), .sc (.bool (As (Ad x0.fQ) 0 false).fDup), si ((As (Ad x0.fQ) 0 false).fQos), .sc (.bool (As (Ad x0.fQ) 0 false).fRetain), si ((As (Ad x0.fQ) 0 false).fId), ss ((As (Ad x0.fQ) 0 false).fTopic), x23, ss ((As (Ad x0.fQ) 0 false).fClient), si ((As (Ad x0.fQ) 0 false).fLevel), .sc (.bool (As (Ad x0.fQ) 0 false).fClean), si ((As (Ad x0.fQ) 0 false).fKeep), .sc (.bool (As (Ad x0.fQ) 0 false).fHasWill), ss ((As (Ad x0.fQ) 0 false).fWTopic), x24, si ((As (Ad x0.fQ) 0 false).fWQos), .sc (.bool (As (Ad x0.fQ) 0 false).fWRetain), .sc (.bool (As (Ad x0.fQ) 0 false).fHasUser), ss ((As (Ad x0.fQ) 0 false).fUser), .sc (.bool (As (Ad x0.fQ) 0 false).fHasPass), x25, si ((As (Ad x0.fQ) 0 false).fCode), .sc (.bool (As (Ad x0.fQ) 0 false).fPresent), x26, x27, x28]) s30 Px (Ac (Aa rfl (Aa rfl (Aa rfl (Aa rfl (Aa rfl (Aa rfl (Aa lx23 (Aa rfl (Aa rfl (Aa rfl (Aa rfl (Aa rfl (Aa rfl (Aa lx24 (Aa rfl (Aa rfl (Aa rfl (Aa rfl (Aa rfl (Aa lx25 (Aa rfl (Aa rfl (Aa lx26 (Aa lx27 (Aa lx28 rfl)))))))))))))))))))))))))) rfl (Bb rfl) rfl fun H s31 => Ah s31 A7 rfl (Ah s31 (.here) rfl ?_)
 refine Dd (Dq s31 rfl (.agg ⟨_, rfl, rfl⟩ (.sc (.own Px (.own It .nil))) (.agg ⟨_, rfl, rfl⟩ (Hd (.own Yh (Hd (.own zP6 (Mn (.own Oi (.sc (.sc (.own F5 (.own C3 (.own B9 .nil))))))))))) (.sc .nil))) ⟨(Eh ⟨_, rfl, rfl⟩ ⟨trivial, ⟨(At (Cj x0.fFl) (by decide)), ⟨(At (D7 x0.fQ.tail) (by decide)), trivial⟩⟩⟩), ⟨(Eh ⟨_, rfl, rfl⟩ (Hf ⟨(At (F4 ((As (Ad x0.fQ) 0 false).fBody)) (by decide)), (Hf ⟨(At (F4 ((As (Ad x0.fQ) 0 false).fWBody)) (by decide)), (Mk ⟨(At (F4 ((As (Ad x0.fQ) 0 false).fPass)) (by decide)), (Ku ⟨(At (Hn ((As (Ad x0.fQ) 0 false).fWants)) (by decide)), ⟨(At (Qh ((As (Ad x0.fQ) 0 false).fNames)) (by decide)), ⟨(At (Qg ((As (Ad x0.fQ) 0 false).fCodes)) (by decide)), trivial⟩⟩⟩)⟩)⟩)⟩)), ⟨trivial, trivial⟩⟩⟩) ?_
 have e32 : Af x0 = (⟨x0.fLast, x0.fFl, x0.fQ.tail⟩ : Bm) := by
  clear s0 s2 s4 s6 s9 s11 s12 s16 s18 s19 s20 s29 s30 s31
  try simp only [bne_iff_ne, beq_iff_eq, beq_eq_false_iff_ne, F7] at h13 h21
  first | assumption | (simp only [Af, A0, Cd, h13, h21, if_true, if_false, zaj]; first | done | rfl)
 have e33 : A0 x0 = (⟨(As (Ad x0.fQ) 0 false).fType, (As (Ad x0.fQ) 0 false).fDup, (As (Ad x0.fQ) 0 false).fQos, (As (Ad x0.fQ) 0 false).fRetain, (As (Ad x0.fQ) 0 false).fId, (As (Ad x0.fQ) 0 false).fTopic, (As (Ad x0.fQ) 0 false).fBody, (As (Ad x0.fQ) 0 false).fClient, (As (Ad x0.fQ) 0 false).fLevel, (As (Ad x0.fQ) 0 false).fClean, (As (Ad x0.fQ) 0 false).fKeep, (As (Ad x0.fQ) 0 false).fHasWill, (As (Ad x0.fQ) 0 false).fWTopic, (As (Ad x0.fQ) 0 false).fWBody, (As (Ad x0.fQ) 0 false).fWQos, (As (Ad x0.fQ) 0 false).fWRetain, (As (Ad x0.fQ) 0 false).fHasUser, (As (Ad x0.fQ) 0 false).fUser, (As (Ad x0.fQ) 0 false).fHasPass, (As (Ad x0.fQ) 0 false).fPass, (As (Ad x0.fQ) 0 false).fCode, (As (Ad x0.fQ) 0 false).fPresent, ((As (Ad x0.fQ) 0 false).fWants), (As (Ad x0.fQ) 0 false).fNames, (As (Ad x0.fQ) 0 false).fCodes⟩ : A5) := by
  clear s0 s2 s4 s6 s9 s11 s12 s16 s18 s19 s20 s29 s30 s31
  try simp only [bne_iff_ne, beq_iff_eq, beq_eq_false_iff_ne, F7] at h13 h21
  first | assumption | (simp only [Af, A0, Cd, h13, h21, if_true, if_false, zaj]; first | done | rfl)
 have e34 : Ce x0 = true := by
  clear s0 s2 s4 s6 s9 s11 s12 s16 s18 s19 s20 s29 s30 s31
  try simp only [bne_iff_ne, beq_iff_eq, beq_eq_false_iff_ne, F7] at h13 h21
  first | assumption | (simp only [Af, A0, Cd, h13, h21, if_true, if_false, zaj]; first | done | rfl)
 ·rw [e32, e33, e34]
  first | done | rfl
 refine Bt h21 ?_
 have s35 := s20.nl (ty := 39) ⟨_, _, rfl, rfl⟩
 exact Ll n hn x0 k0 b0 h13 h21  x0.fFl [] _ 0 i10 i17 i5 i3 i1 .nl x14 x15 x8 x7 _ rfl rfl (by omega) rfl lx14 lx15 lx8 lx7 s35
 refine Co (nT h13) (Ah s12 (.here) rfl (Bq (cs := G4) rfl (Bo (cs' := [si x0.fLast, x7, x8]) s12 F5 (Ac (Aa rfl (Aa lx7 (Aa lx8 rfl)))) rfl (Bb rfl) rfl fun H s36 => Bo (cs' := G4) s36 F5 (Ac rfl) rfl (Bb rfl) rfl fun H s37 => Ah s37 A7 rfl (Ah s37 (.here) rfl (Dd (Dq s37 rfl (.agg ⟨_, rfl, rfl⟩ (.sc (.own F5 (.own C3 .nil))) (.agg ⟨_, rfl, rfl⟩ (Hd (.nl (Hd (.nl (Mn (.nl (.sc (.sc (.nl (.nl (.nl .nil))))))))))) (.sc .nil))) ⟨(Eh ⟨_, rfl, rfl⟩ ⟨trivial, ⟨(At (Cj x0.fFl) (by decide)), ⟨(At (D7 x0.fQ) (by decide)), trivial⟩⟩⟩), ⟨(Eh ⟨_, rfl, rfl⟩ (Hf ⟨Dv, (Hf ⟨Dv, (Mk ⟨Dv, (Ku ⟨Dv, ⟨Dv, ⟨Dv, trivial⟩⟩⟩)⟩)⟩)⟩)), ⟨trivial, trivial⟩⟩⟩) ?_)))))
 have e38 : Af x0 = (⟨x0.fLast, x0.fFl, x0.fQ⟩ : Bm) := by
  clear s0 s2 s4 s6 s9 s11 s12 s36 s37
  try simp only [bne_iff_ne, beq_iff_eq, beq_eq_false_iff_ne, F7] at h13
  first | assumption | (simp only [Af, A0, Cd, h13, if_true, if_false, zaj]; first | done | rfl)
 have e39 : A0 x0 = (⟨0, false, 0, false, 0, ⟨#[]⟩, ⟨#[]⟩, ⟨#[]⟩, 0, false, 0, false, ⟨#[]⟩, ⟨#[]⟩, 0, false, false, ⟨#[]⟩, false, ⟨#[]⟩, 0, false, [], [], []⟩ : A5) := by
  clear s0 s2 s4 s6 s9 s11 s12 s36 s37
  try simp only [bne_iff_ne, beq_iff_eq, beq_eq_false_iff_ne, F7] at h13
  first | assumption | (simp only [Af, A0, Cd, h13, if_true, if_false, zaj]; first | done | rfl)
 have e40 : Ce x0 = false := by
  clear s0 s2 s4 s6 s9 s11 s12 s36 s37
  try simp only [bne_iff_ne, beq_iff_eq, beq_eq_false_iff_ne, F7] at h13
  first | assumption | (simp only [Af, A0, Cd, h13, if_true, if_false, zaj]; first | done | rfl)
 ·rw [e38, e39, e40]
  first | done | rfl
theorem La (n : Nat) (hn : 1048576 < n) (x0 : Bm) (k0 : O8 x0) (b0 : Gf x0 ≤ 1048576) (h13 : (Ce x0) = true) (h21 : (decide (((Ad x0.fQ).fQos) = 0)) = false)  : ∀ (t pre : List Ae) (m : Nat) (i : Int) (i10 i17 i5 i3 i1 : Nat) (a5 x14 x15 x8 x7 : AV) (H : Ab), x0.fFl = pre ++ t → i = ((pre.length : Nat) : Int) → t.length < m → Ar a5 = true → Ar x14 = true → Ar x15 = true → Ar x8 = true → Ar x7 = true → Sep H [.own a5 39 (Fo (pre.map (·.fId))), .blk i10 [.sc (.int .i64 x0.fLast), x7, x15] true, .blk i17 [.sc (.string ((Ad x0.fQ).fTopic)), x14, .sc (.int .i64 ((Ad x0.fQ).fQos)), .sc (.bool (Ad x0.fQ).fRetain)] true, .own x14 22 (A3 ((Ad x0.fQ).fBody)), .own x15 25 (Al Ak x0.fQ.tail), .own x8 25 (Al Ak x0.fQ), .own x7 24 (Al Aq x0.fFl), .blk i5 [.sc (.int .i64 0), .sc (.bool false), .sc (.int .i64 0), .sc (.bool false), .sc (.int .i64 0), .sc (.string (⟨#[]⟩)), .nl, .sc (.string (⟨#[]⟩)), .sc (.int .i64 0), .sc (.bool false), .sc (.int .i64 0), .sc (.bool false), .sc (.string (⟨#[]⟩)), .nl, .sc (.int .i64 0), .sc (.bool false), .sc (.bool false), .sc (.string (⟨#[]⟩)), .sc (.bool false), .nl, .sc (.int .i64 0), .sc (.bool false), .nl, .nl, .nl] true, .blk i3 [.sc (.int .i64 0), .nl, .nl] true, .blk i1 (Bl x0) true] → Gd (· = some (.tup [.agg (Bl (Af x0)), .agg (Bp (A0 x0)), .sc (.bool (Ce x0))])) (N9 (PR (n + 12) AV) (n + 12) (fun x H => Be Ap E0.tp 45 H x) m (.ptr i1 0) (.ptr i3 0) (.ptr i5 0) (.ptr i10 0) (.ptr i17 0) (a5) (Al Aq x0.fFl) (.sc (.int .i64 ((x0.fFl.length : Nat) : Int))) (.sc (.int .i64 i)) H)
 | [], pre, m + 1, i, i10, i17, i5, i3, i1, a5, x14, x15, x8, x7, H, he, hi, hm, la5, lx14, lx15, lx8, lx7, s0 => by
  obtain rfl : pre = x0.fFl := by simpa using he.symm
  have hfl := P7 x0 b0
  have hpb := Li x0 b0
  rw [N9]
  try simp only [Qx, Qw]
  refine Mw (Bt (by simp [hi]) (Aj (o' := 0) rfl (Au (c := .sc (.int .i64 x0.fLast)) s0 D9 rfl ?_)))
  have c201 := Aco (n + 9) (by omega) 102 ⟨_, _, rfl⟩ x0.fLast (x0.fFl.map (·.fId)) (by rw [zb4]; omega)
  refine Gx s0 rfl (.cons .sc (.cons (.own (by decide) (.here)) .nil)) (c201) rfl (Db (Db Fz)) ?_
  rintro _ _ H ⟨_, rfl, ⟨_, rfl, ⟨rfl, rfl⟩⟩⟩ s202
  simp only [zae] at s202
  refine C7 (v := si ((A9 x0.fLast (x0.fFl.map (·.fId))).1)) rfl (C7 (v := .sc (.bool (A9 x0.fLast (x0.fFl.map (·.fId))).2)) rfl (Aj (o' := 0) rfl (B4 s202 A7 rfl rfl fun H s203 => Aj (o' := 1) rfl (Au (c := x7) s203 (.here) rfl (Ah s203 B9 rfl (Aj (o' := 2) rfl (Au (c := si ((Ad x0.fQ).fQos)) s203 B9 rfl (Bq (cs := [si ((A9 x0.fLast (x0.fFl.map (·.fId))).1), ss ((Ad x0.fQ).fTopic), x14, si ((Ad x0.fQ).fQos), .sc (.bool (Ad x0.fQ).fRetain), si ((Ad x0.fQ).fQos)]) (Eu (z' := [si ((A9 x0.fLast (x0.fFl.map (·.fId))).1), sE, .nl, i0, bF, i0]) (Cq rfl) rfl (Bb rfl) rfl (Eu (z' := [si ((A9 x0.fLast (x0.fFl.map (·.fId))).1), ss ((Ad x0.fQ).fTopic), x14, si ((Ad x0.fQ).fQos), .sc (.bool (Ad x0.fQ).fRetain), i0]) (Ac (Aa rfl (Aa lx14 rfl))) rfl (Bb rfl) rfl (Eu (z' := [si ((A9 x0.fLast (x0.fFl.map (·.fId))).1), ss ((Ad x0.fQ).fTopic), x14, si ((Ad x0.fQ).fQos), .sc (.bool (Ad x0.fQ).fRetain), si ((Ad x0.fQ).fQos)]) (Cq rfl) rfl (Bb rfl) rfl (rfl)))) (Bq (cs := [si ((A9 x0.fLast (x0.fFl.map (·.fId))).1), ss ((Ad x0.fQ).fTopic), x14, si ((Ad x0.fQ).fQos), .sc (.bool (Ad x0.fQ).fRetain), si ((Ad x0.fQ).fQos)]) (Eu (z' := [si ((A9 x0.fLast (x0.fFl.map (·.fId))).1), ss ((Ad x0.fQ).fTopic), x14, si ((Ad x0.fQ).fQos), .sc (.bool (Ad x0.fQ).fRetain), si ((Ad x0.fQ).fQos)]) (Ac (Aa rfl (Aa rfl (Aa lx14 rfl)))) rfl (Bb rfl) rfl (rfl)) (Cg s203 fun i204 H s205 => ?_))))))))))
  refine AaG (cty := [3, 9, 22, 3, 4, 3]) (e := (⟨(A9 x0.fLast (x0.fFl.map (·.fId))).1, ⟨(Ad x0.fQ).fTopic, (Ad x0.fQ).fBody, (Ad x0.fQ).fQos, (Ad x0.fQ).fRetain⟩, (Ad x0.fQ).fQos⟩ : Ae)) (k := 2) s205 ⟨_, _, rfl, rfl, rfl, rfl⟩ Yh (.here) rfl (Aa rfl (Aa rfl (Aa lx14 rfl))) (.sc (.sc (.own C3 (oS3 .nil)))) (Ku ⟨(Acz ((Ad x0.fQ).fBody)), (tK3 trivial)⟩) rfl (by omega) Ba rfl rfl rfl rfl (F4 ((Ad x0.fQ).fBody)) fun x206 H lx206 s207 => Aj (o' := 1) rfl (B4 s207 A7 lx206 rfl fun H s208 => Ah s208 (.here) rfl (Ah s208 C3 rfl ?_))
  have c209 := Xd (n + 10) (by omega) (Ad x0.fQ) ((A9 x0.fLast (x0.fFl.map (·.fId))).1) false hpb
  refine Gl s208 rfl (.agg (.cons .sc (.cons (.shr (by decide) A7) (Hw .nil))) (Hw .nil)) (c209) ⟨_, rfl, rfl⟩ (Dr _) ?_
  rintro _ _ H ⟨x210, x211, x212, x213, x214, x215, lx210, lx211, lx212, lx213, lx214, lx215, rfl, rfl⟩ s216
  simp only [zae, zao] at s216
  refine Bo (cs' := [si ((A9 x0.fLast (x0.fFl.map (·.fId))).1), x206, x15]) s216 Px (Ac (Aa rfl (Aa lx206 (Aa lx15 rfl)))) rfl (Bb rfl) rfl fun H s217 => ?_
  refine Bo (cs' := [.sc (.int .i64 ((As (Ad x0.fQ) ((A9 x0.fLast (x0.fFl.map (·.fId))).1) false).fType)), .sc (.bool (As (Ad x0.fQ) ((A9 x0.fLast (x0.fFl.map (·.fId))).1) false).fDup), .sc (.int .i64 ((As (Ad x0.fQ) ((A9 x0.fLast (x0.fFl.map (·.fId))).1) false).fQos)), .sc (.bool (As (Ad x0.fQ) ((A9 x0.fLast (x0.fFl.map (·.fId))).1) false).fRetain), .sc (.int .i64 ((As (Ad x0.fQ) ((A9 x0.fLast (x0.fFl.map (·.fId))).1) false).fId)), .sc (.string ((As (Ad x0.fQ) ((A9 x0.fLast (x0.fFl.map (·.fId))).1) false).fTopic)), x210, .sc (.string ((As (Ad x0.fQ) ((A9 x0.fLast (x0.fFl.map (·.fId))).1) false).fClient)), .sc (.int .i64 ((As (Ad x0.fQ) ((A9 x0.fLast (x0.fFl.map (·.fId))).1) false).fLevel)), .sc (.bool (As (Ad x0.fQ) ((A9 x0.fLast (x0.fFl.map (·.fId))).1) false).fClean), .sc (.int .i64 ((As (Ad x0.fQ) ((A9 x0.fLast (x0.fFl.map (·.fId))).1) false).fKeep)), .sc (.bool (As (Ad x0.fQ) ((A9 x0.fLast (x0.fFl.map (·.fId))).1) false).fHasWill), .sc (.string ((As (Ad x0.fQ) ((A9 x0.fLast (x0.fFl.map (·.fId))).1) false).fWTopic)), x211, .sc (.int .i64 ((As (Ad x0.fQ) ((A9 x0.fLast (x0.fFl.map (·.fId))).1) false).fWQos)), .sc (.bool (As (Ad x0.fQ) ((A9 x0.fLast (x0.fFl.map (·.fId))).1) false).fWRetain), .sc (.bool (As (Ad x0.fQ) ((A9 x0.fLast (x0.fFl.map (·.fId))).1) false).fHasUser), .sc (.string ((As (Ad x0.fQ) ((A9 x0.fLast (x0.fFl.map (·.fId))).1) false).fUser)), .sc (.bool (As (Ad x0.fQ) ((A9 x0.fLast (x0.fFl.map (·.fId))).1) false).fHasPass), x212, .sc (.int .i64 ((As (Ad x0.fQ) ((A9 x0.fLast (x0.fFl.map (·.fId))).1) false).fCode)), .sc (.bool (As (Ad x0.fQ) ((A9 x0.fLast (x0.fFl.map (·.fId))).1) false).fPresent), x213, x214, x215]) s217 Px (Ac (Aa rfl (Aa rfl (Aa rfl (Aa rfl (Aa rfl (Aa rfl (Aa lx210 (Aa rfl (Aa rfl (Aa rfl (Aa rfl (Aa rfl (Aa rfl (Aa lx211 (Aa rfl (Aa rfl (Aa rfl (Aa rfl (Aa rfl (Aa lx212 (Aa rfl (Aa rfl (Aa lx213 (Aa lx214 (Aa lx215 rfl)))))))))))))))))))))))))) rfl (Bb rfl) rfl fun H s218 => Ah s218 A7 rfl (Ah s218 (.here) rfl ?_)
  have s219 := s218.forget D9
  refine Dd (Dq s219 rfl (.agg ⟨_, rfl, rfl⟩ (.sc (.own (.here) (.own It .nil))) (.agg ⟨_, rfl, rfl⟩ (Hd (.own Yh (Hd (.own zP6 (Mn (.own Oi (.sc (.sc (.own F5 (.own C3 (.own B9 .nil))))))))))) (.sc .nil))) ⟨(Eh ⟨_, rfl, rfl⟩ ⟨trivial, ⟨(At (Cj (x0.fFl ++ [⟨(A9 x0.fLast (x0.fFl.map (·.fId))).1, ⟨(Ad x0.fQ).fTopic, (Ad x0.fQ).fBody, (Ad x0.fQ).fQos, (Ad x0.fQ).fRetain⟩, (Ad x0.fQ).fQos⟩])) (by decide)), ⟨(At (D7 x0.fQ.tail) (by decide)), trivial⟩⟩⟩), ⟨(Eh ⟨_, rfl, rfl⟩ (Hf ⟨(At (F4 ((As (Ad x0.fQ) ((A9 x0.fLast (x0.fFl.map (·.fId))).1) false).fBody)) (by decide)), (Hf ⟨(At (F4 ((As (Ad x0.fQ) ((A9 x0.fLast (x0.fFl.map (·.fId))).1) false).fWBody)) (by decide)), (Mk ⟨(At (F4 ((As (Ad x0.fQ) ((A9 x0.fLast (x0.fFl.map (·.fId))).1) false).fPass)) (by decide)), (Ku ⟨(At (Hn ((As (Ad x0.fQ) ((A9 x0.fLast (x0.fFl.map (·.fId))).1) false).fWants)) (by decide)), ⟨(At (Qh ((As (Ad x0.fQ) ((A9 x0.fLast (x0.fFl.map (·.fId))).1) false).fNames)) (by decide)), ⟨(At (Qg ((As (Ad x0.fQ) ((A9 x0.fLast (x0.fFl.map (·.fId))).1) false).fCodes)) (by decide)), trivial⟩⟩⟩)⟩)⟩)⟩)), ⟨trivial, trivial⟩⟩⟩) ?_
  have e220 : Af x0 = (⟨(A9 x0.fLast (x0.fFl.map (·.fId))).1, (x0.fFl ++ [⟨(A9 x0.fLast (x0.fFl.map (·.fId))).1, ⟨(Ad x0.fQ).fTopic, (Ad x0.fQ).fBody, (Ad x0.fQ).fQos, (Ad x0.fQ).fRetain⟩, (Ad x0.fQ).fQos⟩]), x0.fQ.tail⟩ : Bm) := by
   clear s0 s202 s203 s205 s207 s208 s216 s217 s218 s219
   try simp only [bne_iff_ne, beq_iff_eq, beq_eq_false_iff_ne, F7] at h13 h21
   first | assumption | (simp only [Af, A0, Cd, h13, h21, if_true, if_false, zaj]; first | done | rfl)
  have e221 : A0 x0 = (⟨(As (Ad x0.fQ) ((A9 x0.fLast (x0.fFl.map (·.fId))).1) false).fType, (As (Ad x0.fQ) ((A9 x0.fLast (x0.fFl.map (·.fId))).1) false).fDup, (As (Ad x0.fQ) ((A9 x0.fLast (x0.fFl.map (·.fId))).1) false).fQos, (As (Ad x0.fQ) ((A9 x0.fLast (x0.fFl.map (·.fId))).1) false).fRetain, (As (Ad x0.fQ) ((A9 x0.fLast (x0.fFl.map (·.fId))).1) false).fId, (As (Ad x0.fQ) ((A9 x0.fLast (x0.fFl.map (·.fId))).1) false).fTopic, (As (Ad x0.fQ) ((A9 x0.fLast (x0.fFl.map (·.fId))).1) false).fBody, (As (Ad x0.fQ) ((A9 x0.fLast (x0.fFl.map (·.fId))).1) false).fClient, (As (Ad x0.fQ) ((A9 x0.fLast (x0.fFl.map (·.fId))).1) false).fLevel, (As (Ad x0.fQ) ((A9 x0.fLast (x0.fFl.map (·.fId))).1) false).fClean, (As (Ad x0.fQ) ((A9 x0.fLast (x0.fFl.map (·.fId))).1) false).fKeep, (As (Ad x0.fQ) ((A9 x0.fLast (x0.fFl.map (·.fId))).1) false).fHasWill, (As (Ad x0.fQ) ((A9 x0.fLast (x0.fFl.map (·.fId))).1) false).fWTopic, (As (Ad x0.fQ) ((A9 x0.fLast (x0.fFl.map (·.fId))).1) false).fWBody, (As (Ad x0.fQ) ((A9 x0.fLast (x0.fFl.map (·.fId))).1) false).fWQos, (As (Ad x0.fQ) ((A9 x0.fLast (x0.fFl.map (·.fId))).1) false).fWRetain, (As (Ad x0.fQ) ((A9 x0.fLast (x0.fFl.map (·.fId))).1) false).fHasUser, (As (Ad x0.fQ) ((A9 x0.fLast (x0.fFl.map (·.fId))).1) false).fUser, (As (Ad x0.fQ) ((A9 x0.fLast (x0.fFl.map (·.fId))).1) false).fHasPass, (As (Ad x0.fQ) ((A9 x0.fLast (x0.fFl.map (·.fId))).1) false).fPass, (As (Ad x0.fQ) ((A9 x0.fLast (x0.fFl.map (·.fId))).1) false).fCode, (As (Ad x0.fQ) ((A9 x0.fLast (x0.fFl.map (·.fId))).1) false).fPresent, ((As (Ad x0.fQ) ((A9 x0.fLast (x0.fFl.map (·.fId))).1) false).fWants), (As (Ad x0.fQ) ((A9 x0.fLast (x0.fFl.map (·.fId))).1) false).fNames, (As (Ad x0.fQ) ((A9 x0.fLast (x0.fFl.map (·.fId))).1) false).fCodes⟩ : A5) := by
   clear s0 s202 s203 s205 s207 s208 s216 s217 s218 s219
   try simp only [bne_iff_ne, beq_iff_eq, beq_eq_false_iff_ne, F7] at h13 h21
   first | assumption | (simp only [Af, A0, Cd, h13, h21, if_true, if_false, zaj]; first | done | rfl)
  have e222 : Ce x0 = true := by
   clear s0 s202 s203 s205 s207 s208 s216 s217 s218 s219
   try simp only [bne_iff_ne, beq_iff_eq, beq_eq_false_iff_ne, F7] at h13 h21
   first | assumption | (simp only [Af, A0, Cd, h13, h21, if_true, if_false, zaj]; first | done | rfl)
  ·rw [e220, e221, e222]
   first | done | rfl
 | y :: t, pre, m + 1, i, i10, i17, i5, i3, i1, a5, x14, x15, x8, x7, H, he, hi, hm, la5, lx14, lx15, lx8, lx7, s0 => by
  have hlt : pre.length < x0.fFl.length := by rw [he]; simp
  have hfl := P7 x0 b0
  have hpb := Li x0 b0
  rw [N9]
  try simp only [Qx, Qw]
  exact Mw (Co (by simp [hi]; omega) (Sr hi Ba (by decide) he (Ah4 (Ba _) (C8 s0 fun i201 H s202 => Bo (cs' := Aq y) s202 (.here) (F9 (Ee _)) rfl (Bb rfl) rfl fun H s203 => Aj (o' := 0) rfl (Au (c := .sc (.int .i64 y.fId)) s203 (.here) rfl (Bq (cs := [.sc (.int .i64 y.fId)]) rfl (Cg s203 fun i204 H s205 => AaF s205 B9 (.here) ⟨_, _, rfl, rfl, rfl, rfl⟩ rfl (by first | omega | (simp only [zb4]; omega)) fun x206 H lx206 s207 => Hx (by omega) (by omega) (La n hn x0 k0 b0 h13 h21  t (pre ++ [y]) m _ i10 i17 i5 i3 i1 x206 x14 x15 x8 x7 _ (by rw [he]; simp) (by rw [hi]; simp) (by simpa using hm) lx206 lx14 lx15 lx8 lx7 (by simpa only [za6, zax, zbx] using (s207.sel (.cons (.here) (.cons A7 (.cons A7 (.cons A7 (.cons A7 (.cons A7 (.cons A7 (.cons A7 (.cons A7 (.cons A7 .nil))))))))))))))))))))
theorem T7 (n : Nat) (hn : 1048576 < n) (x0 : Bm) (k0 : O8 x0) (b0 : Gf x0 ≤ 1048576) : Ct E0 (n + 13) 45 37 [.agg (Bl x0)] = some (.tup [.agg (Bl (Af x0)), .agg (Bp (A0 x0)), .sc (.bool (Ce x0))]) := by
 rw [A2, Aif, f37]
 refine Gn (G := (· = some (.tup [.agg (Bl (Af x0)), .agg (Bp (A0 x0)), sb (Ce x0)]))) ?_
 have hfl := P7 x0 b0
 have hpb := Li x0 b0
 try simp only [Qx, Qw]
 have s0 : Sep [] [] := Gm
 refine Mf s0 (F9 (Hg _)) fun i1 H s2 => C8 s2 fun i3 H s4 => C8 s4 fun i5 H s6 => Ah s6 B9 rfl (Gl s6 rfl (.aggF (Hg _) .nil) (Wv (n + 8) (by omega) x0 (Ak7 x0 b0)) ⟨_, rfl, rfl⟩ (H6 _) ?_)
 rintro _ _ H ⟨x7, x8, lx7, lx8, rfl, rfl⟩ s9
 simp only [zae, zao] at s9
 refine C8 s9 fun i10 H s11 => Bo (cs' := [si x0.fLast, x7, x8]) s11 (.here) (Ac (Aa rfl (Aa lx7 (Aa lx8 rfl)))) rfl (Bb rfl) rfl fun H s12 => Ah s12 Oi rfl (Cc (v := (.bool (Ce x0))) s12 rfl (.aggF (Hg _) .nil) (Mz (n + 1) (by omega) x0 k0 b0) (Gt (Ag ((Ce x0)) (fun h13 => ?_) fun h13 => ?_)))
 refine Bt (nF h13) (Aj (o' := 2) rfl (Au (c := Al Ak x0.fQ) s12 Oi rfl (Gx s12 rfl (.cons .ro .nil) (Acm (n + 8) (by omega) x0.fQ k0.2.2 (Ajc x0 b0)) rfl (Kb (ty := 25) rfl (D7 x0.fQ.tail) (Ey ⟨_, rfl, rfl⟩ (AeT _) (Db Fz))) ?_)))
 rintro _ _ H ⟨x15, _, _, lx15, rfl, rfl, ⟨_, _, _, _, rfl, rfl, ⟨x14, lx14, rfl, rfl⟩, ⟨_, rfl, ⟨rfl, rfl⟩⟩⟩⟩ s16
 simp only [zae, zao] at s16
 refine C7 (v := x15) rfl (C7 (v := .agg [ss ((Ad x0.fQ).fTopic), x14, si ((Ad x0.fQ).fQos), .sc (.bool (Ad x0.fQ).fRetain)]) rfl (C7 (v := sb (Abg x0.fQ)) rfl (C8 s16 fun i17 H s18 => Bo (cs' := [ss ((Ad x0.fQ).fTopic), x14, si ((Ad x0.fQ).fQos), .sc (.bool (Ad x0.fQ).fRetain)]) s18 (.here) (Ac (Aa rfl (Aa lx14 rfl))) rfl (Bb rfl) rfl fun H s19 => Aj (o' := 2) rfl (Bo (cs' := [si x0.fLast, x7, x15]) s19 C3 (Cq lx15) rfl (Bb rfl) rfl fun H s20 => Aj (o' := 2) rfl (Au (c := si ((Ad x0.fQ).fQos)) s20 A7 rfl (Bh (Ag ((decide (((Ad x0.fQ).fQos) = 0))) (fun h21 => ?_) fun h21 => ?_)))))))
 refine Co h21 (Ah s20 (.here) rfl (Ah s20 A7 rfl ?_))
 have c22 := Xd (n + 10) (by omega) (Ad x0.fQ) 0 false hpb
 refine Gl s20 rfl (.agg (.cons .sc (.cons (.own (by decide) B9) (Hw .nil))) (Hw .nil)) (c22) ⟨_, rfl, rfl⟩ (Dr _) ?_
 rintro _ _ H ⟨x23, x24, x25, x26, x27, x28, lx23, lx24, lx25, lx26, lx27, lx28, rfl, rfl⟩ s29
 simp only [zae, zao] at s29
 refine Bo (cs' := [si x0.fLast, x7, x15]) s29 Px (Ac (Aa rfl (Aa lx7 (Aa lx15 rfl)))) rfl (Bb rfl) rfl fun H s30 => Bo (cs' := [si ((As (Ad x0.fQ) 0 false).fType), .sc (.bool (As (Ad x0.fQ) 0 false).fDup), si ((As (Ad x0.fQ) 0 false).fQos), .sc (.bool (As (Ad x0.fQ) 0 false).fRetain), si ((As (Ad x0.fQ) 0 false).fId), ss ((As (Ad x0.fQ) 0 false).fTopic), x23, ss ((As (Ad x0.fQ) 0 false).fClient), si ((As (Ad x0.fQ) 0 false).fLevel), .sc (.bool (As (Ad x0.fQ) 0 false).fClean), si ((As (Ad x0.fQ) 0 false).fKeep), .sc (.bool (As (Ad x0.fQ) 0 false).fHasWill), ss ((As (Ad x0.fQ) 0 false).fWTopic), x24, si ((As (Ad x0.fQ) 0 false).fWQos), .sc (.bool (As (Ad x0.fQ) 0 false).fWRetain), .sc (.bool (As (Ad x0.fQ) 0 false).fHasUser), ss ((As (Ad x0.fQ) 0 false).fUser), .sc (.bool (As (Ad x0.fQ) 0 false).fHasPass), x25, si ((As (Ad x0.fQ) 0 false).fCode), .sc (.bool (As (Ad x0.fQ) 0 false).fPresent), x26, x27, x28]) s30 Px (Ac (Aa rfl (Aa rfl (Aa rfl (Aa rfl (Aa rfl (Aa rfl (Aa lx23 (Aa rfl (Aa rfl (Aa rfl (Aa rfl (Aa rfl (Aa rfl (Aa lx24 (Aa rfl (Aa rfl (Aa rfl (Aa rfl (Aa rfl (Aa lx25 (Aa rfl (Aa rfl (Aa lx26 (Aa lx27 (Aa lx28 rfl)))))))))))))))))))))))))) rfl (Bb rfl) rfl fun H s31 => Ah s31 A7 rfl (Ah s31 (.here) rfl ?_)
 refine Dd (Dq s31 rfl (.agg ⟨_, rfl, rfl⟩ (.sc (.own Px (.own It .nil))) (.agg ⟨_, rfl, rfl⟩ (Hd (.own Yh (Hd (.own zP6 (Mn (.own Oi (.sc (.sc (.own F5 (.own C3 (.own B9 .nil))))))))))) (.sc .nil))) ⟨(Eh ⟨_, rfl, rfl⟩ ⟨trivial, ⟨(At (Cj x0.fFl) (by decide)), ⟨(At (D7 x0.fQ.tail) (by decide)), trivial⟩⟩⟩), ⟨(Eh ⟨_, rfl, rfl⟩ (Hf ⟨(At (F4 ((As (Ad x0.fQ) 0 false).fBody)) (by decide)), (Hf ⟨(At (F4 ((As (Ad x0.fQ) 0 false).fWBody)) (by decide)), (Mk ⟨(At (F4 ((As (Ad x0.fQ) 0 false).fPass)) (by decide)), (Ku ⟨(At (Hn ((As (Ad x0.fQ) 0 false).fWants)) (by decide)), ⟨(At (Qh ((As (Ad x0.fQ) 0 false).fNames)) (by decide)), ⟨(At (Qg ((As (Ad x0.fQ) 0 false).fCodes)) (by decide)), trivial⟩⟩⟩)⟩)⟩)⟩)), ⟨trivial, trivial⟩⟩⟩) ?_
 have e32 : Af x0 = (⟨x0.fLast, x0.fFl, x0.fQ.tail⟩ : Bm) := by
  clear s0 s2 s4 s6 s9 s11 s12 s16 s18 s19 s20 s29 s30 s31
  try simp only [bne_iff_ne, beq_iff_eq, beq_eq_false_iff_ne, F7] at h13 h21
  first | assumption | (simp only [Af, A0, Cd, h13, h21, if_true, if_false, zaj]; first | done | rfl)
 have e33 : A0 x0 = (⟨(As (Ad x0.fQ) 0 false).fType, (As (Ad x0.fQ) 0 false).fDup, (As (Ad x0.fQ) 0 false).fQos, (As (Ad x0.fQ) 0 false).fRetain, (As (Ad x0.fQ) 0 false).fId, (As (Ad x0.fQ) 0 false).fTopic, (As (Ad x0.fQ) 0 false).fBody, (As (Ad x0.fQ) 0 false).fClient, (As (Ad x0.fQ) 0 false).fLevel, (As (Ad x0.fQ) 0 false).fClean, (As (Ad x0.fQ) 0 false).fKeep, (As (Ad x0.fQ) 0 false).fHasWill, (As (Ad x0.fQ) 0 false).fWTopic, (As (Ad x0.fQ) 0 false).fWBody, (As (Ad x0.fQ) 0 false).fWQos, (As (Ad x0.fQ) 0 false).fWRetain, (As (Ad x0.fQ) 0 false).fHasUser, (As (Ad x0.fQ) 0 false).fUser, (As (Ad x0.fQ) 0 false).fHasPass, (As (Ad x0.fQ) 0 false).fPass, (As (Ad x0.fQ) 0 false).fCode, (As (Ad x0.fQ) 0 false).fPresent, ((As (Ad x0.fQ) 0 false).fWants), (As (Ad x0.fQ) 0 false).fNames, (As (Ad x0.fQ) 0 false).fCodes⟩ : A5) := by
  clear s0 s2 s4 s6 s9 s11 s12 s16 s18 s19 s20 s29 s30 s31
  try simp only [bne_iff_ne, beq_iff_eq, beq_eq_false_iff_ne, F7] at h13 h21
  first | assumption | (simp only [Af, A0, Cd, h13, h21, if_true, if_false, zaj]; first | done | rfl)
 have e34 : Ce x0 = true := by
  clear s0 s2 s4 s6 s9 s11 s12 s16 s18 s19 s20 s29 s30 s31
  try simp only [bne_iff_ne, beq_iff_eq, beq_eq_false_iff_ne, F7] at h13 h21
  first | assumption | (simp only [Af, A0, Cd, h13, h21, if_true, if_false, zaj]; first | done | rfl)
 ·rw [e32, e33, e34]
  first | done | rfl
 refine Bt h21 (Aj (o' := 1) rfl (Au (c := Al Aq x0.fFl) s20 Ua rfl (Mv ?_)))
 have s35 := s20.nl (ty := 39) ⟨_, _, rfl, rfl⟩
 exact La n hn x0 k0 b0 h13 h21  x0.fFl [] _ 0 i10 i17 i5 i3 i1 .nl x14 x15 x8 x7 _ rfl rfl (by omega) rfl lx14 lx15 lx8 lx7 s35
 refine Co (nT h13) (Ah s12 (.here) rfl (Bq (cs := G4) rfl (Bo (cs' := [si x0.fLast, x7, x8]) s12 F5 (Ac (Aa rfl (Aa lx7 (Aa lx8 rfl)))) rfl (Bb rfl) rfl fun H s36 => Bo (cs' := G4) s36 F5 (Ac rfl) rfl (Bb rfl) rfl fun H s37 => Ah s37 A7 rfl (Ah s37 (.here) rfl (Dd (Dq s37 rfl (.agg ⟨_, rfl, rfl⟩ (.sc (.own F5 (.own C3 .nil))) (.agg ⟨_, rfl, rfl⟩ (Hd (.nl (Hd (.nl (Mn (.nl (.sc (.sc (.nl (.nl (.nl .nil))))))))))) (.sc .nil))) ⟨(Eh ⟨_, rfl, rfl⟩ ⟨trivial, ⟨(At (Cj x0.fFl) (by decide)), ⟨(At (D7 x0.fQ) (by decide)), trivial⟩⟩⟩), ⟨(Eh ⟨_, rfl, rfl⟩ (Hf ⟨Dv, (Hf ⟨Dv, (Mk ⟨Dv, (Ku ⟨Dv, ⟨Dv, ⟨Dv, trivial⟩⟩⟩)⟩)⟩)⟩)), ⟨trivial, trivial⟩⟩⟩) ?_)))))
 have e38 : Af x0 = (⟨x0.fLast, x0.fFl, x0.fQ⟩ : Bm) := by
  clear s0 s2 s4 s6 s9 s11 s12 s36 s37
  try simp only [bne_iff_ne, beq_iff_eq, beq_eq_false_iff_ne, F7] at h13
  first | assumption | (simp only [Af, A0, Cd, h13, if_true, if_false, zaj]; first | done | rfl)
 have e39 : A0 x0 = (⟨0, false, 0, false, 0, ⟨#[]⟩, ⟨#[]⟩, ⟨#[]⟩, 0, false, 0, false, ⟨#[]⟩, ⟨#[]⟩, 0, false, false, ⟨#[]⟩, false, ⟨#[]⟩, 0, false, [], [], []⟩ : A5) := by
  clear s0 s2 s4 s6 s9 s11 s12 s36 s37
  try simp only [bne_iff_ne, beq_iff_eq, beq_eq_false_iff_ne, F7] at h13
  first | assumption | (simp only [Af, A0, Cd, h13, if_true, if_false, zaj]; first | done | rfl)
 have e40 : Ce x0 = false := by
  clear s0 s2 s4 s6 s9 s11 s12 s36 s37
  try simp only [bne_iff_ne, beq_iff_eq, beq_eq_false_iff_ne, F7] at h13
  first | assumption | (simp only [Af, A0, Cd, h13, if_true, if_false, zaj]; first | done | rfl)
 ·rw [e38, e39, e40]
  first | done | rfl
end
section
open Go
def Ig (x y : Om) : Bool := x.fFilter.toList == y.fFilter.toList && x.fQos == y.fQos
theorem Ue (x y : Om) : Jq [1, 0] (Dp x) (Dp y) = some (Ig x y) := by
 simp only [Dp, Jq, Yz, Ig, if_true, zab]
 generalize (x.fFilter.toList == y.fFilter.toList) = b0
 generalize (x.fQos == y.fQos) = b1
 cases b0 <;> cases b1 <;> rfl
theorem Y1 (n : Nat) (hn : 1048576 < n) (ty : Nat) (l q : List Om) (hl : l.length ≤ 1048576) : Ct E0 (n + 1) ty 70 [Al Dp l, Al Dp q] = some (.sc (.bool (Fs Ig l q))) := by
 rw [A2, Ai4, f70]
 simp only [B0, Bf, Ay]
 rw [Hi, Hi, Rw, Ds, Fs]
 by_cases h : l.length = q.length
 rw [if_neg (by simpa using h), if_pos h]
 rw [Hi]
 have key := J7 (β := AV) Dp (O7) (by decide) (fun x => .agg (Dp x)) (fun p k => Cs true 2 p [] k) (fun x r k => O6 2 _ _ [] k (O7 x)) (fun x y k => Ny .neq [1, 0] x y k) Ig (fun x y k => Aas _ _ _ _ (Ue x y) k) l q h hl (fun m i => Sj (PR n AV) n (fun x H => Be Ap E0.tp ty H x) m (Al Dp l) (Al Dp q) (si l.length) i []) (some bF) (some bT) (fun m i => rfl) l q [] [] n rfl rfl rfl (by omega)
 simp only [zau, zaY] at key
 refine key.trans ?_
 cases Gz Ig l q <;> rfl
 rw [if_pos (by simpa using h), if_neg h]
 rfl
theorem Ab1 (n : Nat) (hn : 1048576 < n) (ty : Nat) (l q : List ByteArray) (hl : l.length ≤ 1048576) : Ct E0 (n + 1) ty 71 [Iu l, Iu q] = some (.sc (.bool (Fs Nv l q))) := by
 rw [Np, Np]
 rw [A2, Ai5, f71]
 simp only [B0, Bf, Ay]
 rw [Hi, Hi, Rw, Ds, Fs]
 by_cases h : l.length = q.length
 rw [if_neg (by simpa using h), if_pos h]
 rw [Hi]
 have key := J7 (β := AV) Vf (fun _ => rfl) (by decide) (fun z => ss z) (fun p k => Cs false 1 p [] k) (fun x r k => ldS x r [] k) (fun x y k => E2 .neq x y k) Nv (fun x y k => neS x y k) l q h hl (fun m i => Sk (PR n AV) n (fun x H => Be Ap E0.tp ty H x) m (Al Vf l) (Al Vf q) (si l.length) i []) (some bF) (some bT) (fun m i => rfl) l q [] [] n rfl rfl rfl (by omega)
 simp only [zau, zaY] at key
 refine key.trans ?_
 cases Gz Nv l q <;> rfl
 rw [if_pos (by simpa using h), if_neg h]
 rfl
theorem Ab0 (n : Nat) (hn : 1048576 < n) (ty : Nat) (l q : List Int) (hl : l.length ≤ 1048576) : Ct E0 (n + 1) ty 72 [Fo l, Fo q] = some (.sc (.bool (Fs Vg l q))) := by
 rw [Iz, Iz]
 rw [A2, Ai6, f72]
 simp only [B0, Bf, Ay]
 rw [Hi, Hi, Rw, Ds, Fs]
 by_cases h : l.length = q.length
 rw [if_neg (by simpa using h), if_pos h]
 rw [Hi]
 have key := J7 (β := AV) Rf (fun _ => rfl) (by decide) (fun z => si z) (fun p k => Cs false 1 p [] k) (fun x r k => ldI x r [] k) (fun x y k => E2 .neq x y k) Vg (fun x y k => neI x y k) l q h hl (fun m i => Sl (PR n AV) n (fun x H => Be Ap E0.tp ty H x) m (Al Rf l) (Al Rf q) (si l.length) i []) (some bF) (some bT) (fun m i => rfl) l q [] [] n rfl rfl rfl (by omega)
 simp only [zau, zaY] at key
 refine key.trans ?_
 cases Gz Vg l q <;> rfl
 rw [if_pos (by simpa using h), if_neg h]
 rfl
def Fw (a b : A5) : Bool := (a.fType == b.fType) && (a.fDup == b.fDup) && (a.fQos == b.fQos) && (a.fRetain == b.fRetain) && (a.fId == b.fId) && (a.fTopic.toList == b.fTopic.toList) && (a.fBody.toList == b.fBody.toList) && (a.fClient.toList == b.fClient.toList) && (a.fLevel == b.fLevel) && (a.fClean == b.fClean) && (a.fKeep == b.fKeep) && (a.fHasWill == b.fHasWill) && (a.fWTopic.toList == b.fWTopic.toList) && (a.fWBody.toList == b.fWBody.toList) && (a.fWQos == b.fWQos) && (a.fWRetain == b.fWRetain) && (a.fHasUser == b.fHasUser) && (a.fUser.toList == b.fUser.toList) && (a.fHasPass == b.fHasPass) && (a.fPass.toList == b.fPass.toList) && (a.fCode == b.fCode) && (a.fPresent == b.fPresent)
def Jg (a b : A5) : Bool := Fs Ig a.fWants b.fWants && Fs Nv a.fNames b.fNames && Fs Vg a.fCodes b.fCodes
def Cn (a b : A5) : Bool := Jg a b && Fw a b
theorem Ahb (n : Nat) (hn : 1048576 < n) (ty : Nat) (a b : A5) (H : Ab) (i1 i2 : Nat) (B1 : H[i1]? = some ⟨Bp a, true, true⟩) (B2 : H[i2]? = some ⟨Bp b, true, true⟩) (hl2 : a.fCodes.length ≤ 1048576) (hq2 : a.fCodes.length = b.fCodes.length) : Kq (PR (n + 1) AV) (n + 1) (fun x H => Be Ap E0.tp ty H x) (n + 1) (.ptr i1 0) (.ptr i2 0) (.sc (.int .i64 0)) H = some (.sc (.bool (if Gz Vg a.fCodes b.fCodes then (Fw a b) else false))) := by
 have hL : ∀ m i, Kq (PR (n + 1) AV) (n + 1) (fun x H => Be Ap E0.tp ty H x) (m + 1) (.ptr i1 0) (.ptr i2 0) i H = E2 .lss i (si a.fCodes.length) fun t14 => Hm t14 (Es 1 (Al Rf a.fCodes) i fun t19 => Cs false 1 t19 H fun t20 => Es 1 (Al Rf b.fCodes) i fun t23 => Cs false 1 t23 H fun t24 => (fun x y k => E2 .neq x y k) t20 t24 fun t25 => Hm t25 (some bF) (E2 .add i (si 1) fun t16 => Kq (PR (n + 1) AV) (n + 1) (fun x H => Be Ap E0.tp ty H x) m (.ptr i1 0) (.ptr i2 0) t16 H)) (some (sb (Fw a b))) := by
  intro m i
  show (PR (n + 1) AV).fadr 24 (.ptr i1 0) _ = _
  simp only [B8, Bn, Bf, Dy, Dx, Ay, B3, Pr.gT, Pr.gF, Pr.hT, Pr.hF, Pr.kT, Pr.kF, Ci, B0, B5]
  refine Ai (Bj (c := Fo a.fCodes) B1 (Bb rfl) rfl (Do ?_))
  congr 1
  funext t
  congr 1
  refine Ai (Bj (c := Fo a.fCodes) B1 (Bb rfl) rfl ?_)
  rw [Iz]
  congr 1
  funext t2
  congr 1
  funext t3
  refine Ai (Bj (c := Fo b.fCodes) B2 (Bb rfl) rfl ?_)
  rw [Iz]
  rfl
  skip
  refine Ai (Bj (c := si a.fType) B1 (Bb rfl) rfl (Ai (Bj (c := si b.fType) B2 (Bb rfl) rfl (A1 (v := sb (a.fType == b.fType)) (fun k => rfl) ?_))))
  apply A6 ((a.fType == b.fType) && (a.fDup == b.fDup))
  intro b1 q1
  refine Ag ((a.fType == b.fType)) (fun h1 => ?_) fun h1 => ?_
  exact An h1 (Ai (An h1 (Bj (c := sb a.fDup) B1 (Bb rfl) rfl (An h1 (Ai (An h1 (Bj (c := sb b.fDup) B2 (Bb rfl) rfl (An h1 (G7 (v := sb (a.fDup == b.fDup)) (fun k => rfl) (Cb h1 (G9 q1 h1) rfl))))))))))
  exact Ao h1 (Ao h1 (Ao h1 (Ao h1 (Ao h1 (Ca h1 (G8 q1 h1) rfl)))))
  intro b1 q1
  apply A6 (b1 && (a.fQos == b.fQos))
  intro b2 q2
  refine Ag (b1) (fun h2 => ?_) fun h2 => ?_
  exact An h2 (Ai (An h2 (Bj (c := si a.fQos) B1 (Bb rfl) rfl (An h2 (Ai (An h2 (Bj (c := si b.fQos) B2 (Bb rfl) rfl (An h2 (A1 (v := sb (a.fQos == b.fQos)) (fun k => rfl) (Cb h2 (G9 q2 h2) rfl))))))))))
  exact Ao h2 (Ao h2 (Ao h2 (Ao h2 (Ao h2 (Ca h2 (G8 q2 h2) rfl)))))
  intro b2 q2
  apply A6 (b2 && (a.fRetain == b.fRetain))
  intro b3 q3
  refine Ag (b2) (fun h3 => ?_) fun h3 => ?_
  exact An h3 (Ai (An h3 (Bj (c := sb a.fRetain) B1 (Bb rfl) rfl (An h3 (Ai (An h3 (Bj (c := sb b.fRetain) B2 (Bb rfl) rfl (An h3 (G7 (v := sb (a.fRetain == b.fRetain)) (fun k => rfl) (Cb h3 (G9 q3 h3) rfl))))))))))
  exact Ao h3 (Ao h3 (Ao h3 (Ao h3 (Ao h3 (Ca h3 (G8 q3 h3) rfl)))))
  intro b3 q3
  apply A6 (b3 && (a.fId == b.fId))
  intro b4 q4
  refine Ag (b3) (fun h4 => ?_) fun h4 => ?_
  exact An h4 (Ai (An h4 (Bj (c := si a.fId) B1 (Bb rfl) rfl (An h4 (Ai (An h4 (Bj (c := si b.fId) B2 (Bb rfl) rfl (An h4 (A1 (v := sb (a.fId == b.fId)) (fun k => rfl) (Cb h4 (G9 q4 h4) rfl))))))))))
  exact Ao h4 (Ao h4 (Ao h4 (Ao h4 (Ao h4 (Ca h4 (G8 q4 h4) rfl)))))
  intro b4 q4
  apply A6 (b4 && (a.fTopic.toList == b.fTopic.toList))
  intro b5 q5
  refine Ag (b4) (fun h5 => ?_) fun h5 => ?_
  exact An h5 (Ai (An h5 (Bj (c := ss a.fTopic) B1 (Bb rfl) rfl (An h5 (Ai (An h5 (Bj (c := ss b.fTopic) B2 (Bb rfl) rfl (An h5 (A1 (v := sb (a.fTopic.toList == b.fTopic.toList)) (fun k => rfl) (Cb h5 (G9 q5 h5) rfl))))))))))
  exact Ao h5 (Ao h5 (Ao h5 (Ao h5 (Ao h5 (Ca h5 (G8 q5 h5) rfl)))))
  intro b5 q5
  apply A6 (b5 && (a.fBody.toList == b.fBody.toList))
  intro b6 q6
  refine Ag (b5) (fun h6 => ?_) fun h6 => ?_
  exact An h6 (Ai (An h6 (Bj (c := A3 a.fBody) B1 (Bb rfl) rfl (An h6 (Ai (An h6 (Bj (c := A3 b.fBody) B2 (Bb rfl) rfl (An h6 (Dk rfl (Bk (Ei _ _ _) (Bk (Ei _ _ _) Dw)) (Vy (n + 0) _ a.fBody b.fBody) (Cb h6 (G9 q6 h6) rfl))))))))))
  exact Ao h6 (Ao h6 (Ao h6 (Ao h6 (Ao h6 (Ca h6 (G8 q6 h6) rfl)))))
  intro b6 q6
  apply A6 (b6 && (a.fClient.toList == b.fClient.toList))
  intro b7 q7
  refine Ag (b6) (fun h7 => ?_) fun h7 => ?_
  exact An h7 (Ai (An h7 (Bj (c := ss a.fClient) B1 (Bb rfl) rfl (An h7 (Ai (An h7 (Bj (c := ss b.fClient) B2 (Bb rfl) rfl (An h7 (A1 (v := sb (a.fClient.toList == b.fClient.toList)) (fun k => rfl) (Cb h7 (G9 q7 h7) rfl))))))))))
  exact Ao h7 (Ao h7 (Ao h7 (Ao h7 (Ao h7 (Ca h7 (G8 q7 h7) rfl)))))
  intro b7 q7
  apply A6 (b7 && (a.fLevel == b.fLevel))
  intro b8 q8
  refine Ag (b7) (fun h8 => ?_) fun h8 => ?_
  exact An h8 (Ai (An h8 (Bj (c := si a.fLevel) B1 (Bb rfl) rfl (An h8 (Ai (An h8 (Bj (c := si b.fLevel) B2 (Bb rfl) rfl (An h8 (A1 (v := sb (a.fLevel == b.fLevel)) (fun k => rfl) (Cb h8 (G9 q8 h8) rfl))))))))))
  exact Ao h8 (Ao h8 (Ao h8 (Ao h8 (Ao h8 (Ca h8 (G8 q8 h8) rfl)))))
  intro b8 q8
  apply A6 (b8 && (a.fClean == b.fClean))
  intro b9 q9
  refine Ag (b8) (fun h9 => ?_) fun h9 => ?_
  exact An h9 (Ai (An h9 (Bj (c := sb a.fClean) B1 (Bb rfl) rfl (An h9 (Ai (An h9 (Bj (c := sb b.fClean) B2 (Bb rfl) rfl (An h9 (G7 (v := sb (a.fClean == b.fClean)) (fun k => rfl) (Cb h9 (G9 q9 h9) rfl))))))))))
  exact Ao h9 (Ao h9 (Ao h9 (Ao h9 (Ao h9 (Ca h9 (G8 q9 h9) rfl)))))
  intro b9 q9
  apply A6 (b9 && (a.fKeep == b.fKeep))
  intro b10 q10
  refine Ag (b9) (fun h10 => ?_) fun h10 => ?_
  exact An h10 (Ai (An h10 (Bj (c := si a.fKeep) B1 (Bb rfl) rfl (An h10 (Ai (An h10 (Bj (c := si b.fKeep) B2 (Bb rfl) rfl (An h10 (A1 (v := sb (a.fKeep == b.fKeep)) (fun k => rfl) (Cb h10 (G9 q10 h10) rfl))))))))))
  exact Ao h10 (Ao h10 (Ao h10 (Ao h10 (Ao h10 (Ca h10 (G8 q10 h10) rfl)))))
  intro b10 q10
  apply A6 (b10 && (a.fHasWill == b.fHasWill))
  intro b11 q11
  refine Ag (b10) (fun h11 => ?_) fun h11 => ?_
  exact An h11 (Ai (An h11 (Bj (c := sb a.fHasWill) B1 (Bb rfl) rfl (An h11 (Ai (An h11 (Bj (c := sb b.fHasWill) B2 (Bb rfl) rfl (An h11 (G7 (v := sb (a.fHasWill == b.fHasWill)) (fun k => rfl) (Cb h11 (G9 q11 h11) rfl))))))))))
  exact Ao h11 (Ao h11 (Ao h11 (Ao h11 (Ao h11 (Ca h11 (G8 q11 h11) rfl)))))
  intro b11 q11
  apply A6 (b11 && (a.fWTopic.toList == b.fWTopic.toList))
  intro b12 q12
  refine Ag (b11) (fun h12 => ?_) fun h12 => ?_
  exact An h12 (Ai (An h12 (Bj (c := ss a.fWTopic) B1 (Bb rfl) rfl (An h12 (Ai (An h12 (Bj (c := ss b.fWTopic) B2 (Bb rfl) rfl (An h12 (A1 (v := sb (a.fWTopic.toList == b.fWTopic.toList)) (fun k => rfl) (Cb h12 (G9 q12 h12) rfl))))))))))
  exact Ao h12 (Ao h12 (Ao h12 (Ao h12 (Ao h12 (Ca h12 (G8 q12 h12) rfl)))))
  intro b12 q12
  apply A6 (b12 && (a.fWBody.toList == b.fWBody.toList))
  intro b13 q13
  refine Ag (b12) (fun h13 => ?_) fun h13 => ?_
  exact An h13 (Ai (An h13 (Bj (c := A3 a.fWBody) B1 (Bb rfl) rfl (An h13 (Ai (An h13 (Bj (c := A3 b.fWBody) B2 (Bb rfl) rfl (An h13 (Dk rfl (Bk (Ei _ _ _) (Bk (Ei _ _ _) Dw)) (Vy (n + 0) _ a.fWBody b.fWBody) (Cb h13 (G9 q13 h13) rfl))))))))))
  exact Ao h13 (Ao h13 (Ao h13 (Ao h13 (Ao h13 (Ca h13 (G8 q13 h13) rfl)))))
  intro b13 q13
  apply A6 (b13 && (a.fWQos == b.fWQos))
  intro b14 q14
  refine Ag (b13) (fun h14 => ?_) fun h14 => ?_
  exact An h14 (Ai (An h14 (Bj (c := si a.fWQos) B1 (Bb rfl) rfl (An h14 (Ai (An h14 (Bj (c := si b.fWQos) B2 (Bb rfl) rfl (An h14 (A1 (v := sb (a.fWQos == b.fWQos)) (fun k => rfl) (Cb h14 (G9 q14 h14) rfl))))))))))
  exact Ao h14 (Ao h14 (Ao h14 (Ao h14 (Ao h14 (Ca h14 (G8 q14 h14) rfl)))))
  intro b14 q14
  apply A6 (b14 && (a.fWRetain == b.fWRetain))
  intro b15 q15
  refine Ag (b14) (fun h15 => ?_) fun h15 => ?_
  exact An h15 (Ai (An h15 (Bj (c := sb a.fWRetain) B1 (Bb rfl) rfl (An h15 (Ai (An h15 (Bj (c := sb b.fWRetain) B2 (Bb rfl) rfl (An h15 (G7 (v := sb (a.fWRetain == b.fWRetain)) (fun k => rfl) (Cb h15 (G9 q15 h15) rfl))))))))))
  exact Ao h15 (Ao h15 (Ao h15 (Ao h15 (Ao h15 (Ca h15 (G8 q15 h15) rfl)))))
  intro b15 q15
  apply A6 (b15 && (a.fHasUser == b.fHasUser))
  intro b16 q16
  refine Ag (b15) (fun h16 => ?_) fun h16 => ?_
  exact An h16 (Ai (An h16 (Bj (c := sb a.fHasUser) B1 (Bb rfl) rfl (An h16 (Ai (An h16 (Bj (c := sb b.fHasUser) B2 (Bb rfl) rfl (An h16 (G7 (v := sb (a.fHasUser == b.fHasUser)) (fun k => rfl) (Cb h16 (G9 q16 h16) rfl))))))))))
  exact Ao h16 (Ao h16 (Ao h16 (Ao h16 (Ao h16 (Ca h16 (G8 q16 h16) rfl)))))
  intro b16 q16
  apply A6 (b16 && (a.fUser.toList == b.fUser.toList))
  intro b17 q17
  refine Ag (b16) (fun h17 => ?_) fun h17 => ?_
  exact An h17 (Ai (An h17 (Bj (c := ss a.fUser) B1 (Bb rfl) rfl (An h17 (Ai (An h17 (Bj (c := ss b.fUser) B2 (Bb rfl) rfl (An h17 (A1 (v := sb (a.fUser.toList == b.fUser.toList)) (fun k => rfl) (Cb h17 (G9 q17 h17) rfl))))))))))
  exact Ao h17 (Ao h17 (Ao h17 (Ao h17 (Ao h17 (Ca h17 (G8 q17 h17) rfl)))))
  intro b17 q17
  apply A6 (b17 && (a.fHasPass == b.fHasPass))
  intro b18 q18
  refine Ag (b17) (fun h18 => ?_) fun h18 => ?_
  exact An h18 (Ai (An h18 (Bj (c := sb a.fHasPass) B1 (Bb rfl) rfl (An h18 (Ai (An h18 (Bj (c := sb b.fHasPass) B2 (Bb rfl) rfl (An h18 (G7 (v := sb (a.fHasPass == b.fHasPass)) (fun k => rfl) (Cb h18 (G9 q18 h18) rfl))))))))))
  exact Ao h18 (Ao h18 (Ao h18 (Ao h18 (Ao h18 (Ca h18 (G8 q18 h18) rfl)))))
  intro b18 q18
  apply A6 (b18 && (a.fPass.toList == b.fPass.toList))
  intro b19 q19
  refine Ag (b18) (fun h19 => ?_) fun h19 => ?_
  exact An h19 (Ai (An h19 (Bj (c := A3 a.fPass) B1 (Bb rfl) rfl (An h19 (Ai (An h19 (Bj (c := A3 b.fPass) B2 (Bb rfl) rfl (An h19 (Dk rfl (Bk (Ei _ _ _) (Bk (Ei _ _ _) Dw)) (Vy (n + 0) _ a.fPass b.fPass) (Cb h19 (G9 q19 h19) rfl))))))))))
  exact Ao h19 (Ao h19 (Ao h19 (Ao h19 (Ao h19 (Ca h19 (G8 q19 h19) rfl)))))
  intro b19 q19
  apply A6 (b19 && (a.fCode == b.fCode))
  intro b20 q20
  refine Ag (b19) (fun h20 => ?_) fun h20 => ?_
  exact An h20 (Ai (An h20 (Bj (c := si a.fCode) B1 (Bb rfl) rfl (An h20 (Ai (An h20 (Bj (c := si b.fCode) B2 (Bb rfl) rfl (An h20 (A1 (v := sb (a.fCode == b.fCode)) (fun k => rfl) (Cb h20 (G9 q20 h20) rfl))))))))))
  exact Ao h20 (Ao h20 (Ao h20 (Ao h20 (Ao h20 (Ca h20 (G8 q20 h20) rfl)))))
  intro b20 q20
  apply A6 (b20 && (a.fPresent == b.fPresent))
  intro b21 q21
  refine Ag (b20) (fun h21 => ?_) fun h21 => ?_
  exact An h21 (Ai (An h21 (Bj (c := sb a.fPresent) B1 (Bb rfl) rfl (An h21 (Ai (An h21 (Bj (c := sb b.fPresent) B2 (Bb rfl) rfl (An h21 (G7 (v := sb (a.fPresent == b.fPresent)) (fun k => rfl) (Cb h21 (G9 q21 h21) rfl))))))))))
  exact Ao h21 (Ao h21 (Ao h21 (Ao h21 (Ao h21 (Ca h21 (G8 q21 h21) rfl)))))
  intro b21 q21
  subst_vars; rfl
 have key := J7 (β := AV) Rf (fun _ => rfl) (by decide) (fun z => si z) (fun p k => Cs false 1 p H k) (fun x r k => ldI x r H k) (fun x y k => E2 .neq x y k) Vg (fun x y k => neI x y k) a.fCodes b.fCodes hq2 hl2 (fun m i => Kq (PR (n + 1) AV) (n + 1) (fun x H => Be Ap E0.tp ty H x) m (.ptr i1 0) (.ptr i2 0) i H) (some bF) (some (sb (Fw a b))) hL a.fCodes b.fCodes [] [] (n + 1) rfl rfl rfl (by omega)
 simp only [zau, zaY] at key
 refine key.trans ?_
 cases Gz Vg a.fCodes b.fCodes <;> rfl
theorem Aha (n : Nat) (hn : 1048576 < n) (ty : Nat) (a b : A5) (H : Ab) (i1 i2 : Nat) (B1 : H[i1]? = some ⟨Bp a, true, true⟩) (B2 : H[i2]? = some ⟨Bp b, true, true⟩) (hl1 : a.fNames.length ≤ 1048576) (hq1 : a.fNames.length = b.fNames.length) (hl2 : a.fCodes.length ≤ 1048576) (hq2 : a.fCodes.length = b.fCodes.length) : I9 (PR (n + 1) AV) (n + 1) (fun x H => Be Ap E0.tp ty H x) (n + 1) (.ptr i1 0) (.ptr i2 0) (.sc (.int .i64 0)) H = some (.sc (.bool (if Gz Nv a.fNames b.fNames then (if Gz Vg a.fCodes b.fCodes then (Fw a b) else false) else false))) := by
 have hL : ∀ m i, I9 (PR (n + 1) AV) (n + 1) (fun x H => Be Ap E0.tp ty H x) (m + 1) (.ptr i1 0) (.ptr i2 0) i H = E2 .lss i (si a.fNames.length) fun t14 => Hm t14 (Es 1 (Al Vf a.fNames) i fun t19 => Cs false 1 t19 H fun t20 => Es 1 (Al Vf b.fNames) i fun t23 => Cs false 1 t23 H fun t24 => (fun x y k => E2 .neq x y k) t20 t24 fun t25 => Hm t25 (some bF) (E2 .add i (si 1) fun t16 => I9 (PR (n + 1) AV) (n + 1) (fun x H => Be Ap E0.tp ty H x) m (.ptr i1 0) (.ptr i2 0) t16 H)) (some (sb (if Gz Vg a.fCodes b.fCodes then (Fw a b) else false))) := by
  intro m i
  show (PR (n + 1) AV).fadr 23 (.ptr i1 0) _ = _
  simp only [B8, Bn, Bf, Dy, Dx, Ay, B3, Pr.gT, Pr.gF, Pr.hT, Pr.hF, Pr.kT, Pr.kF, Ci, B0, B5]
  refine Ai (Bj (c := Iu a.fNames) B1 (Bb rfl) rfl (Do ?_))
  congr 1
  funext t
  congr 1
  refine Ai (Bj (c := Iu a.fNames) B1 (Bb rfl) rfl ?_)
  rw [Np]
  congr 1
  funext t2
  congr 1
  funext t3
  refine Ai (Bj (c := Iu b.fNames) B2 (Bb rfl) rfl ?_)
  rw [Np]
  rfl
  skip
  exact Ahb n hn ty a b H i1 i2 B1 B2 hl2 hq2
 have key := J7 (β := AV) Vf (fun _ => rfl) (by decide) (fun z => ss z) (fun p k => Cs false 1 p H k) (fun x r k => ldS x r H k) (fun x y k => E2 .neq x y k) Nv (fun x y k => neS x y k) a.fNames b.fNames hq1 hl1 (fun m i => I9 (PR (n + 1) AV) (n + 1) (fun x H => Be Ap E0.tp ty H x) m (.ptr i1 0) (.ptr i2 0) i H) (some bF) (some (sb (if Gz Vg a.fCodes b.fCodes then (Fw a b) else false))) hL a.fNames b.fNames [] [] (n + 1) rfl rfl rfl (by omega)
 simp only [zau, zaY] at key
 refine key.trans ?_
 cases Gz Nv a.fNames b.fNames <;> rfl
theorem AgZ (n : Nat) (hn : 1048576 < n) (ty : Nat) (a b : A5) (H : Ab) (i1 i2 : Nat) (B1 : H[i1]? = some ⟨Bp a, true, true⟩) (B2 : H[i2]? = some ⟨Bp b, true, true⟩) (hl0 : a.fWants.length ≤ 1048576) (hq0 : a.fWants.length = b.fWants.length) (hl1 : a.fNames.length ≤ 1048576) (hq1 : a.fNames.length = b.fNames.length) (hl2 : a.fCodes.length ≤ 1048576) (hq2 : a.fCodes.length = b.fCodes.length) : I8 (PR (n + 1) AV) (n + 1) (fun x H => Be Ap E0.tp ty H x) (n + 1) (.ptr i1 0) (.ptr i2 0) (.sc (.int .i64 0)) H = some (.sc (.bool (if Gz Ig a.fWants b.fWants then (if Gz Nv a.fNames b.fNames then (if Gz Vg a.fCodes b.fCodes then (Fw a b) else false) else false) else false))) := by
 have hL : ∀ m i, I8 (PR (n + 1) AV) (n + 1) (fun x H => Be Ap E0.tp ty H x) (m + 1) (.ptr i1 0) (.ptr i2 0) i H = E2 .lss i (si a.fWants.length) fun t14 => Hm t14 (Es 2 (Al Dp a.fWants) i fun t19 => Cs true 2 t19 H fun t20 => Es 2 (Al Dp b.fWants) i fun t23 => Cs true 2 t23 H fun t24 => (fun x y k => Ny .neq [1, 0] x y k) t20 t24 fun t25 => Hm t25 (some bF) (E2 .add i (si 1) fun t16 => I8 (PR (n + 1) AV) (n + 1) (fun x H => Be Ap E0.tp ty H x) m (.ptr i1 0) (.ptr i2 0) t16 H)) (some (sb (if Gz Nv a.fNames b.fNames then (if Gz Vg a.fCodes b.fCodes then (Fw a b) else false) else false))) := by
  intro m i
  show (PR (n + 1) AV).fadr 22 (.ptr i1 0) _ = _
  simp only [B8, Bn, Bf, Dy, Dx, Ay, B3, Pr.gT, Pr.gF, Pr.hT, Pr.hF, Pr.kT, Pr.kF, Ci, B0, B5]
  refine Ai (Bj (c := Al Dp a.fWants) B1 (Bb rfl) rfl (Do ?_))
  congr 1
  funext t
  congr 1
  refine Ai (Bj (c := Al Dp a.fWants) B1 (Bb rfl) rfl ?_)
  congr 1
  funext t2
  congr 1
  funext t3
  refine Ai (Bj (c := Al Dp b.fWants) B2 (Bb rfl) rfl ?_)
  rfl
  skip
  exact Aha n hn ty a b H i1 i2 B1 B2 hl1 hq1 hl2 hq2
 have key := J7 (β := AV) Dp (O7) (by decide) (fun x => .agg (Dp x)) (fun p k => Cs true 2 p H k) (fun x r k => O6 2 _ _ H k (O7 x)) (fun x y k => Ny .neq [1, 0] x y k) Ig (fun x y k => Aas _ _ _ _ (Ue x y) k) a.fWants b.fWants hq0 hl0 (fun m i => I8 (PR (n + 1) AV) (n + 1) (fun x H => Be Ap E0.tp ty H x) m (.ptr i1 0) (.ptr i2 0) i H) (some bF) (some (sb (if Gz Nv a.fNames b.fNames then (if Gz Vg a.fCodes b.fCodes then (Fw a b) else false) else false))) hL a.fWants b.fWants [] [] (n + 1) rfl rfl rfl (by omega)
 simp only [zau, zaY] at key
 refine key.trans ?_
 cases Gz Ig a.fWants b.fWants <;> rfl
theorem Mj (n : Nat) (hn : 1048576 < n) (ty : Nat) (a : A5) (b : A5) (hl0 : a.fWants.length ≤ 1048576) (hl1 : a.fNames.length ≤ 1048576) (hl2 : a.fCodes.length ≤ 1048576) : Ct E0 (n + 2) ty 120 [.agg (Bp a), .agg (Bp b)] = some (.sc (.bool (Cn a b))) := by
 rw [A2, AfX, f120]
 try simp only [Dh, C1, B8, Bn, Bs, Bf, Dy, Dx, Fn, Ay, B3, Pr.gT, Pr.gF, Pr.hT, Pr.hF, Pr.kT, Pr.kF, Ci, B0, Di, B5, Et, C2, Cw, Bx, Bw, D8, C6, D2, D1]
 refine Kg (E1 _) fun iB1 eB1 B1 => Kg (E1 _) fun iB2 eB2 B2 => ?_
 replace B1 := Jd B1 [⟨Bp b, true, true⟩]
 refine Ai (Bj (c := Al Dp a.fWants) B1 (Bb rfl) rfl (Do (Ai (Bj (c := Al Dp b.fWants) B2 (Bb rfl) rfl (Do (A1 (v := sb ((a.fWants.length : Int) != (b.fWants.length : Int))) (fun k => rfl) ?_))))))
 apply A6 (((a.fWants.length : Int) != (b.fWants.length : Int)) || ((a.fNames.length : Int) != (b.fNames.length : Int)))
 intro b3 q3
 refine Ag (((a.fWants.length : Int) != (b.fWants.length : Int))) (fun h3 => ?_) fun h3 => ?_
 exact Df h3 (Df h3 (Df h3 (Df h3 (Df h3 (Df h3 (Df h3 (Cb h3 (mOT q3 h3) rfl)))))))
 exact C5 h3 (Ai (C5 h3 (Bj (c := Iu a.fNames) B1 (Bb rfl) rfl (C5 h3 (Do (C5 h3 (Ai (C5 h3 (Bj (c := Iu b.fNames) B2 (Bb rfl) rfl (C5 h3 (Do (C5 h3 (A1 (v := sb ((a.fNames.length : Int) != (b.fNames.length : Int))) (fun k => rfl) (Ca h3 (mOF q3 h3) rfl))))))))))))))
 intro b3 q3
 apply A6 (b3 || ((a.fCodes.length : Int) != (b.fCodes.length : Int)))
 intro b4 q4
 refine Ag (b3) (fun h4 => ?_) fun h4 => ?_
 exact Df h4 (Df h4 (Df h4 (Df h4 (Df h4 (Df h4 (Df h4 (Cb h4 (mOT q4 h4) rfl)))))))
 exact C5 h4 (Ai (C5 h4 (Bj (c := Fo a.fCodes) B1 (Bb rfl) rfl (C5 h4 (Do (C5 h4 (Ai (C5 h4 (Bj (c := Fo b.fCodes) B2 (Bb rfl) rfl (C5 h4 (Do (C5 h4 (A1 (v := sb ((a.fCodes.length : Int) != (b.fCodes.length : Int))) (fun k => rfl) (Ca h4 (mOF q4 h4) rfl))))))))))))))
 intro b4 q4
 refine Ag (b4) (fun h5 => ?_) fun h5 => ?_
 exact Fq h5 (Eg (by subst_vars; simp only [Cn, Jg, Fs]; by_cases e0 : a.fWants.length = b.fWants.length <;> by_cases e1 : a.fNames.length = b.fNames.length <;> by_cases e2 : a.fCodes.length = b.fCodes.length <;> simp_all))
 refine F2 h5 ?_
 have l0 : a.fWants.length = b.fWants.length := by (subst_vars; simp at *; omega)
 have l1 : a.fNames.length = b.fNames.length := by (subst_vars; simp at *; omega)
 have l2 : a.fCodes.length = b.fCodes.length := by (subst_vars; simp at *; omega)
 refine (AgZ n hn ty a b _ _ _ B1 B2 hl0 l0 hl1 l1 hl2 l2).trans ?_
 simp only [Cn, Jg, Fs, l0, l1, l2, if_true]
 cases Gz Ig a.fWants b.fWants <;> cases Gz Nv a.fNames b.fNames <;> cases Gz Vg a.fCodes b.fCodes <;> simp
theorem Fb (n : Nat) (hn : 1048576 < n) (ty : Nat) (a : A5) (b : A5) (hl0 : a.fWants.length ≤ 1048576) (hl1 : a.fNames.length ≤ 1048576) (hl2 : a.fCodes.length ≤ 1048576) : Ct E0 (n + 2) ty 20 [.agg (Bp a), .agg (Bp b)] = some (.sc (.bool (Cn a b))) := by
 rw [A2, Aib, f20]
 try simp only [Dh, C1, B8, Bn, Bs, Bf, Dy, Dx, Fn, Ay, B3, Pr.gT, Pr.gF, Pr.hT, Pr.hF, Pr.kT, Pr.kF, Ci, B0, Di, B5, Et, C2, Cw, Bx, Bw, D8, C6, D2, D1]
 refine Kg (E1 _) fun iB1 eB1 B1 => Kg (E1 _) fun iB2 eB2 B2 => ?_
 replace B1 := Jd B1 [⟨Bp b, true, true⟩]
 refine Ai (Bj (c := si a.fType) B1 (Bb rfl) rfl (Ai (Bj (c := si b.fType) B2 (Bb rfl) rfl (A1 (v := sb (a.fType == b.fType)) (fun k => rfl) ?_))))
 apply A6 ((a.fType == b.fType) && (a.fDup == b.fDup))
 intro b3 q3
 refine Ag ((a.fType == b.fType)) (fun h3 => ?_) fun h3 => ?_
 exact An h3 (Ai (An h3 (Bj (c := sb a.fDup) B1 (Bb rfl) rfl (An h3 (Ai (An h3 (Bj (c := sb b.fDup) B2 (Bb rfl) rfl (An h3 (G7 (v := sb (a.fDup == b.fDup)) (fun k => rfl) (Cb h3 (G9 q3 h3) rfl))))))))))
 exact Ao h3 (Ao h3 (Ao h3 (Ao h3 (Ao h3 (Ca h3 (G8 q3 h3) rfl)))))
 intro b3 q3
 apply A6 (b3 && (a.fQos == b.fQos))
 intro b4 q4
 refine Ag (b3) (fun h4 => ?_) fun h4 => ?_
 exact An h4 (Ai (An h4 (Bj (c := si a.fQos) B1 (Bb rfl) rfl (An h4 (Ai (An h4 (Bj (c := si b.fQos) B2 (Bb rfl) rfl (An h4 (A1 (v := sb (a.fQos == b.fQos)) (fun k => rfl) (Cb h4 (G9 q4 h4) rfl))))))))))
 exact Ao h4 (Ao h4 (Ao h4 (Ao h4 (Ao h4 (Ca h4 (G8 q4 h4) rfl)))))
 intro b4 q4
 apply A6 (b4 && (a.fRetain == b.fRetain))
 intro b5 q5
 refine Ag (b4) (fun h5 => ?_) fun h5 => ?_
 exact An h5 (Ai (An h5 (Bj (c := sb a.fRetain) B1 (Bb rfl) rfl (An h5 (Ai (An h5 (Bj (c := sb b.fRetain) B2 (Bb rfl) rfl (An h5 (G7 (v := sb (a.fRetain == b.fRetain)) (fun k => rfl) (Cb h5 (G9 q5 h5) rfl))))))))))
 exact Ao h5 (Ao h5 (Ao h5 (Ao h5 (Ao h5 (Ca h5 (G8 q5 h5) rfl)))))
 intro b5 q5
 apply A6 (b5 && (a.fId == b.fId))
 intro b6 q6
 refine Ag (b5) (fun h6 => ?_) fun h6 => ?_
 exact An h6 (Ai (An h6 (Bj (c := si a.fId) B1 (Bb rfl) rfl (An h6 (Ai (An h6 (Bj (c := si b.fId) B2 (Bb rfl) rfl (An h6 (A1 (v := sb (a.fId == b.fId)) (fun k => rfl) (Cb h6 (G9 q6 h6) rfl))))))))))
 exact Ao h6 (Ao h6 (Ao h6 (Ao h6 (Ao h6 (Ca h6 (G8 q6 h6) rfl)))))
 intro b6 q6
 apply A6 (b6 && (a.fTopic.toList == b.fTopic.toList))
 intro b7 q7
 refine Ag (b6) (fun h7 => ?_) fun h7 => ?_
 exact An h7 (Ai (An h7 (Bj (c := ss a.fTopic) B1 (Bb rfl) rfl (An h7 (Ai (An h7 (Bj (c := ss b.fTopic) B2 (Bb rfl) rfl (An h7 (A1 (v := sb (a.fTopic.toList == b.fTopic.toList)) (fun k => rfl) (Cb h7 (G9 q7 h7) rfl))))))))))
 exact Ao h7 (Ao h7 (Ao h7 (Ao h7 (Ao h7 (Ca h7 (G8 q7 h7) rfl)))))
 intro b7 q7
 apply A6 (b7 && (a.fBody.toList == b.fBody.toList))
 intro b8 q8
 refine Ag (b7) (fun h8 => ?_) fun h8 => ?_
 exact An h8 (Ai (An h8 (Bj (c := A3 a.fBody) B1 (Bb rfl) rfl (An h8 (Ai (An h8 (Bj (c := A3 b.fBody) B2 (Bb rfl) rfl (An h8 (Dk rfl (Bk (Ei _ _ _) (Bk (Ei _ _ _) Dw)) (Km (n + 0) _ a.fBody b.fBody) (Cb h8 (G9 q8 h8) rfl))))))))))
 exact Ao h8 (Ao h8 (Ao h8 (Ao h8 (Ao h8 (Ca h8 (G8 q8 h8) rfl)))))
 intro b8 q8
 refine Ai (Bj (c := ss a.fClient) B1 (Bb rfl) rfl (Ai (Bj (c := ss b.fClient) B2 (Bb rfl) rfl (A1 (v := sb (a.fClient.toList == b.fClient.toList)) (fun k => rfl) ?_))))
 apply A6 ((a.fClient.toList == b.fClient.toList) && (a.fLevel == b.fLevel))
 intro b9 q9
 refine Ag ((a.fClient.toList == b.fClient.toList)) (fun h9 => ?_) fun h9 => ?_
 exact An h9 (Ai (An h9 (Bj (c := si a.fLevel) B1 (Bb rfl) rfl (An h9 (Ai (An h9 (Bj (c := si b.fLevel) B2 (Bb rfl) rfl (An h9 (A1 (v := sb (a.fLevel == b.fLevel)) (fun k => rfl) (Cb h9 (G9 q9 h9) rfl))))))))))
 exact Ao h9 (Ao h9 (Ao h9 (Ao h9 (Ao h9 (Ca h9 (G8 q9 h9) rfl)))))
 intro b9 q9
 apply A6 (b9 && (a.fClean == b.fClean))
 intro b10 q10
 refine Ag (b9) (fun h10 => ?_) fun h10 => ?_
 exact An h10 (Ai (An h10 (Bj (c := sb a.fClean) B1 (Bb rfl) rfl (An h10 (Ai (An h10 (Bj (c := sb b.fClean) B2 (Bb rfl) rfl (An h10 (G7 (v := sb (a.fClean == b.fClean)) (fun k => rfl) (Cb h10 (G9 q10 h10) rfl))))))))))
 exact Ao h10 (Ao h10 (Ao h10 (Ao h10 (Ao h10 (Ca h10 (G8 q10 h10) rfl)))))
 intro b10 q10
 apply A6 (b10 && (a.fKeep == b.fKeep))
 intro b11 q11
 refine Ag (b10) (fun h11 => ?_) fun h11 => ?_
 exact An h11 (Ai (An h11 (Bj (c := si a.fKeep) B1 (Bb rfl) rfl (An h11 (Ai (An h11 (Bj (c := si b.fKeep) B2 (Bb rfl) rfl (An h11 (A1 (v := sb (a.fKeep == b.fKeep)) (fun k => rfl) (Cb h11 (G9 q11 h11) rfl))))))))))
 exact Ao h11 (Ao h11 (Ao h11 (Ao h11 (Ao h11 (Ca h11 (G8 q11 h11) rfl)))))
 intro b11 q11
 apply A6 (b11 && (a.fHasUser == b.fHasUser))
 intro b12 q12
 refine Ag (b11) (fun h12 => ?_) fun h12 => ?_
 exact An h12 (Ai (An h12 (Bj (c := sb a.fHasUser) B1 (Bb rfl) rfl (An h12 (Ai (An h12 (Bj (c := sb b.fHasUser) B2 (Bb rfl) rfl (An h12 (G7 (v := sb (a.fHasUser == b.fHasUser)) (fun k => rfl) (Cb h12 (G9 q12 h12) rfl))))))))))
 exact Ao h12 (Ao h12 (Ao h12 (Ao h12 (Ao h12 (Ca h12 (G8 q12 h12) rfl)))))
 intro b12 q12
 apply A6 (b12 && (a.fUser.toList == b.fUser.toList))
 intro b13 q13
 refine Ag (b12) (fun h13 => ?_) fun h13 => ?_
 exact An h13 (Ai (An h13 (Bj (c := ss a.fUser) B1 (Bb rfl) rfl (An h13 (Ai (An h13 (Bj (c := ss b.fUser) B2 (Bb rfl) rfl (An h13 (A1 (v := sb (a.fUser.toList == b.fUser.toList)) (fun k => rfl) (Cb h13 (G9 q13 h13) rfl))))))))))
 exact Ao h13 (Ao h13 (Ao h13 (Ao h13 (Ao h13 (Ca h13 (G8 q13 h13) rfl)))))
 intro b13 q13
 apply A6 (b13 && (a.fHasPass == b.fHasPass))
 intro b14 q14
 refine Ag (b13) (fun h14 => ?_) fun h14 => ?_
 exact An h14 (Ai (An h14 (Bj (c := sb a.fHasPass) B1 (Bb rfl) rfl (An h14 (Ai (An h14 (Bj (c := sb b.fHasPass) B2 (Bb rfl) rfl (An h14 (G7 (v := sb (a.fHasPass == b.fHasPass)) (fun k => rfl) (Cb h14 (G9 q14 h14) rfl))))))))))
 exact Ao h14 (Ao h14 (Ao h14 (Ao h14 (Ao h14 (Ca h14 (G8 q14 h14) rfl)))))
 intro b14 q14
 apply A6 (b14 && (a.fPass.toList == b.fPass.toList))
 intro b15 q15
 refine Ag (b14) (fun h15 => ?_) fun h15 => ?_
 exact An h15 (Ai (An h15 (Bj (c := A3 a.fPass) B1 (Bb rfl) rfl (An h15 (Ai (An h15 (Bj (c := A3 b.fPass) B2 (Bb rfl) rfl (An h15 (Dk rfl (Bk (Ei _ _ _) (Bk (Ei _ _ _) Dw)) (Km (n + 0) _ a.fPass b.fPass) (Cb h15 (G9 q15 h15) rfl))))))))))
 exact Ao h15 (Ao h15 (Ao h15 (Ao h15 (Ao h15 (Ca h15 (G8 q15 h15) rfl)))))
 intro b15 q15
 refine Ai (Bj (c := sb a.fHasWill) B1 (Bb rfl) rfl (Ai (Bj (c := sb b.fHasWill) B2 (Bb rfl) rfl (G7 (v := sb (a.fHasWill == b.fHasWill)) (fun k => rfl) ?_))))
 apply A6 ((a.fHasWill == b.fHasWill) && (a.fWTopic.toList == b.fWTopic.toList))
 intro b16 q16
 refine Ag ((a.fHasWill == b.fHasWill)) (fun h16 => ?_) fun h16 => ?_
 exact An h16 (Ai (An h16 (Bj (c := ss a.fWTopic) B1 (Bb rfl) rfl (An h16 (Ai (An h16 (Bj (c := ss b.fWTopic) B2 (Bb rfl) rfl (An h16 (A1 (v := sb (a.fWTopic.toList == b.fWTopic.toList)) (fun k => rfl) (Cb h16 (G9 q16 h16) rfl))))))))))
 exact Ao h16 (Ao h16 (Ao h16 (Ao h16 (Ao h16 (Ca h16 (G8 q16 h16) rfl)))))
 intro b16 q16
 apply A6 (b16 && (a.fWBody.toList == b.fWBody.toList))
 intro b17 q17
 refine Ag (b16) (fun h17 => ?_) fun h17 => ?_
 exact An h17 (Ai (An h17 (Bj (c := A3 a.fWBody) B1 (Bb rfl) rfl (An h17 (Ai (An h17 (Bj (c := A3 b.fWBody) B2 (Bb rfl) rfl (An h17 (Dk rfl (Bk (Ei _ _ _) (Bk (Ei _ _ _) Dw)) (Km (n + 0) _ a.fWBody b.fWBody) (Cb h17 (G9 q17 h17) rfl))))))))))
 exact Ao h17 (Ao h17 (Ao h17 (Ao h17 (Ao h17 (Ca h17 (G8 q17 h17) rfl)))))
 intro b17 q17
 apply A6 (b17 && (a.fWQos == b.fWQos))
 intro b18 q18
 refine Ag (b17) (fun h18 => ?_) fun h18 => ?_
 exact An h18 (Ai (An h18 (Bj (c := si a.fWQos) B1 (Bb rfl) rfl (An h18 (Ai (An h18 (Bj (c := si b.fWQos) B2 (Bb rfl) rfl (An h18 (A1 (v := sb (a.fWQos == b.fWQos)) (fun k => rfl) (Cb h18 (G9 q18 h18) rfl))))))))))
 exact Ao h18 (Ao h18 (Ao h18 (Ao h18 (Ao h18 (Ca h18 (G8 q18 h18) rfl)))))
 intro b18 q18
 apply A6 (b18 && (a.fWRetain == b.fWRetain))
 intro b19 q19
 refine Ag (b18) (fun h19 => ?_) fun h19 => ?_
 exact An h19 (Ai (An h19 (Bj (c := sb a.fWRetain) B1 (Bb rfl) rfl (An h19 (Ai (An h19 (Bj (c := sb b.fWRetain) B2 (Bb rfl) rfl (An h19 (G7 (v := sb (a.fWRetain == b.fWRetain)) (fun k => rfl) (Cb h19 (G9 q19 h19) rfl))))))))))
 exact Ao h19 (Ao h19 (Ao h19 (Ao h19 (Ao h19 (Ca h19 (G8 q19 h19) rfl)))))
 intro b19 q19
 refine Ai (Bj (c := Al Dp a.fWants) B1 (Bb rfl) rfl (Ai (Bj (c := Al Dp b.fWants) B2 (Bb rfl) rfl (Dk rfl (Bk (Ei _ _ _) (Bk (Ei _ _ _) Dw)) (Y1 (n + 0) (by omega) _ a.fWants b.fWants (by omega)) ?_))))
 apply A6 ((Fs Ig a.fWants b.fWants) && (Fs Nv a.fNames b.fNames))
 intro b20 q20
 refine Ag ((Fs Ig a.fWants b.fWants)) (fun h20 => ?_) fun h20 => ?_
 exact An h20 (Ai (An h20 (Bj (c := Iu a.fNames) B1 (Bb rfl) rfl (An h20 (Ai (An h20 (Bj (c := Iu b.fNames) B2 (Bb rfl) rfl (An h20 (Dk rfl (Bk (Ei _ _ _) (Bk (Ei _ _ _) Dw)) (Ab1 (n + 0) (by omega) _ a.fNames b.fNames (by omega)) (Cb h20 (G9 q20 h20) rfl))))))))))
 exact Ao h20 (Ao h20 (Ao h20 (Ao h20 (Ao h20 (Ca h20 (G8 q20 h20) rfl)))))
 intro b20 q20
 apply A6 (b20 && (Fs Vg a.fCodes b.fCodes))
 intro b21 q21
 refine Ag (b20) (fun h21 => ?_) fun h21 => ?_
 exact An h21 (Ai (An h21 (Bj (c := Fo a.fCodes) B1 (Bb rfl) rfl (An h21 (Ai (An h21 (Bj (c := Fo b.fCodes) B2 (Bb rfl) rfl (An h21 (Dk rfl (Bk (Ei _ _ _) (Bk (Ei _ _ _) Dw)) (Ab0 (n + 0) (by omega) _ a.fCodes b.fCodes (by omega)) (Cb h21 (G9 q21 h21) rfl))))))))))
 exact Ao h21 (Ao h21 (Ao h21 (Ao h21 (Ao h21 (Ca h21 (G8 q21 h21) rfl)))))
 intro b21 q21
 apply A6 (b8 && b15)
 intro b22 q22
 refine Ag (b8) (fun h22 => ?_) fun h22 => ?_
 exact An h22 (Cb h22 (G9 q22 h22) rfl)
 exact Ao h22 (Ca h22 (G8 q22 h22) rfl)
 intro b22 q22
 apply A6 (b22 && b19)
 intro b23 q23
 refine Ag (b22) (fun h23 => ?_) fun h23 => ?_
 exact An h23 (Cb h23 (G9 q23 h23) rfl)
 exact Ao h23 (Ca h23 (G8 q23 h23) rfl)
 intro b23 q23
 apply A6 (b23 && b21)
 intro b24 q24
 refine Ag (b23) (fun h24 => ?_) fun h24 => ?_
 exact An h24 (Cb h24 (G9 q24 h24) rfl)
 exact Ao h24 (Ca h24 (G8 q24 h24) rfl)
 intro b24 q24
 apply A6 (b24 && (a.fCode == b.fCode))
 intro b25 q25
 refine Ag (b24) (fun h25 => ?_) fun h25 => ?_
 exact An h25 (Ai (An h25 (Bj (c := si a.fCode) B1 (Bb rfl) rfl (An h25 (Ai (An h25 (Bj (c := si b.fCode) B2 (Bb rfl) rfl (An h25 (A1 (v := sb (a.fCode == b.fCode)) (fun k => rfl) (Cb h25 (G9 q25 h25) rfl))))))))))
 exact Ao h25 (Ao h25 (Ao h25 (Ao h25 (Ao h25 (Ca h25 (G8 q25 h25) rfl)))))
 intro b25 q25
 apply A6 (b25 && (a.fPresent == b.fPresent))
 intro b26 q26
 refine Ag (b25) (fun h26 => ?_) fun h26 => ?_
 exact An h26 (Ai (An h26 (Bj (c := sb a.fPresent) B1 (Bb rfl) rfl (An h26 (Ai (An h26 (Bj (c := sb b.fPresent) B2 (Bb rfl) rfl (An h26 (G7 (v := sb (a.fPresent == b.fPresent)) (fun k => rfl) (Cb h26 (G9 q26 h26) rfl))))))))))
 exact Ao h26 (Ao h26 (Ao h26 (Ao h26 (Ao h26 (Ca h26 (G8 q26 h26) rfl)))))
 intro b26 q26
 exact Eg (by subst_vars; simp only [Cn, Jg, Fw]; ac_rfl)
end
end Go.Proofs.YtdofipeaomgbbaaGreatDoor.Abs
set_option maxHeartbeats 32000000
namespace Go.Proofs.YtdofipeaomgbbaaGreatDoor.Abs
open _root_.Option renaming bind_eq_some_iff → zaa, bind_some → zab, getD_some → zaA
open _root_.List renaming getElem?_eq_some_iff → zac, replicate → zad, nil_append → zae, getElem?_append_right → zaf, length_append → zag, getElem?_append_left → zai, append_assoc → zak, append_nil → zam, cons_append → zao, length_singleton → zap, length_cons → zat, length_nil → zau, mem_cons_of_mem → zav, map_cons → zax, flatten_append → zay, take_length → zaz, getElem?_set_ne → za0, mem_cons → za2, drop_zero → za4, map_append → za6, mem_cons_self → za9, length_drop → zaC, nodup_cons → zaF, flatten_cons → zaH, mem_range'_1 → zaJ, mem_append → zaL, nodup_append → zaO, getElem?_set_self → zaR, nodup_range' → zaS, getElem?_drop → zaT, drop_eq_getElem_cons → zaV, drop_of_length_le → zaX, drop_drop → zba, getElem?_map → zbd, range' → zbg, any_cons → zbh, length_set → zbi, all_cons → zbk, drop_append_of_le_length → zbl, set_eq_take_append_cons_drop → zbw, map_nil → zbx, headD_cons → zb3, length_map → zb4, take_append_of_le_length → zb7, tail_cons → zb8, nodup_nil → zb9, getD_eq_getElem?_getD → zbF, replicate_succ' → zbH, take_zero → zbI, drop_length → zbM, replicate_succ → zbN
open _root_.Bool renaming and_eq_true → zah, false_eq_true → zaj, eq_iff_iff → zbj, false_or → zbr, true_and → zbE
open _root_.Nat renaming le_refl → zal, zero_add → zaw, le_trans → za1, zero_le → za3, min_eq_left → zaM, sub_self → zaN, add_assoc → zaQ, add_zero → zbf, add_sub_cancel_left → zbs, one_mul → zbt, add_comm → zbO, mul_one → zbR, succ_mul → zbS
open _root_.Int renaming natCast_zero → zaY, toNat_natCast → zbo
section
open Go
def Fk (t : Int) : A5 := ⟨t, false, 0, false, 0, ⟨#[]⟩, ⟨#[]⟩, ⟨#[]⟩, 0, false, 0, false, ⟨#[]⟩, ⟨#[]⟩, 0, false, false, ⟨#[]⟩, false, ⟨#[]⟩, 0, false, [], [], []⟩
def Dm (p q : A5) : A5 := if p.fHasWill then { q with fHasWill := true, fWTopic := p.fWTopic, fWBody := p.fWBody, fWQos := p.fWQos, fWRetain := p.fWRetain } else q
def Dl (p q : A5) : A5 := if p.fHasUser then (if p.fHasPass then { q with fHasUser := true, fUser := p.fUser, fHasPass := true, fPass := p.fPass } else { q with fHasUser := true, fUser := p.fUser }) else q
def Bc (pc : Bool) (p : A5) : A5 :=
 if p.fType = 1 then Dl p (Dm p { Fk p.fType with fClient := p.fClient, fLevel := p.fLevel, fClean := p.fClean, fKeep := p.fKeep })
 else if p.fType = 2 then { Fk p.fType with fCode := p.fCode, fPresent := p.fPresent && (!pc || decide (p.fCode = 0)) }
 else if p.fType = 3 then (if 0 < p.fQos then { Fk p.fType with fQos := p.fQos, fRetain := p.fRetain, fTopic := p.fTopic, fBody := p.fBody, fDup := p.fDup, fId := p.fId } else { Fk p.fType with fQos := p.fQos, fRetain := p.fRetain, fTopic := p.fTopic, fBody := p.fBody })
 else if p.fType = 4 ∨ p.fType = 5 ∨ p.fType = 6 ∨ p.fType = 7 ∨ p.fType = 11 then { Fk p.fType with fId := p.fId }
 else if p.fType = 8 then { Fk p.fType with fId := p.fId, fWants := p.fWants }
 else if p.fType = 9 then { Fk p.fType with fId := p.fId, fCodes := p.fCodes }
 else if p.fType = 10 then { Fk p.fType with fId := p.fId, fNames := p.fNames }
 else Fk p.fType
theorem Iy (n : Nat) (hn : 1048576 < n) (p : A5) {β : Type} {G : Option β → Prop} {KH : KO β} {H : Ab} {L : List Ck} (s0 : Sep H (L)) (hk : ∀ raw H', (∀ L', VwL L' 7 raw (Bp (Bc false p))) → Sep H' L → Gd G (KH (.agg raw) H')) : Gd G (Dz E0 (n + 1) β 54 [.agg (Bp p)] H fun x H => KH x H) := by
 rw [Ait, f54]
 try simp only [Dh, C1, B8, Bn, Bs, Bf, Ay, Bw, Wf, Aao]
 refine Mf s0 (F9 (E1 _)) fun i1 H s2 => C8 s2 fun i3 H s4 => gf0 (Au (c := si p.fType) s4 A7 rfl (Bq (cs := [si p.fType, bF, i0, bF, i0, sE, .nl, sE, i0, bF, i0, bF, sE, .nl, i0, bF, bF, sE, bF, .nl, i0, bF, .nl, .nl, .nl]) rfl (C8 s4 fun i5 H s6 => Bo (cs' := [si p.fType, bF, i0, bF, i0, sE, .nl, sE, i0, bF, i0, bF, sE, .nl, i0, bF, bF, sE, bF, .nl, i0, bF, .nl, .nl, .nl]) s6 (.here) (Ac rfl) rfl (Bb rfl) rfl fun H s7 => gf0 (Au (c := si p.fType) s7 B9 rfl (Bh (Ag ((decide (p.fType = 1))) (fun h8 => ?_) fun h8 => ?_))))))
 refine Co h8 (gf7 (Au (c := ss p.fClient) s7 B9 rfl (gf8 (gf9 (Ag3 (AeI (W5 (gf7 (Fy s7 B9 (Wb (.here)) (Au (c := si p.fLevel) s7 B9 rfl (Fy s7 B9 (Wb (.here)) (Au (c := sb p.fClean) s7 B9 rfl (Fy s7 B9 (Wb (.here)) (Au (c := si p.fKeep) s7 B9 rfl (Fy s7 B9 (Wb (.here)) (Au (c := sb p.fHasWill) s7 B9 rfl (Fy s7 B9 (Wb (.here)) (Au (c := sb p.fHasUser) s7 B9 rfl (G5 (B4 s7 (.here) rfl rfl fun H s9 => gf8 (G5 (B4 s9 (.here) rfl rfl fun H s10 => gf9 (G5 (B4 s10 (.here) rfl rfl fun H s11 => Ag3 (G5 (B4 s11 (.here) rfl rfl fun H s12 => AeI (G5 (B4 s12 (.here) rfl rfl fun H s13 => W5 (B4 s13 (.here) rfl rfl fun H s14 => AeI (Au (c := sb p.fHasWill) s14 B9 rfl (Ix (Ag (p.fHasWill) (fun h15 => ?_) fun h15 => ?_))))))))))))))))))))))))))))))))
 refine Co h15 (Ag4 (Au (c := ss p.fWTopic) s14 B9 rfl (Ag5 (Ag6 (Ag7 (Ag4 (Fy s14 B9 (Wb (.here)) (Au (c := A3 p.fWBody) s14 B9 rfl (Fy s14 B9 (Wb (.here)) (Au (c := si p.fWQos) s14 B9 rfl (Fy s14 B9 (Wb (.here)) (Au (c := sb p.fWRetain) s14 B9 rfl (G5 (B4 s14 (.here) rfl rfl fun H s16 => Ag5 (G5 (B4 s16 (.here) rfl rfl fun H s17 => Ag6 (G5 (B4 s17 (.here) rfl rfl fun H s18 => Ag7 (B4 s18 (.here) rfl rfl fun H s19 => W5 (Au (c := sb p.fHasUser) s19 B9 rfl (Ix (Ag (p.fHasUser) (fun h20 => ?_) fun h20 => ?_))))))))))))))))))))))
 refine Co h20 (W6 (Au (c := ss p.fUser) s19 B9 rfl (Rg (W6 (Fy s19 B9 (Wb (.here)) (Au (c := sb p.fHasPass) s19 B9 rfl (G5 (B4 s19 (.here) rfl rfl fun H s21 => Rg (B4 s21 (.here) rfl rfl fun H s22 => Rg (Au (c := sb p.fHasPass) s22 (.here) rfl (Ag (p.fHasPass) (fun h23 => ?_) fun h23 => ?_)))))))))))
 refine Co h23 (W7 (Au (c := A3 p.fPass) s22 B9 rfl (W7 (B4 s22 (.here) rfl rfl fun H s24 => Ah s24 (.here) rfl (Bo (cs' := [si p.fType, bF, i0, bF, i0, sE, .nl, ss p.fClient, si p.fLevel, sb p.fClean, si p.fKeep, sb p.fHasWill, ss p.fWTopic, A3 p.fWBody, si p.fWQos, sb p.fWRetain, sb p.fHasUser, ss p.fUser, sb p.fHasPass, A3 p.fPass, i0, bF, .nl, .nl, .nl]) s24 A7 (Ac rfl) rfl (Bb rfl) rfl fun H s25 => Ah s25 (.here) rfl ?_)))))
 have e : Bc false p = (⟨p.fType, false, 0, false, 0, ⟨#[]⟩, ⟨#[]⟩, p.fClient, p.fLevel, p.fClean, p.fKeep, p.fHasWill, p.fWTopic, p.fWBody, p.fWQos, p.fWRetain, p.fHasUser, p.fUser, p.fHasPass, p.fPass, 0, false, [], [], []⟩ : A5) := by
  simp only [F7] at h8 h15 h20 h23
  simp [Bc, Dm, Dl, Fk, h8, h15, h20, h23]
 rw [e] at hk
 exact hk _ _ (fun L' => (Gp (.cons .nl (Gp (.cons .ro (K5 (.cons .ro (Hw (.cons .nl (.cons .nl (.cons .nl .nil))))))))))) s25.tail.tail.tail
 refine Bt h23 (Ah s22 (.here) rfl (Bo (cs' := [si p.fType, bF, i0, bF, i0, sE, .nl, ss p.fClient, si p.fLevel, sb p.fClean, si p.fKeep, sb p.fHasWill, ss p.fWTopic, A3 p.fWBody, si p.fWQos, sb p.fWRetain, sb p.fHasUser, ss p.fUser, sb p.fHasPass, .nl, i0, bF, .nl, .nl, .nl]) s22 A7 (Ac rfl) rfl (Bb rfl) rfl fun H s26 => Ah s26 (.here) rfl ?_))
 have e : Bc false p = (⟨p.fType, false, 0, false, 0, ⟨#[]⟩, ⟨#[]⟩, p.fClient, p.fLevel, p.fClean, p.fKeep, p.fHasWill, p.fWTopic, p.fWBody, p.fWQos, p.fWRetain, p.fHasUser, p.fUser, p.fHasPass, ⟨#[]⟩, 0, false, [], [], []⟩ : A5) := by
  simp only [F7] at h8 h15 h20 h23
  simp [Bc, Dm, Dl, Fk, h8, h15, h20, h23]
 rw [e] at hk
 exact hk _ _ (fun L' => (Gp (.cons .nl (Gp (.cons .ro (K5 (.cons .nl (Hw (.cons .nl (.cons .nl (.cons .nl .nil))))))))))) s26.tail.tail.tail
 refine Bt h20 (Rg (Au (c := bF) s19 (.here) rfl (Bt rfl (Ah s19 (.here) rfl (Bo (cs' := [si p.fType, bF, i0, bF, i0, sE, .nl, ss p.fClient, si p.fLevel, sb p.fClean, si p.fKeep, sb p.fHasWill, ss p.fWTopic, A3 p.fWBody, si p.fWQos, sb p.fWRetain, sb p.fHasUser, sE, bF, .nl, i0, bF, .nl, .nl, .nl]) s19 A7 (Ac rfl) rfl (Bb rfl) rfl fun H s27 => Ah s27 (.here) rfl ?_)))))
 have e : Bc false p = (⟨p.fType, false, 0, false, 0, ⟨#[]⟩, ⟨#[]⟩, p.fClient, p.fLevel, p.fClean, p.fKeep, p.fHasWill, p.fWTopic, p.fWBody, p.fWQos, p.fWRetain, p.fHasUser, ⟨#[]⟩, false, ⟨#[]⟩, 0, false, [], [], []⟩ : A5) := by
  simp only [F7] at h8 h15 h20
  simp [Bc, Dm, Dl, Fk, h8, h15, h20]
 rw [e] at hk
 exact hk _ _ (fun L' => (Gp (.cons .nl (Gp (.cons .ro (K5 (.cons .nl (Hw (.cons .nl (.cons .nl (.cons .nl .nil))))))))))) s27.tail.tail.tail
 refine Bt h15 (W5 (Au (c := sb p.fHasUser) s14 B9 rfl (Ix (Ag (p.fHasUser) (fun h28 => ?_) fun h28 => ?_))))
 refine Co h28 (W6 (Au (c := ss p.fUser) s14 B9 rfl (Rg (W6 (Fy s14 B9 (Wb (.here)) (Au (c := sb p.fHasPass) s14 B9 rfl (G5 (B4 s14 (.here) rfl rfl fun H s29 => Rg (B4 s29 (.here) rfl rfl fun H s30 => Rg (Au (c := sb p.fHasPass) s30 (.here) rfl (Ag (p.fHasPass) (fun h31 => ?_) fun h31 => ?_)))))))))))
 refine Co h31 (W7 (Au (c := A3 p.fPass) s30 B9 rfl (W7 (B4 s30 (.here) rfl rfl fun H s32 => Ah s32 (.here) rfl (Bo (cs' := [si p.fType, bF, i0, bF, i0, sE, .nl, ss p.fClient, si p.fLevel, sb p.fClean, si p.fKeep, sb p.fHasWill, sE, .nl, i0, bF, sb p.fHasUser, ss p.fUser, sb p.fHasPass, A3 p.fPass, i0, bF, .nl, .nl, .nl]) s32 A7 (Ac rfl) rfl (Bb rfl) rfl fun H s33 => Ah s33 (.here) rfl ?_)))))
 have e : Bc false p = (⟨p.fType, false, 0, false, 0, ⟨#[]⟩, ⟨#[]⟩, p.fClient, p.fLevel, p.fClean, p.fKeep, p.fHasWill, ⟨#[]⟩, ⟨#[]⟩, 0, false, p.fHasUser, p.fUser, p.fHasPass, p.fPass, 0, false, [], [], []⟩ : A5) := by
  simp only [F7] at h8 h15 h28 h31
  simp [Bc, Dm, Dl, Fk, h8, h15, h28, h31]
 rw [e] at hk
 exact hk _ _ (fun L' => (Gp (.cons .nl (Gp (.cons .nl (K5 (.cons .ro (Hw (.cons .nl (.cons .nl (.cons .nl .nil))))))))))) s33.tail.tail.tail
 refine Bt h31 (Ah s30 (.here) rfl (Bo (cs' := [si p.fType, bF, i0, bF, i0, sE, .nl, ss p.fClient, si p.fLevel, sb p.fClean, si p.fKeep, sb p.fHasWill, sE, .nl, i0, bF, sb p.fHasUser, ss p.fUser, sb p.fHasPass, .nl, i0, bF, .nl, .nl, .nl]) s30 A7 (Ac rfl) rfl (Bb rfl) rfl fun H s34 => Ah s34 (.here) rfl ?_))
 have e : Bc false p = (⟨p.fType, false, 0, false, 0, ⟨#[]⟩, ⟨#[]⟩, p.fClient, p.fLevel, p.fClean, p.fKeep, p.fHasWill, ⟨#[]⟩, ⟨#[]⟩, 0, false, p.fHasUser, p.fUser, p.fHasPass, ⟨#[]⟩, 0, false, [], [], []⟩ : A5) := by
  simp only [F7] at h8 h15 h28 h31
  simp [Bc, Dm, Dl, Fk, h8, h15, h28, h31]
 rw [e] at hk
 exact hk _ _ (fun L' => (Gp (.cons .nl (Gp (.cons .nl (K5 (.cons .nl (Hw (.cons .nl (.cons .nl (.cons .nl .nil))))))))))) s34.tail.tail.tail
 refine Bt h28 (Rg (Au (c := bF) s14 (.here) rfl (Bt rfl (Ah s14 (.here) rfl (Bo (cs' := [si p.fType, bF, i0, bF, i0, sE, .nl, ss p.fClient, si p.fLevel, sb p.fClean, si p.fKeep, sb p.fHasWill, sE, .nl, i0, bF, sb p.fHasUser, sE, bF, .nl, i0, bF, .nl, .nl, .nl]) s14 A7 (Ac rfl) rfl (Bb rfl) rfl fun H s35 => Ah s35 (.here) rfl ?_)))))
 have e : Bc false p = (⟨p.fType, false, 0, false, 0, ⟨#[]⟩, ⟨#[]⟩, p.fClient, p.fLevel, p.fClean, p.fKeep, p.fHasWill, ⟨#[]⟩, ⟨#[]⟩, 0, false, p.fHasUser, ⟨#[]⟩, false, ⟨#[]⟩, 0, false, [], [], []⟩ : A5) := by
  simp only [F7] at h8 h15 h28
  simp [Bc, Dm, Dl, Fk, h8, h15, h28]
 rw [e] at hk
 exact hk _ _ (fun L' => (Gp (.cons .nl (Gp (.cons .nl (K5 (.cons .nl (Hw (.cons .nl (.cons .nl (.cons .nl .nil))))))))))) s35.tail.tail.tail
 refine Bt h8 (Bh (Ag ((decide (p.fType = 2))) (fun h36 => ?_) fun h36 => ?_))
 refine Co h36 (AeJ (Au (c := si p.fCode) s7 B9 rfl (AeK (AeJ (Fy s7 B9 (Wb (.here)) (Au (c := sb p.fPresent) s7 B9 rfl (G5 (B4 s7 (.here) rfl rfl fun H s37 => AeK (B4 s37 (.here) rfl rfl fun H s38 => Ah s38 (.here) rfl (Bo (cs' := [si p.fType, bF, i0, bF, i0, sE, .nl, sE, i0, bF, i0, bF, sE, .nl, i0, bF, bF, sE, bF, .nl, si p.fCode, sb p.fPresent, .nl, .nl, .nl]) s38 A7 (Ac rfl) rfl (Bb rfl) rfl fun H s39 => Ah s39 (.here) rfl ?_))))))))))
 have e : Bc false p = (⟨p.fType, false, 0, false, 0, ⟨#[]⟩, ⟨#[]⟩, ⟨#[]⟩, 0, false, 0, false, ⟨#[]⟩, ⟨#[]⟩, 0, false, false, ⟨#[]⟩, false, ⟨#[]⟩, p.fCode, p.fPresent, [], [], []⟩ : A5) := by
  simp only [F7] at h8 h36
  simp [Bc, Dm, Dl, Fk, h8, h36]
 rw [e] at hk
 exact hk _ _ (fun L' => (Gp (.cons .nl (Gp (.cons .nl (K5 (.cons .nl (Hw (.cons .nl (.cons .nl (.cons .nl .nil))))))))))) s39.tail.tail.tail
 refine Bt h36 (Bh (Ag ((decide (p.fType = 3))) (fun h40 => ?_) fun h40 => ?_))
 refine Co h40 (gf2 (Au (c := si p.fQos) s7 B9 rfl (gf3 (gf5 (gf6 (gf2 (Fy s7 B9 (Wb (.here)) (Au (c := sb p.fRetain) s7 B9 rfl (Fy s7 B9 (Wb (.here)) (Au (c := ss p.fTopic) s7 B9 rfl (Fy s7 B9 (Wb (.here)) (Au (c := A3 p.fBody) s7 B9 rfl (G5 (B4 s7 (.here) rfl rfl fun H s41 => gf3 (G5 (B4 s41 (.here) rfl rfl fun H s42 => gf5 (G5 (B4 s42 (.here) rfl rfl fun H s43 => gf6 (B4 s43 (.here) rfl rfl fun H s44 => gf2 (Au (c := si p.fQos) s44 B9 rfl (Mg (Ag ((decide (0 < p.fQos))) (fun h45 => ?_) fun h45 => ?_))))))))))))))))))))))
 refine Co h45 (gf1 (Au (c := sb p.fDup) s44 B9 rfl (Mo (gf1 (Fy s44 B9 (Wb (.here)) (Au (c := si p.fId) s44 B9 rfl (G5 (B4 s44 (.here) rfl rfl fun H s46 => Mo (B4 s46 (.here) rfl rfl fun H s47 => Ah s47 (.here) rfl (Bo (cs' := [si p.fType, sb p.fDup, si p.fQos, sb p.fRetain, si p.fId, ss p.fTopic, A3 p.fBody, sE, i0, bF, i0, bF, sE, .nl, i0, bF, bF, sE, bF, .nl, i0, bF, .nl, .nl, .nl]) s47 A7 (Ac rfl) rfl (Bb rfl) rfl fun H s48 => Ah s48 (.here) rfl ?_))))))))))
 have e : Bc false p = (⟨p.fType, p.fDup, p.fQos, p.fRetain, p.fId, p.fTopic, p.fBody, ⟨#[]⟩, 0, false, 0, false, ⟨#[]⟩, ⟨#[]⟩, 0, false, false, ⟨#[]⟩, false, ⟨#[]⟩, 0, false, [], [], []⟩ : A5) := by
  simp only [F7] at h8 h36 h40 h45
  simp [Bc, Dm, Dl, Fk, h8, h36, h40, h45]
 rw [e] at hk
 exact hk _ _ (fun L' => (Gp (.cons .ro (Gp (.cons .nl (K5 (.cons .nl (Hw (.cons .nl (.cons .nl (.cons .nl .nil))))))))))) s48.tail.tail.tail
 refine Bt h45 (Ah s44 (.here) rfl (Bo (cs' := [si p.fType, bF, si p.fQos, sb p.fRetain, i0, ss p.fTopic, A3 p.fBody, sE, i0, bF, i0, bF, sE, .nl, i0, bF, bF, sE, bF, .nl, i0, bF, .nl, .nl, .nl]) s44 A7 (Ac rfl) rfl (Bb rfl) rfl fun H s49 => Ah s49 (.here) rfl ?_))
 have e : Bc false p = (⟨p.fType, false, p.fQos, p.fRetain, 0, p.fTopic, p.fBody, ⟨#[]⟩, 0, false, 0, false, ⟨#[]⟩, ⟨#[]⟩, 0, false, false, ⟨#[]⟩, false, ⟨#[]⟩, 0, false, [], [], []⟩ : A5) := by
  simp only [F7] at h8 h36 h40 h45
  simp [Bc, Dm, Dl, Fk, h8, h36, h40, h45]
 rw [e] at hk
 exact hk _ _ (fun L' => (Gp (.cons .ro (Gp (.cons .nl (K5 (.cons .nl (Hw (.cons .nl (.cons .nl (.cons .nl .nil))))))))))) s49.tail.tail.tail
 refine Bt h40 (Bh (Ix (Ag ((decide (p.fType = 4))) (fun h50 => ?_) fun h50 => ?_)))
 refine Co h50 (Co h50 (Mo (Au (c := si p.fId) s7 B9 rfl (Mo (B4 s7 (.here) rfl rfl fun H s51 => Ah s51 (.here) rfl (Bo (cs' := [si p.fType, bF, i0, bF, si p.fId, sE, .nl, sE, i0, bF, i0, bF, sE, .nl, i0, bF, bF, sE, bF, .nl, i0, bF, .nl, .nl, .nl]) s51 A7 (Ac rfl) rfl (Bb rfl) rfl fun H s52 => Ah s52 (.here) rfl ?_))))))
 have e : Bc false p = (⟨p.fType, false, 0, false, p.fId, ⟨#[]⟩, ⟨#[]⟩, ⟨#[]⟩, 0, false, 0, false, ⟨#[]⟩, ⟨#[]⟩, 0, false, false, ⟨#[]⟩, false, ⟨#[]⟩, 0, false, [], [], []⟩ : A5) := by
  simp only [F7] at h8 h36 h40 h50
  simp [Bc, Dm, Dl, Fk, h8, h36, h40, h50]
 rw [e] at hk
 exact hk _ _ (fun L' => (Gp (.cons .nl (Gp (.cons .nl (K5 (.cons .nl (Hw (.cons .nl (.cons .nl (.cons .nl .nil))))))))))) s52.tail.tail.tail
 refine Bt h50 (Bh (Ag ((decide (p.fType = 5))) (fun h53 => ?_) fun h53 => ?_))
 refine Co h53 (Co h53 (Mo (Au (c := si p.fId) s7 B9 rfl (Mo (B4 s7 (.here) rfl rfl fun H s54 => Ah s54 (.here) rfl (Bo (cs' := [si p.fType, bF, i0, bF, si p.fId, sE, .nl, sE, i0, bF, i0, bF, sE, .nl, i0, bF, bF, sE, bF, .nl, i0, bF, .nl, .nl, .nl]) s54 A7 (Ac rfl) rfl (Bb rfl) rfl fun H s55 => Ah s55 (.here) rfl ?_))))))
 have e : Bc false p = (⟨p.fType, false, 0, false, p.fId, ⟨#[]⟩, ⟨#[]⟩, ⟨#[]⟩, 0, false, 0, false, ⟨#[]⟩, ⟨#[]⟩, 0, false, false, ⟨#[]⟩, false, ⟨#[]⟩, 0, false, [], [], []⟩ : A5) := by
  simp only [F7] at h8 h36 h40 h50 h53
  simp [Bc, Dm, Dl, Fk, h8, h36, h40, h50, h53]
 rw [e] at hk
 exact hk _ _ (fun L' => (Gp (.cons .nl (Gp (.cons .nl (K5 (.cons .nl (Hw (.cons .nl (.cons .nl (.cons .nl .nil))))))))))) s55.tail.tail.tail
 refine Bt h53 (Bh (Ag ((decide (p.fType = 6))) (fun h56 => ?_) fun h56 => ?_))
 refine Co h56 (Co h56 (Mo (Au (c := si p.fId) s7 B9 rfl (Mo (B4 s7 (.here) rfl rfl fun H s57 => Ah s57 (.here) rfl (Bo (cs' := [si p.fType, bF, i0, bF, si p.fId, sE, .nl, sE, i0, bF, i0, bF, sE, .nl, i0, bF, bF, sE, bF, .nl, i0, bF, .nl, .nl, .nl]) s57 A7 (Ac rfl) rfl (Bb rfl) rfl fun H s58 => Ah s58 (.here) rfl ?_))))))
 have e : Bc false p = (⟨p.fType, false, 0, false, p.fId, ⟨#[]⟩, ⟨#[]⟩, ⟨#[]⟩, 0, false, 0, false, ⟨#[]⟩, ⟨#[]⟩, 0, false, false, ⟨#[]⟩, false, ⟨#[]⟩, 0, false, [], [], []⟩ : A5) := by
  simp only [F7] at h8 h36 h40 h50 h53 h56
  simp [Bc, Dm, Dl, Fk, h8, h36, h40, h50, h53, h56]
 rw [e] at hk
 exact hk _ _ (fun L' => (Gp (.cons .nl (Gp (.cons .nl (K5 (.cons .nl (Hw (.cons .nl (.cons .nl (.cons .nl .nil))))))))))) s58.tail.tail.tail
 refine Bt h56 (Bh (Ag ((decide (p.fType = 7))) (fun h59 => ?_) fun h59 => ?_))
 refine Co h59 (Co h59 (Mo (Au (c := si p.fId) s7 B9 rfl (Mo (B4 s7 (.here) rfl rfl fun H s60 => Ah s60 (.here) rfl (Bo (cs' := [si p.fType, bF, i0, bF, si p.fId, sE, .nl, sE, i0, bF, i0, bF, sE, .nl, i0, bF, bF, sE, bF, .nl, i0, bF, .nl, .nl, .nl]) s60 A7 (Ac rfl) rfl (Bb rfl) rfl fun H s61 => Ah s61 (.here) rfl ?_))))))
 have e : Bc false p = (⟨p.fType, false, 0, false, p.fId, ⟨#[]⟩, ⟨#[]⟩, ⟨#[]⟩, 0, false, 0, false, ⟨#[]⟩, ⟨#[]⟩, 0, false, false, ⟨#[]⟩, false, ⟨#[]⟩, 0, false, [], [], []⟩ : A5) := by
  simp only [F7] at h8 h36 h40 h50 h53 h56 h59
  simp [Bc, Dm, Dl, Fk, h8, h36, h40, h50, h53, h56, h59]
 rw [e] at hk
 exact hk _ _ (fun L' => (Gp (.cons .nl (Gp (.cons .nl (K5 (.cons .nl (Hw (.cons .nl (.cons .nl (.cons .nl .nil))))))))))) s61.tail.tail.tail
 refine Bt h59 (Bh (Ag ((decide (p.fType = 11))) (fun h62 => ?_) fun h62 => ?_))
 refine Co h62 (Mo (Au (c := si p.fId) s7 B9 rfl (Mo (B4 s7 (.here) rfl rfl fun H s63 => Ah s63 (.here) rfl (Bo (cs' := [si p.fType, bF, i0, bF, si p.fId, sE, .nl, sE, i0, bF, i0, bF, sE, .nl, i0, bF, bF, sE, bF, .nl, i0, bF, .nl, .nl, .nl]) s63 A7 (Ac rfl) rfl (Bb rfl) rfl fun H s64 => Ah s64 (.here) rfl ?_)))))
 have e : Bc false p = (⟨p.fType, false, 0, false, p.fId, ⟨#[]⟩, ⟨#[]⟩, ⟨#[]⟩, 0, false, 0, false, ⟨#[]⟩, ⟨#[]⟩, 0, false, false, ⟨#[]⟩, false, ⟨#[]⟩, 0, false, [], [], []⟩ : A5) := by
  simp only [F7] at h8 h36 h40 h50 h53 h56 h59 h62
  simp [Bc, Dm, Dl, Fk, h8, h36, h40, h50, h53, h56, h59, h62]
 rw [e] at hk
 exact hk _ _ (fun L' => (Gp (.cons .nl (Gp (.cons .nl (K5 (.cons .nl (Hw (.cons .nl (.cons .nl (.cons .nl .nil))))))))))) s64.tail.tail.tail
 refine Bt h62 (Bh (Ag ((decide (p.fType = 8))) (fun h65 => ?_) fun h65 => ?_))
 refine Co h65 (Mo (Au (c := si p.fId) s7 B9 rfl (Ag8 (Mo (Fy s7 B9 (Wb (.here)) (Au (c := Al Dp p.fWants) s7 B9 rfl (G5 (B4 s7 (.here) rfl rfl fun H s66 => Ag8 (B4 s66 (.here) rfl rfl fun H s67 => Ah s67 (.here) rfl (Bo (cs' := [si p.fType, bF, i0, bF, si p.fId, sE, .nl, sE, i0, bF, i0, bF, sE, .nl, i0, bF, bF, sE, bF, .nl, i0, bF, Al Dp p.fWants, .nl, .nl]) s67 A7 (Ac rfl) rfl (Bb rfl) rfl fun H s68 => Ah s68 (.here) rfl ?_))))))))))
 have e : Bc false p = (⟨p.fType, false, 0, false, p.fId, ⟨#[]⟩, ⟨#[]⟩, ⟨#[]⟩, 0, false, 0, false, ⟨#[]⟩, ⟨#[]⟩, 0, false, false, ⟨#[]⟩, false, ⟨#[]⟩, 0, false, p.fWants, [], []⟩ : A5) := by
  simp only [F7] at h8 h36 h40 h50 h53 h56 h59 h62 h65
  simp [Bc, Dm, Dl, Fk, h8, h36, h40, h50, h53, h56, h59, h62, h65]
 rw [e] at hk
 exact hk _ _ (fun L' => (Gp (.cons .nl (Gp (.cons .nl (K5 (.cons .nl (Hw (.cons .ro (.cons .nl (.cons .nl .nil))))))))))) s68.tail.tail.tail
 refine Bt h65 (Bh (Ag ((decide (p.fType = 9))) (fun h69 => ?_) fun h69 => ?_))
 refine Co h69 (Mo (Au (c := si p.fId) s7 B9 rfl (AgA (Mo (Fy s7 B9 (Wb (.here)) (Au (c := Fo p.fCodes) s7 B9 rfl (G5 (B4 s7 (.here) rfl rfl fun H s70 => AgA (B4 s70 (.here) rfl rfl fun H s71 => Ah s71 (.here) rfl (Bo (cs' := [si p.fType, bF, i0, bF, si p.fId, sE, .nl, sE, i0, bF, i0, bF, sE, .nl, i0, bF, bF, sE, bF, .nl, i0, bF, .nl, .nl, Fo p.fCodes]) s71 A7 (Ac rfl) rfl (Bb rfl) rfl fun H s72 => Ah s72 (.here) rfl ?_))))))))))
 have e : Bc false p = (⟨p.fType, false, 0, false, p.fId, ⟨#[]⟩, ⟨#[]⟩, ⟨#[]⟩, 0, false, 0, false, ⟨#[]⟩, ⟨#[]⟩, 0, false, false, ⟨#[]⟩, false, ⟨#[]⟩, 0, false, [], [], p.fCodes⟩ : A5) := by
  simp only [F7] at h8 h36 h40 h50 h53 h56 h59 h62 h65 h69
  simp [Bc, Dm, Dl, Fk, h8, h36, h40, h50, h53, h56, h59, h62, h65, h69]
 rw [e] at hk
 exact hk _ _ (fun L' => (Gp (.cons .nl (Gp (.cons .nl (K5 (.cons .nl (Hw (.cons .nl (.cons .nl (.cons .ro .nil))))))))))) s72.tail.tail.tail
 refine Bt h69 (Bh (Ag ((decide (p.fType = 10))) (fun h73 => ?_) fun h73 => ?_))
 refine Co h73 (Mo (Au (c := si p.fId) s7 B9 rfl (Ag9 (Mo (Fy s7 B9 (Wb (.here)) (Au (c := Iu p.fNames) s7 B9 rfl (G5 (B4 s7 (.here) rfl rfl fun H s74 => Ag9 (B4 s74 (.here) rfl rfl fun H s75 => Ah s75 (.here) rfl (Bo (cs' := [si p.fType, bF, i0, bF, si p.fId, sE, .nl, sE, i0, bF, i0, bF, sE, .nl, i0, bF, bF, sE, bF, .nl, i0, bF, .nl, Iu p.fNames, .nl]) s75 A7 (Ac rfl) rfl (Bb rfl) rfl fun H s76 => Ah s76 (.here) rfl ?_))))))))))
 have e : Bc false p = (⟨p.fType, false, 0, false, p.fId, ⟨#[]⟩, ⟨#[]⟩, ⟨#[]⟩, 0, false, 0, false, ⟨#[]⟩, ⟨#[]⟩, 0, false, false, ⟨#[]⟩, false, ⟨#[]⟩, 0, false, [], p.fNames, []⟩ : A5) := by
  simp only [F7] at h8 h36 h40 h50 h53 h56 h59 h62 h65 h69 h73
  simp [Bc, Dm, Dl, Fk, h8, h36, h40, h50, h53, h56, h59, h62, h65, h69, h73]
 rw [e] at hk
 exact hk _ _ (fun L' => (Gp (.cons .nl (Gp (.cons .nl (K5 (.cons .nl (Hw (.cons .nl (.cons .ro (.cons .nl .nil))))))))))) s76.tail.tail.tail
 refine Bt h73 (Ah s7 (.here) rfl (Bo (cs' := [si p.fType, bF, i0, bF, i0, sE, .nl, sE, i0, bF, i0, bF, sE, .nl, i0, bF, bF, sE, bF, .nl, i0, bF, .nl, .nl, .nl]) s7 A7 (Ac rfl) rfl (Bb rfl) rfl fun H s77 => Ah s77 (.here) rfl ?_))
 have e : Bc false p = (⟨p.fType, false, 0, false, 0, ⟨#[]⟩, ⟨#[]⟩, ⟨#[]⟩, 0, false, 0, false, ⟨#[]⟩, ⟨#[]⟩, 0, false, false, ⟨#[]⟩, false, ⟨#[]⟩, 0, false, [], [], []⟩ : A5) := by
  simp only [F7] at h8 h36 h40 h50 h53 h56 h59 h62 h65 h69 h73
  simp [Bc, Dm, Dl, Fk, h8, h36, h40, h50, h53, h56, h59, h62, h65, h69, h73]
 rw [e] at hk
 exact hk _ _ (fun L' => (Gp (.cons .nl (Gp (.cons .nl (K5 (.cons .nl (Hw (.cons .nl (.cons .nl (.cons .nl .nil))))))))))) s77.tail.tail.tail
theorem Ts (n : Nat) (hn : 1048576 < n) (p : A5) {β : Type} {G : Option β → Prop} {KH : KO β} {H : Ab} {L : List Ck} (s0 : Sep H (L)) (hk : ∀ raw H', (∀ L', VwL L' 7 raw (Bp (Bc true p))) → Sep H' L → Gd G (KH (.agg raw) H')) : Gd G (Dz E0 (n + 1) β 121 [.agg (Bp p)] H fun x H => KH x H) := by
 rw [AfY, f121]
 try simp only [Dh, C1, B8, Bn, Bs, Bf, Ay, B3, Pr.gT, Pr.gF, Pr.hT, Pr.hF, Pr.kT, Pr.kF, Ci, Bw]
 refine Mf s0 (F9 (E1 _)) fun i1 H s2 => C8 s2 fun i3 H s4 => gf0 (Au (c := si p.fType) s4 A7 rfl (Bq (cs := [si p.fType, bF, i0, bF, i0, sE, .nl, sE, i0, bF, i0, bF, sE, .nl, i0, bF, bF, sE, bF, .nl, i0, bF, .nl, .nl, .nl]) rfl (C8 s4 fun i5 H s6 => Bo (cs' := [si p.fType, bF, i0, bF, i0, sE, .nl, sE, i0, bF, i0, bF, sE, .nl, i0, bF, bF, sE, bF, .nl, i0, bF, .nl, .nl, .nl]) s6 (.here) (Ac rfl) rfl (Bb rfl) rfl fun H s7 => gf0 (Au (c := si p.fType) s7 B9 rfl (Bh (Ag ((decide (p.fType = 1))) (fun h8 => ?_) fun h8 => ?_))))))
 refine Co h8 (gf8 (Au (c := si p.fLevel) s7 B9 rfl (gf8 (B4 s7 (.here) rfl rfl fun H s9 => gf7 (Au (c := ss p.fClient) s9 B9 rfl (gf7 (B4 s9 (.here) rfl rfl fun H s10 => gf9 (Au (c := sb p.fClean) s10 B9 rfl (gf9 (B4 s10 (.here) rfl rfl fun H s11 => Ag3 (Au (c := si p.fKeep) s11 B9 rfl (Ag3 (B4 s11 (.here) rfl rfl fun H s12 => AeI (Au (c := sb p.fHasWill) s12 B9 rfl (Ix (Ag (p.fHasWill) (fun h13 => ?_) fun h13 => ?_))))))))))))))))
 refine Co h13 (AeI (B4 s12 (.here) rfl rfl fun H s14 => Ag4 (Au (c := ss p.fWTopic) s14 B9 rfl (Ag4 (B4 s14 (.here) rfl rfl fun H s15 => Ag5 (Au (c := A3 p.fWBody) s15 B9 rfl (Ag5 (B4 s15 (.here) rfl rfl fun H s16 => Ag6 (Au (c := si p.fWQos) s16 B9 rfl (Ag6 (B4 s16 (.here) rfl rfl fun H s17 => Ag7 (Au (c := sb p.fWRetain) s17 B9 rfl (Ag7 (B4 s17 (.here) rfl rfl fun H s18 => W5 (Au (c := sb p.fHasUser) s18 B9 rfl (Ag (p.fHasUser) (fun h19 => ?_) fun h19 => ?_))))))))))))))))
 refine Co h19 (W5 (B4 s18 (.here) rfl rfl fun H s20 => W6 (Au (c := ss p.fUser) s20 B9 rfl (W6 (B4 s20 (.here) rfl rfl fun H s21 => Rg (Au (c := sb p.fHasPass) s21 B9 rfl (Ag (p.fHasPass) (fun h22 => ?_) fun h22 => ?_)))))))
 refine Co h22 (Rg (B4 s21 (.here) rfl rfl fun H s23 => W7 (Au (c := A3 p.fPass) s23 B9 rfl (W7 (B4 s23 (.here) rfl rfl fun H s24 => Ah s24 (.here) rfl (Bo (cs' := [si p.fType, bF, i0, bF, i0, sE, .nl, ss p.fClient, si p.fLevel, sb p.fClean, si p.fKeep, bT, ss p.fWTopic, A3 p.fWBody, si p.fWQos, sb p.fWRetain, bT, ss p.fUser, bT, A3 p.fPass, i0, bF, .nl, .nl, .nl]) s24 A7 (Ac rfl) rfl (Bb rfl) rfl fun H s25 => Ah s25 (.here) rfl ?_))))))
 have e : Bc true p = (⟨p.fType, false, 0, false, 0, ⟨#[]⟩, ⟨#[]⟩, p.fClient, p.fLevel, p.fClean, p.fKeep, true, p.fWTopic, p.fWBody, p.fWQos, p.fWRetain, true, p.fUser, true, p.fPass, 0, false, [], [], []⟩ : A5) := by
  simp only [F7] at h8 h13 h19 h22
  simp [Bc, Dm, Dl, Fk, h8, h13, h19, h22]
 rw [e] at hk
 exact hk _ _ (fun L' => (Gp (.cons .nl (Gp (.cons .ro (K5 (.cons .ro (Hw (.cons .nl (.cons .nl (.cons .nl .nil))))))))))) s25.tail.tail.tail
 refine Bt h22 (Ah s21 (.here) rfl (Bo (cs' := [si p.fType, bF, i0, bF, i0, sE, .nl, ss p.fClient, si p.fLevel, sb p.fClean, si p.fKeep, bT, ss p.fWTopic, A3 p.fWBody, si p.fWQos, sb p.fWRetain, bT, ss p.fUser, bF, .nl, i0, bF, .nl, .nl, .nl]) s21 A7 (Ac rfl) rfl (Bb rfl) rfl fun H s26 => Ah s26 (.here) rfl ?_))
 have e : Bc true p = (⟨p.fType, false, 0, false, 0, ⟨#[]⟩, ⟨#[]⟩, p.fClient, p.fLevel, p.fClean, p.fKeep, true, p.fWTopic, p.fWBody, p.fWQos, p.fWRetain, true, p.fUser, false, ⟨#[]⟩, 0, false, [], [], []⟩ : A5) := by
  simp only [F7] at h8 h13 h19 h22
  simp [Bc, Dm, Dl, Fk, h8, h13, h19, h22]
 rw [e] at hk
 exact hk _ _ (fun L' => (Gp (.cons .nl (Gp (.cons .ro (K5 (.cons .nl (Hw (.cons .nl (.cons .nl (.cons .nl .nil))))))))))) s26.tail.tail.tail
 refine Bt h19 (Ah s18 (.here) rfl (Bo (cs' := [si p.fType, bF, i0, bF, i0, sE, .nl, ss p.fClient, si p.fLevel, sb p.fClean, si p.fKeep, bT, ss p.fWTopic, A3 p.fWBody, si p.fWQos, sb p.fWRetain, bF, sE, bF, .nl, i0, bF, .nl, .nl, .nl]) s18 A7 (Ac rfl) rfl (Bb rfl) rfl fun H s27 => Ah s27 (.here) rfl ?_))
 have e : Bc true p = (⟨p.fType, false, 0, false, 0, ⟨#[]⟩, ⟨#[]⟩, p.fClient, p.fLevel, p.fClean, p.fKeep, true, p.fWTopic, p.fWBody, p.fWQos, p.fWRetain, false, ⟨#[]⟩, false, ⟨#[]⟩, 0, false, [], [], []⟩ : A5) := by
  simp only [F7] at h8 h13 h19
  simp [Bc, Dm, Dl, Fk, h8, h13, h19]
 rw [e] at hk
 exact hk _ _ (fun L' => (Gp (.cons .nl (Gp (.cons .ro (K5 (.cons .nl (Hw (.cons .nl (.cons .nl (.cons .nl .nil))))))))))) s27.tail.tail.tail
 refine Bt h13 (W5 (Au (c := sb p.fHasUser) s12 B9 rfl (Ag (p.fHasUser) (fun h28 => ?_) fun h28 => ?_)))
 refine Co h28 (W5 (B4 s12 (.here) rfl rfl fun H s29 => W6 (Au (c := ss p.fUser) s29 B9 rfl (W6 (B4 s29 (.here) rfl rfl fun H s30 => Rg (Au (c := sb p.fHasPass) s30 B9 rfl (Ag (p.fHasPass) (fun h31 => ?_) fun h31 => ?_)))))))
 refine Co h31 (Rg (B4 s30 (.here) rfl rfl fun H s32 => W7 (Au (c := A3 p.fPass) s32 B9 rfl (W7 (B4 s32 (.here) rfl rfl fun H s33 => Ah s33 (.here) rfl (Bo (cs' := [si p.fType, bF, i0, bF, i0, sE, .nl, ss p.fClient, si p.fLevel, sb p.fClean, si p.fKeep, bF, sE, .nl, i0, bF, bT, ss p.fUser, bT, A3 p.fPass, i0, bF, .nl, .nl, .nl]) s33 A7 (Ac rfl) rfl (Bb rfl) rfl fun H s34 => Ah s34 (.here) rfl ?_))))))
 have e : Bc true p = (⟨p.fType, false, 0, false, 0, ⟨#[]⟩, ⟨#[]⟩, p.fClient, p.fLevel, p.fClean, p.fKeep, false, ⟨#[]⟩, ⟨#[]⟩, 0, false, true, p.fUser, true, p.fPass, 0, false, [], [], []⟩ : A5) := by
  simp only [F7] at h8 h13 h28 h31
  simp [Bc, Dm, Dl, Fk, h8, h13, h28, h31]
 rw [e] at hk
 exact hk _ _ (fun L' => (Gp (.cons .nl (Gp (.cons .nl (K5 (.cons .ro (Hw (.cons .nl (.cons .nl (.cons .nl .nil))))))))))) s34.tail.tail.tail
 refine Bt h31 (Ah s30 (.here) rfl (Bo (cs' := [si p.fType, bF, i0, bF, i0, sE, .nl, ss p.fClient, si p.fLevel, sb p.fClean, si p.fKeep, bF, sE, .nl, i0, bF, bT, ss p.fUser, bF, .nl, i0, bF, .nl, .nl, .nl]) s30 A7 (Ac rfl) rfl (Bb rfl) rfl fun H s35 => Ah s35 (.here) rfl ?_))
 have e : Bc true p = (⟨p.fType, false, 0, false, 0, ⟨#[]⟩, ⟨#[]⟩, p.fClient, p.fLevel, p.fClean, p.fKeep, false, ⟨#[]⟩, ⟨#[]⟩, 0, false, true, p.fUser, false, ⟨#[]⟩, 0, false, [], [], []⟩ : A5) := by
  simp only [F7] at h8 h13 h28 h31
  simp [Bc, Dm, Dl, Fk, h8, h13, h28, h31]
 rw [e] at hk
 exact hk _ _ (fun L' => (Gp (.cons .nl (Gp (.cons .nl (K5 (.cons .nl (Hw (.cons .nl (.cons .nl (.cons .nl .nil))))))))))) s35.tail.tail.tail
 refine Bt h28 (Ah s12 (.here) rfl (Bo (cs' := [si p.fType, bF, i0, bF, i0, sE, .nl, ss p.fClient, si p.fLevel, sb p.fClean, si p.fKeep, bF, sE, .nl, i0, bF, bF, sE, bF, .nl, i0, bF, .nl, .nl, .nl]) s12 A7 (Ac rfl) rfl (Bb rfl) rfl fun H s36 => Ah s36 (.here) rfl ?_))
 have e : Bc true p = (⟨p.fType, false, 0, false, 0, ⟨#[]⟩, ⟨#[]⟩, p.fClient, p.fLevel, p.fClean, p.fKeep, false, ⟨#[]⟩, ⟨#[]⟩, 0, false, false, ⟨#[]⟩, false, ⟨#[]⟩, 0, false, [], [], []⟩ : A5) := by
  simp only [F7] at h8 h13 h28
  simp [Bc, Dm, Dl, Fk, h8, h13, h28]
 rw [e] at hk
 exact hk _ _ (fun L' => (Gp (.cons .nl (Gp (.cons .nl (K5 (.cons .nl (Hw (.cons .nl (.cons .nl (.cons .nl .nil))))))))))) s36.tail.tail.tail
 refine Bt h8 (Bh (Ag ((decide (p.fType = 2))) (fun h37 => ?_) fun h37 => ?_))
 refine Co h37 (AeJ (Au (c := si p.fCode) s7 B9 rfl (AeJ (B4 s7 (.here) rfl rfl fun H s38 => AeK (Au (c := sb p.fPresent) s38 B9 rfl (Ag (p.fPresent) (fun h39 => ?_) fun h39 => ?_))))))
 refine Av h39 (AeJ (Av h39 (Au (c := si p.fCode) s38 B9 rfl (Av h39 (Bh (Fe h39 (AeK (B4 s38 (.here) rfl rfl fun H s40 => Ah s40 (.here) rfl (Bo (cs' := [si p.fType, bF, i0, bF, i0, sE, .nl, sE, i0, bF, i0, bF, sE, .nl, i0, bF, bF, sE, bF, .nl, si p.fCode, sb (decide (p.fCode = 0)), .nl, .nl, .nl]) s40 A7 (Ac rfl) rfl (Bb rfl) rfl fun H s41 => Ah s41 (.here) rfl ?_)))))))))
 have e : Bc true p = (⟨p.fType, false, 0, false, 0, ⟨#[]⟩, ⟨#[]⟩, ⟨#[]⟩, 0, false, 0, false, ⟨#[]⟩, ⟨#[]⟩, 0, false, false, ⟨#[]⟩, false, ⟨#[]⟩, p.fCode, (decide (p.fCode = 0)), [], [], []⟩ : A5) := by
  simp only [F7] at h8 h37 h39
  simp [Bc, Dm, Dl, Fk, h8, h37, h39]
 rw [e] at hk
 exact hk _ _ (fun L' => (Gp (.cons .nl (Gp (.cons .nl (K5 (.cons .nl (Hw (.cons .nl (.cons .nl (.cons .nl .nil))))))))))) s41.tail.tail.tail
 refine El h39 (El h39 (El h39 (F1 h39 (AeK (B4 s38 (.here) rfl rfl fun H s42 => Ah s42 (.here) rfl (Bo (cs' := [si p.fType, bF, i0, bF, i0, sE, .nl, sE, i0, bF, i0, bF, sE, .nl, i0, bF, bF, sE, bF, .nl, si p.fCode, bF, .nl, .nl, .nl]) s42 A7 (Ac rfl) rfl (Bb rfl) rfl fun H s43 => Ah s43 (.here) rfl ?_))))))
 have e : Bc true p = (⟨p.fType, false, 0, false, 0, ⟨#[]⟩, ⟨#[]⟩, ⟨#[]⟩, 0, false, 0, false, ⟨#[]⟩, ⟨#[]⟩, 0, false, false, ⟨#[]⟩, false, ⟨#[]⟩, p.fCode, false, [], [], []⟩ : A5) := by
  simp only [F7] at h8 h37 h39
  simp [Bc, Dm, Dl, Fk, h8, h37, h39]
 rw [e] at hk
 exact hk _ _ (fun L' => (Gp (.cons .nl (Gp (.cons .nl (K5 (.cons .nl (Hw (.cons .nl (.cons .nl (.cons .nl .nil))))))))))) s43.tail.tail.tail
 refine Bt h37 (Bh (Ag ((decide (p.fType = 3))) (fun h44 => ?_) fun h44 => ?_))
 refine Co h44 (gf2 (Au (c := si p.fQos) s7 B9 rfl (gf2 (B4 s7 (.here) rfl rfl fun H s45 => gf3 (Au (c := sb p.fRetain) s45 B9 rfl (gf3 (B4 s45 (.here) rfl rfl fun H s46 => gf5 (Au (c := ss p.fTopic) s46 B9 rfl (gf5 (B4 s46 (.here) rfl rfl fun H s47 => gf6 (Au (c := A3 p.fBody) s47 B9 rfl (gf6 (B4 s47 (.here) rfl rfl fun H s48 => gf2 (Au (c := si p.fQos) s48 B9 rfl (Mg (Ag ((decide (0 < p.fQos))) (fun h49 => ?_) fun h49 => ?_))))))))))))))))
 refine Co h49 (gf1 (Au (c := sb p.fDup) s48 B9 rfl (gf1 (B4 s48 (.here) rfl rfl fun H s50 => Mo (Au (c := si p.fId) s50 B9 rfl (Mo (B4 s50 (.here) rfl rfl fun H s51 => Ah s51 (.here) rfl (Bo (cs' := [si p.fType, sb p.fDup, si p.fQos, sb p.fRetain, si p.fId, ss p.fTopic, A3 p.fBody, sE, i0, bF, i0, bF, sE, .nl, i0, bF, bF, sE, bF, .nl, i0, bF, .nl, .nl, .nl]) s51 A7 (Ac rfl) rfl (Bb rfl) rfl fun H s52 => Ah s52 (.here) rfl ?_))))))))
 have e : Bc true p = (⟨p.fType, p.fDup, p.fQos, p.fRetain, p.fId, p.fTopic, p.fBody, ⟨#[]⟩, 0, false, 0, false, ⟨#[]⟩, ⟨#[]⟩, 0, false, false, ⟨#[]⟩, false, ⟨#[]⟩, 0, false, [], [], []⟩ : A5) := by
  simp only [F7] at h8 h37 h44 h49
  simp [Bc, Dm, Dl, Fk, h8, h37, h44, h49]
 rw [e] at hk
 exact hk _ _ (fun L' => (Gp (.cons .ro (Gp (.cons .nl (K5 (.cons .nl (Hw (.cons .nl (.cons .nl (.cons .nl .nil))))))))))) s52.tail.tail.tail
 refine Bt h49 (Ah s48 (.here) rfl (Bo (cs' := [si p.fType, bF, si p.fQos, sb p.fRetain, i0, ss p.fTopic, A3 p.fBody, sE, i0, bF, i0, bF, sE, .nl, i0, bF, bF, sE, bF, .nl, i0, bF, .nl, .nl, .nl]) s48 A7 (Ac rfl) rfl (Bb rfl) rfl fun H s53 => Ah s53 (.here) rfl ?_))
 have e : Bc true p = (⟨p.fType, false, p.fQos, p.fRetain, 0, p.fTopic, p.fBody, ⟨#[]⟩, 0, false, 0, false, ⟨#[]⟩, ⟨#[]⟩, 0, false, false, ⟨#[]⟩, false, ⟨#[]⟩, 0, false, [], [], []⟩ : A5) := by
  simp only [F7] at h8 h37 h44 h49
  simp [Bc, Dm, Dl, Fk, h8, h37, h44, h49]
 rw [e] at hk
 exact hk _ _ (fun L' => (Gp (.cons .ro (Gp (.cons .nl (K5 (.cons .nl (Hw (.cons .nl (.cons .nl (.cons .nl .nil))))))))))) s53.tail.tail.tail
 refine Bt h44 (Bh (Ix (Ag ((decide (p.fType = 4))) (fun h54 => ?_) fun h54 => ?_)))
 refine Co h54 (Co h54 (Mo (Au (c := si p.fId) s7 B9 rfl (Mo (B4 s7 (.here) rfl rfl fun H s55 => Ah s55 (.here) rfl (Bo (cs' := [si p.fType, bF, i0, bF, si p.fId, sE, .nl, sE, i0, bF, i0, bF, sE, .nl, i0, bF, bF, sE, bF, .nl, i0, bF, .nl, .nl, .nl]) s55 A7 (Ac rfl) rfl (Bb rfl) rfl fun H s56 => Ah s56 (.here) rfl ?_))))))
 have e : Bc true p = (⟨p.fType, false, 0, false, p.fId, ⟨#[]⟩, ⟨#[]⟩, ⟨#[]⟩, 0, false, 0, false, ⟨#[]⟩, ⟨#[]⟩, 0, false, false, ⟨#[]⟩, false, ⟨#[]⟩, 0, false, [], [], []⟩ : A5) := by
  simp only [F7] at h8 h37 h44 h54
  simp [Bc, Dm, Dl, Fk, h8, h37, h44, h54]
 rw [e] at hk
 exact hk _ _ (fun L' => (Gp (.cons .nl (Gp (.cons .nl (K5 (.cons .nl (Hw (.cons .nl (.cons .nl (.cons .nl .nil))))))))))) s56.tail.tail.tail
 refine Bt h54 (Bh (Ag ((decide (p.fType = 5))) (fun h57 => ?_) fun h57 => ?_))
 refine Co h57 (Co h57 (Mo (Au (c := si p.fId) s7 B9 rfl (Mo (B4 s7 (.here) rfl rfl fun H s58 => Ah s58 (.here) rfl (Bo (cs' := [si p.fType, bF, i0, bF, si p.fId, sE, .nl, sE, i0, bF, i0, bF, sE, .nl, i0, bF, bF, sE, bF, .nl, i0, bF, .nl, .nl, .nl]) s58 A7 (Ac rfl) rfl (Bb rfl) rfl fun H s59 => Ah s59 (.here) rfl ?_))))))
 have e : Bc true p = (⟨p.fType, false, 0, false, p.fId, ⟨#[]⟩, ⟨#[]⟩, ⟨#[]⟩, 0, false, 0, false, ⟨#[]⟩, ⟨#[]⟩, 0, false, false, ⟨#[]⟩, false, ⟨#[]⟩, 0, false, [], [], []⟩ : A5) := by
  simp only [F7] at h8 h37 h44 h54 h57
  simp [Bc, Dm, Dl, Fk, h8, h37, h44, h54, h57]
 rw [e] at hk
 exact hk _ _ (fun L' => (Gp (.cons .nl (Gp (.cons .nl (K5 (.cons .nl (Hw (.cons .nl (.cons .nl (.cons .nl .nil))))))))))) s59.tail.tail.tail
 refine Bt h57 (Bh (Ag ((decide (p.fType = 6))) (fun h60 => ?_) fun h60 => ?_))
 refine Co h60 (Co h60 (Mo (Au (c := si p.fId) s7 B9 rfl (Mo (B4 s7 (.here) rfl rfl fun H s61 => Ah s61 (.here) rfl (Bo (cs' := [si p.fType, bF, i0, bF, si p.fId, sE, .nl, sE, i0, bF, i0, bF, sE, .nl, i0, bF, bF, sE, bF, .nl, i0, bF, .nl, .nl, .nl]) s61 A7 (Ac rfl) rfl (Bb rfl) rfl fun H s62 => Ah s62 (.here) rfl ?_))))))
 have e : Bc true p = (⟨p.fType, false, 0, false, p.fId, ⟨#[]⟩, ⟨#[]⟩, ⟨#[]⟩, 0, false, 0, false, ⟨#[]⟩, ⟨#[]⟩, 0, false, false, ⟨#[]⟩, false, ⟨#[]⟩, 0, false, [], [], []⟩ : A5) := by
  simp only [F7] at h8 h37 h44 h54 h57 h60
  simp [Bc, Dm, Dl, Fk, h8, h37, h44, h54, h57, h60]
 rw [e] at hk
 exact hk _ _ (fun L' => (Gp (.cons .nl (Gp (.cons .nl (K5 (.cons .nl (Hw (.cons .nl (.cons .nl (.cons .nl .nil))))))))))) s62.tail.tail.tail
 refine Bt h60 (Bh (Ag ((decide (p.fType = 7))) (fun h63 => ?_) fun h63 => ?_))
 refine Co h63 (Co h63 (Mo (Au (c := si p.fId) s7 B9 rfl (Mo (B4 s7 (.here) rfl rfl fun H s64 => Ah s64 (.here) rfl (Bo (cs' := [si p.fType, bF, i0, bF, si p.fId, sE, .nl, sE, i0, bF, i0, bF, sE, .nl, i0, bF, bF, sE, bF, .nl, i0, bF, .nl, .nl, .nl]) s64 A7 (Ac rfl) rfl (Bb rfl) rfl fun H s65 => Ah s65 (.here) rfl ?_))))))
 have e : Bc true p = (⟨p.fType, false, 0, false, p.fId, ⟨#[]⟩, ⟨#[]⟩, ⟨#[]⟩, 0, false, 0, false, ⟨#[]⟩, ⟨#[]⟩, 0, false, false, ⟨#[]⟩, false, ⟨#[]⟩, 0, false, [], [], []⟩ : A5) := by
  simp only [F7] at h8 h37 h44 h54 h57 h60 h63
  simp [Bc, Dm, Dl, Fk, h8, h37, h44, h54, h57, h60, h63]
 rw [e] at hk
 exact hk _ _ (fun L' => (Gp (.cons .nl (Gp (.cons .nl (K5 (.cons .nl (Hw (.cons .nl (.cons .nl (.cons .nl .nil))))))))))) s65.tail.tail.tail
 refine Bt h63 (Bh (Ag ((decide (p.fType = 11))) (fun h66 => ?_) fun h66 => ?_))
 refine Co h66 (Mo (Au (c := si p.fId) s7 B9 rfl (Mo (B4 s7 (.here) rfl rfl fun H s67 => Ah s67 (.here) rfl (Bo (cs' := [si p.fType, bF, i0, bF, si p.fId, sE, .nl, sE, i0, bF, i0, bF, sE, .nl, i0, bF, bF, sE, bF, .nl, i0, bF, .nl, .nl, .nl]) s67 A7 (Ac rfl) rfl (Bb rfl) rfl fun H s68 => Ah s68 (.here) rfl ?_)))))
 have e : Bc true p = (⟨p.fType, false, 0, false, p.fId, ⟨#[]⟩, ⟨#[]⟩, ⟨#[]⟩, 0, false, 0, false, ⟨#[]⟩, ⟨#[]⟩, 0, false, false, ⟨#[]⟩, false, ⟨#[]⟩, 0, false, [], [], []⟩ : A5) := by
  simp only [F7] at h8 h37 h44 h54 h57 h60 h63 h66
  simp [Bc, Dm, Dl, Fk, h8, h37, h44, h54, h57, h60, h63, h66]
 rw [e] at hk
 exact hk _ _ (fun L' => (Gp (.cons .nl (Gp (.cons .nl (K5 (.cons .nl (Hw (.cons .nl (.cons .nl (.cons .nl .nil))))))))))) s68.tail.tail.tail
 refine Bt h66 (Bh (Ag ((decide (p.fType = 8))) (fun h69 => ?_) fun h69 => ?_))
 refine Co h69 (Mo (Au (c := si p.fId) s7 B9 rfl (Mo (B4 s7 (.here) rfl rfl fun H s70 => Ag8 (Au (c := Al Dp p.fWants) s70 B9 rfl (Ag8 (B4 s70 (.here) rfl rfl fun H s71 => Ah s71 (.here) rfl (Bo (cs' := [si p.fType, bF, i0, bF, si p.fId, sE, .nl, sE, i0, bF, i0, bF, sE, .nl, i0, bF, bF, sE, bF, .nl, i0, bF, Al Dp p.fWants, .nl, .nl]) s71 A7 (Ac rfl) rfl (Bb rfl) rfl fun H s72 => Ah s72 (.here) rfl ?_))))))))
 have e : Bc true p = (⟨p.fType, false, 0, false, p.fId, ⟨#[]⟩, ⟨#[]⟩, ⟨#[]⟩, 0, false, 0, false, ⟨#[]⟩, ⟨#[]⟩, 0, false, false, ⟨#[]⟩, false, ⟨#[]⟩, 0, false, p.fWants, [], []⟩ : A5) := by
  simp only [F7] at h8 h37 h44 h54 h57 h60 h63 h66 h69
  simp [Bc, Dm, Dl, Fk, h8, h37, h44, h54, h57, h60, h63, h66, h69]
 rw [e] at hk
 exact hk _ _ (fun L' => (Gp (.cons .nl (Gp (.cons .nl (K5 (.cons .nl (Hw (.cons .ro (.cons .nl (.cons .nl .nil))))))))))) s72.tail.tail.tail
 refine Bt h69 (Bh (Ag ((decide (p.fType = 9))) (fun h73 => ?_) fun h73 => ?_))
 refine Co h73 (Mo (Au (c := si p.fId) s7 B9 rfl (Mo (B4 s7 (.here) rfl rfl fun H s74 => AgA (Au (c := Fo p.fCodes) s74 B9 rfl (AgA (B4 s74 (.here) rfl rfl fun H s75 => Ah s75 (.here) rfl (Bo (cs' := [si p.fType, bF, i0, bF, si p.fId, sE, .nl, sE, i0, bF, i0, bF, sE, .nl, i0, bF, bF, sE, bF, .nl, i0, bF, .nl, .nl, Fo p.fCodes]) s75 A7 (Ac rfl) rfl (Bb rfl) rfl fun H s76 => Ah s76 (.here) rfl ?_))))))))
 have e : Bc true p = (⟨p.fType, false, 0, false, p.fId, ⟨#[]⟩, ⟨#[]⟩, ⟨#[]⟩, 0, false, 0, false, ⟨#[]⟩, ⟨#[]⟩, 0, false, false, ⟨#[]⟩, false, ⟨#[]⟩, 0, false, [], [], p.fCodes⟩ : A5) := by
  simp only [F7] at h8 h37 h44 h54 h57 h60 h63 h66 h69 h73
  simp [Bc, Dm, Dl, Fk, h8, h37, h44, h54, h57, h60, h63, h66, h69, h73]
 rw [e] at hk
 exact hk _ _ (fun L' => (Gp (.cons .nl (Gp (.cons .nl (K5 (.cons .nl (Hw (.cons .nl (.cons .nl (.cons .ro .nil))))))))))) s76.tail.tail.tail
 refine Bt h73 (Bh (Ag ((decide (p.fType = 10))) (fun h77 => ?_) fun h77 => ?_))
 refine Co h77 (Mo (Au (c := si p.fId) s7 B9 rfl (Mo (B4 s7 (.here) rfl rfl fun H s78 => Ag9 (Au (c := Iu p.fNames) s78 B9 rfl (Ag9 (B4 s78 (.here) rfl rfl fun H s79 => Ah s79 (.here) rfl (Bo (cs' := [si p.fType, bF, i0, bF, si p.fId, sE, .nl, sE, i0, bF, i0, bF, sE, .nl, i0, bF, bF, sE, bF, .nl, i0, bF, .nl, Iu p.fNames, .nl]) s79 A7 (Ac rfl) rfl (Bb rfl) rfl fun H s80 => Ah s80 (.here) rfl ?_))))))))
 have e : Bc true p = (⟨p.fType, false, 0, false, p.fId, ⟨#[]⟩, ⟨#[]⟩, ⟨#[]⟩, 0, false, 0, false, ⟨#[]⟩, ⟨#[]⟩, 0, false, false, ⟨#[]⟩, false, ⟨#[]⟩, 0, false, [], p.fNames, []⟩ : A5) := by
  simp only [F7] at h8 h37 h44 h54 h57 h60 h63 h66 h69 h73 h77
  simp [Bc, Dm, Dl, Fk, h8, h37, h44, h54, h57, h60, h63, h66, h69, h73, h77]
 rw [e] at hk
 exact hk _ _ (fun L' => (Gp (.cons .nl (Gp (.cons .nl (K5 (.cons .nl (Hw (.cons .nl (.cons .ro (.cons .nl .nil))))))))))) s80.tail.tail.tail
 refine Bt h77 (Ah s7 (.here) rfl (Bo (cs' := [si p.fType, bF, i0, bF, i0, sE, .nl, sE, i0, bF, i0, bF, sE, .nl, i0, bF, bF, sE, bF, .nl, i0, bF, .nl, .nl, .nl]) s7 A7 (Ac rfl) rfl (Bb rfl) rfl fun H s81 => Ah s81 (.here) rfl ?_))
 have e : Bc true p = (⟨p.fType, false, 0, false, 0, ⟨#[]⟩, ⟨#[]⟩, ⟨#[]⟩, 0, false, 0, false, ⟨#[]⟩, ⟨#[]⟩, 0, false, false, ⟨#[]⟩, false, ⟨#[]⟩, 0, false, [], [], []⟩ : A5) := by
  simp only [F7] at h8 h37 h44 h54 h57 h60 h63 h66 h69 h73 h77
  simp [Bc, Dm, Dl, Fk, h8, h37, h44, h54, h57, h60, h63, h66, h69, h73, h77]
 rw [e] at hk
 exact hk _ _ (fun L' => (Gp (.cons .nl (Gp (.cons .nl (K5 (.cons .nl (Hw (.cons .nl (.cons .nl (.cons .nl .nil))))))))))) s81.tail.tail.tail
end
section
open Go
def E7 (t i : Int) : A5 := ⟨t, false, 0, false, i, ⟨#[]⟩, ⟨#[]⟩, ⟨#[]⟩, 0, false, 0, false, ⟨#[]⟩, ⟨#[]⟩, 0, false, false, ⟨#[]⟩, false, ⟨#[]⟩, 0, false, [], [], []⟩
def Oh (t i : Int) : A5 := if Fl i 1 65535 = true then E7 t i else G0
abbrev A4 (i : Int) : A5 := Oh 6 i
theorem Abe (pc : Bool) (i : Int) : Cn (E7 6 i) (Bc pc (E7 6 i)) = true := by
 simp [Cn, Jg, Fw, Bc, Fk, E7, Fs, Gz]
theorem Vv (n : Nat) (hn : 1048576 < n) (i : Int) : Ct E0 (n + 2) 4 44 [.sc (.int .i64 i)] = some (.sc (.bool (Fl i 1 65535))) := by
 rw [A2, Zj, f44]
 refine Gn (G := (· = some (sb (Fl i 1 65535)))) ?_
 try simp only [Qx, Qw]
 have s0 : Sep [] [] := Gm
 refine Cc (v := (.bool (Fl i 1 65535))) s0 rfl (vS3 .nil) (Jb n _ i 1 65535) (Dd rfl ?_)
 first | rfl | (simp_all; done)
theorem Afv (n : Nat) (hn : 1048576 < n) (i : Int) : Ct E0 (n + 3) 4 102 [.agg (Bp (E7 6 i))] = some (.sc (.bool (Fl i 1 65535))) := by
 rw [A2, AfK, f102]
 refine Gn (G := (· = some (sb (Fl i 1 65535)))) ?_
 try simp only [Qx, Qw]
 have s0 : Sep [] [] := Gm
 refine Mf s0 (F9 (E1 _)) fun i1 H s2 => Aj (o' := 0) rfl (Au (c := si ((E7 6 i).fType)) s2 (.here) rfl (Cc (v := (.bool (Fl ((E7 6 i).fType) 1 14))) s2 rfl (vS3 .nil) (O5 (n + 1) _ ((E7 6 i).fType) 1 14) (Gt (Av (nF rfl) (Ah s2 (.here) rfl (Gd.bothE ?_ ?_))))))
 ·refine Av (nF rfl) (Ah s2 (.here) rfl (Av (nF rfl) (Ik rfl rfl (Ts (n + 1) (by omega) (E7 6 i) s2 fun Rs3 H hRs3 s3 => Av (nF rfl) (Cc (v := (.bool (Cn (E7 6 i) (Bc true (E7 6 i))))) s3 rfl (.aggF (E1 _) (.agg (hRs3 _) .nil)) (Mj n (by omega) _ (E7 6 i) (Bc true (E7 6 i)) (za3 _) (za3 _) (za3 _)) (Av (nF rfl) (Gt (F1 (nF rfl) (Bt (nF (Abe true i)) (Aj (o' := 4) rfl (Au (c := si ((E7 6 i).fId)) s3 (.here) rfl (Cc (v := (.bool (Fl ((E7 6 i).fId) 1 65535))) s3 rfl (vS3 .nil) (O5 (n + 1) _ ((E7 6 i).fId) 1 65535) (Aj (o' := 0) rfl (Au (c := si ((E7 6 i).fType)) s3 (.here) rfl (Bh (Bt rfl (Bh (Bt rfl (Bh (Bt rfl (Bh (Ix (Bt rfl (Bh (Bt rfl (Bh (Bt rfl (Bh (Bt rfl (Bh (Bt rfl (Bh (Bt rfl (Dd rfl ?_))))))))))))))))))))))))))))))))))
  first | rfl | (simp_all; done)
 ·refine Av (nF rfl) (Ik rfl rfl (Ts (n + 1) (by omega) (E7 6 i) s2 fun Rs4 H hRs4 s4 => Av (nF rfl) (Ah s4 (.here) rfl (Av (nF rfl) (Cc (v := (.bool (Cn (E7 6 i) (Bc true (E7 6 i))))) s4 rfl (.aggF (E1 _) (.agg (hRs4 _) .nil)) (Mj n (by omega) _ (E7 6 i) (Bc true (E7 6 i)) (za3 _) (za3 _) (za3 _)) (Av (nF rfl) (Gt (F1 (nF rfl) (Bt (nF (Abe true i)) (Aj (o' := 4) rfl (Au (c := si ((E7 6 i).fId)) s4 (.here) rfl (Cc (v := (.bool (Fl ((E7 6 i).fId) 1 65535))) s4 rfl (vS3 .nil) (O5 (n + 1) _ ((E7 6 i).fId) 1 65535) (Aj (o' := 0) rfl (Au (c := si ((E7 6 i).fType)) s4 (.here) rfl (Bh (Bt rfl (Bh (Bt rfl (Bh (Bt rfl (Bh (Ix (Bt rfl (Bh (Bt rfl (Bh (Bt rfl (Bh (Bt rfl (Bh (Bt rfl (Bh (Bt rfl (Dd rfl ?_))))))))))))))))))))))))))))))))))
  first | rfl | (simp_all; done)
theorem AcC (n : Nat) (hn : 1048576 < n) (i : Int) : Ct E0 (n + 4) 41 65 [.sc (.int .i64 6), .sc (.int .i64 i)] = some (.agg (Bp (Oh 6 i))) := by
 rw [A2, Aiz, f65]
 refine Gn (G := (· = some (.agg (Bp (Oh 6 i))))) ?_
 try simp only [Qx, Qw]
 have s0 : Sep [] [] := Gm
 refine C8 s0 fun i1 H s2 => Bq (cs := [si 6, bF, i0, bF, si i, sE, .nl, sE, i0, bF, i0, bF, sE, .nl, i0, bF, bF, sE, bF, .nl, i0, bF, .nl, .nl, .nl]) rfl (C8 s2 fun i3 H s4 => Bo (cs' := [si 6, bF, i0, bF, si i, sE, .nl, sE, i0, bF, i0, bF, sE, .nl, i0, bF, bF, sE, bF, .nl, i0, bF, .nl, .nl, .nl]) s4 (.here) (Ac rfl) rfl (Bb rfl) rfl fun H s5 => Cc (v := (.bool (Fl 6 4 7))) s5 rfl (vS3 .nil) (O5 (n + 2) _ 6 4 7) (Gt (El (nF rfl) (El (nF rfl) (F1 (nF rfl) (Av rfl (Ah s5 (.here) rfl (Av rfl (Cc (v := (.bool (Fl i 1 65535))) s5 rfl (.agg (Gp (.cons .nl (Gp (.cons .nl (K5 (.cons .nl (Hw (.cons .nl (.cons .nl (.cons .nl .nil)))))))))) .nil) (Afv n (by omega) i) (Av rfl (Gt (F1 rfl (Ag ((Fl i 1 65535)) (fun h6 => ?_) fun h6 => ?_)))))))))))))
 refine Bt (nF h6) (Ah s5 (.here) rfl (Bo (cs' := [si 6, bF, i0, bF, si i, sE, .nl, sE, i0, bF, i0, bF, sE, .nl, i0, bF, bF, sE, bF, .nl, i0, bF, .nl, .nl, .nl]) s5 A7 (Ac rfl) rfl (Bb rfl) rfl fun H s7 => Ah s7 (.here) rfl (Dd (Nm s7 ⟨_, rfl, rfl⟩ (Hd (.nl (Hd (.nl (Mn (.nl (.sc (.sc (.nl (.nl (.nl .nil))))))))))) (Hf ⟨Dv, (Hf ⟨Dv, (Mk ⟨Dv, (Ku ⟨Dv, ⟨Dv, ⟨Dv, trivial⟩⟩⟩)⟩)⟩)⟩)) ?_)))
 have e8 : Oh 6 i = (⟨6, false, 0, false, i, ⟨#[]⟩, ⟨#[]⟩, ⟨#[]⟩, 0, false, 0, false, ⟨#[]⟩, ⟨#[]⟩, 0, false, false, ⟨#[]⟩, false, ⟨#[]⟩, 0, false, [], [], []⟩ : A5) := by
  clear s0 s2 s4 s5 s7
  try simp only [bne_iff_ne, beq_iff_eq, beq_eq_false_iff_ne, F7] at h6
  first | assumption | (simp only [Oh, E7, G0, h6, if_true, if_false, zaj]; first | done | rfl)
 ·rw [e8]
  first | done | rfl
 refine Co (nT h6) (Bq (cs := G4) rfl (Bo (cs' := G4) s5 A7 (Ac rfl) rfl (Bb rfl) rfl fun H s9 => Ah s9 (.here) rfl (Dd (Nm s9 ⟨_, rfl, rfl⟩ (Hd (.nl (Hd (.nl (Mn (.nl (.sc (.sc (.nl (.nl (.nl .nil))))))))))) (Hf ⟨Dv, (Hf ⟨Dv, (Mk ⟨Dv, (Ku ⟨Dv, ⟨Dv, ⟨Dv, trivial⟩⟩⟩)⟩)⟩)⟩)) ?_)))
 have e10 : Oh 6 i = (⟨0, false, 0, false, 0, ⟨#[]⟩, ⟨#[]⟩, ⟨#[]⟩, 0, false, 0, false, ⟨#[]⟩, ⟨#[]⟩, 0, false, false, ⟨#[]⟩, false, ⟨#[]⟩, 0, false, [], [], []⟩ : A5) := by
  clear s0 s2 s4 s5 s9
  try simp only [bne_iff_ne, beq_iff_eq, beq_eq_false_iff_ne, F7] at h6
  first | assumption | (simp only [Oh, E7, G0, h6, if_true, if_false, zaj]; first | done | rfl)
 ·rw [e10]
  first | done | rfl
theorem Pp (n : Nat) (hn : 1048576 < n) (i : Int) : Ct E0 (n + 4) 41 65 [.sc (.int .i64 6), .sc (.int .i64 i)] = some (.agg (Bp (A4 i))) := AcC n hn i
theorem AeP (n : Nat) (hn : 1048576 < n) (i : Int) : Ct E0 (n + 3) 4 12 [.agg (Bp (E7 6 i))] = some (.sc (.bool (Fl i 1 65535))) := by
 rw [A2, Zg, f12]
 refine Gn (G := (· = some (sb (Fl i 1 65535)))) ?_
 try simp only [Qx, Qw]
 have s0 : Sep [] [] := Gm
 refine Mf s0 (F9 (E1 _)) fun i1 H s2 => Aj (o' := 0) rfl (Au (c := si ((E7 6 i).fType)) s2 (.here) rfl (Cc (v := (.bool (Fl ((E7 6 i).fType) 1 14))) s2 rfl (vS3 .nil) (Jb (n + 1) _ ((E7 6 i).fType) 1 14) (Gt (Av (nF rfl) (Ah s2 (.here) rfl (Gd.bothE ?_ ?_))))))
 ·refine Av (nF rfl) (Ah s2 (.here) rfl (Av (nF rfl) (Ik rfl rfl (Iy (n + 1) (by omega) (E7 6 i) s2 fun Rs3 H hRs3 s3 => Av (nF rfl) (Cc (v := (.bool (Cn (E7 6 i) (Bc false (E7 6 i))))) s3 rfl (.aggF (E1 _) (.agg (hRs3 _) .nil)) (Fb n (by omega) _ (E7 6 i) (Bc false (E7 6 i)) (za3 _) (za3 _) (za3 _)) (Av (nF rfl) (Gt (F1 (nF rfl) (Bt (nF (Abe false i)) (Aj (o' := 0) rfl (Au (c := si ((E7 6 i).fType)) s3 (.here) rfl (Bh (Bt rfl (Bh (Bt rfl (Bh (Bt rfl (Bh (Ix (Bt rfl (Bh (Bt rfl (Bh (Co rfl (Co rfl (Aj (o' := 4) rfl (Au (c := si ((E7 6 i).fId)) s3 (.here) rfl (Cc (v := (.bool (Fl ((E7 6 i).fId) 1 65535))) s3 rfl (.cons .sc .nil) (Vv n (by omega) ((E7 6 i).fId)) (Dd rfl ?_)))))))))))))))))))))))))))))
  first | rfl | (simp_all; done)
 ·refine Av (nF rfl) (Ik rfl rfl (Iy (n + 1) (by omega) (E7 6 i) s2 fun Rs4 H hRs4 s4 => Av (nF rfl) (Ah s4 (.here) rfl (Av (nF rfl) (Cc (v := (.bool (Cn (E7 6 i) (Bc false (E7 6 i))))) s4 rfl (.aggF (E1 _) (.agg (hRs4 _) .nil)) (Fb n (by omega) _ (E7 6 i) (Bc false (E7 6 i)) (za3 _) (za3 _) (za3 _)) (Av (nF rfl) (Gt (F1 (nF rfl) (Bt (nF (Abe false i)) (Aj (o' := 0) rfl (Au (c := si ((E7 6 i).fType)) s4 (.here) rfl (Bh (Bt rfl (Bh (Bt rfl (Bh (Bt rfl (Bh (Ix (Bt rfl (Bh (Bt rfl (Bh (Co rfl (Co rfl (Aj (o' := 4) rfl (Au (c := si ((E7 6 i).fId)) s4 (.here) rfl (Cc (v := (.bool (Fl ((E7 6 i).fId) 1 65535))) s4 rfl (.cons .sc .nil) (Vv n (by omega) ((E7 6 i).fId)) (Dd rfl ?_)))))))))))))))))))))))))))))
  first | rfl | (simp_all; done)
theorem Acq (n : Nat) (hn : 1048576 < n) (i : Int) : Ct E0 (n + 4) 41 42 [.sc (.int .i64 6), .sc (.int .i64 i)] = some (.agg (Bp (Oh 6 i))) := by
 rw [A2, Aik, f42]
 refine Gn (G := (· = some (.agg (Bp (Oh 6 i))))) ?_
 try simp only [Qx, Qw]
 have s0 : Sep [] [] := Gm
 refine C8 s0 fun i1 H s2 => Bq (cs := [si 6, bF, i0, bF, si i, sE, .nl, sE, i0, bF, i0, bF, sE, .nl, i0, bF, bF, sE, bF, .nl, i0, bF, .nl, .nl, .nl]) rfl (C8 s2 fun i3 H s4 => Bo (cs' := [si 6, bF, i0, bF, si i, sE, .nl, sE, i0, bF, i0, bF, sE, .nl, i0, bF, bF, sE, bF, .nl, i0, bF, .nl, .nl, .nl]) s4 (.here) (Ac rfl) rfl (Bb rfl) rfl fun H s5 => Cc (v := (.bool (Fl 6 4 7))) s5 rfl (vS3 .nil) (Jb (n + 2) _ 6 4 7) (Gt (El (nF rfl) (El (nF rfl) (F1 (nF rfl) (Av rfl (Ah s5 (.here) rfl (Av rfl (Cc (v := (.bool (Fl i 1 65535))) s5 rfl (.agg (Gp (.cons .nl (Gp (.cons .nl (K5 (.cons .nl (Hw (.cons .nl (.cons .nl (.cons .nl .nil)))))))))) .nil) (AeP n (by omega) i) (Av rfl (Gt (F1 rfl (Ag ((Fl i 1 65535)) (fun h6 => ?_) fun h6 => ?_)))))))))))))
 refine Bt (nF h6) (Ah s5 (.here) rfl (Bo (cs' := [si 6, bF, i0, bF, si i, sE, .nl, sE, i0, bF, i0, bF, sE, .nl, i0, bF, bF, sE, bF, .nl, i0, bF, .nl, .nl, .nl]) s5 A7 (Ac rfl) rfl (Bb rfl) rfl fun H s7 => Ah s7 (.here) rfl (Dd (Nm s7 ⟨_, rfl, rfl⟩ (Hd (.nl (Hd (.nl (Mn (.nl (.sc (.sc (.nl (.nl (.nl .nil))))))))))) (Hf ⟨Dv, (Hf ⟨Dv, (Mk ⟨Dv, (Ku ⟨Dv, ⟨Dv, ⟨Dv, trivial⟩⟩⟩)⟩)⟩)⟩)) ?_)))
 have e8 : Oh 6 i = (⟨6, false, 0, false, i, ⟨#[]⟩, ⟨#[]⟩, ⟨#[]⟩, 0, false, 0, false, ⟨#[]⟩, ⟨#[]⟩, 0, false, false, ⟨#[]⟩, false, ⟨#[]⟩, 0, false, [], [], []⟩ : A5) := by
  clear s0 s2 s4 s5 s7
  try simp only [bne_iff_ne, beq_iff_eq, beq_eq_false_iff_ne, F7] at h6
  first | assumption | (simp only [Oh, E7, G0, h6, if_true, if_false, zaj]; first | done | rfl)
 ·rw [e8]
  first | done | rfl
 refine Co (nT h6) (Bq (cs := G4) rfl (Bo (cs' := G4) s5 A7 (Ac rfl) rfl (Bb rfl) rfl fun H s9 => Ah s9 (.here) rfl (Dd (Nm s9 ⟨_, rfl, rfl⟩ (Hd (.nl (Hd (.nl (Mn (.nl (.sc (.sc (.nl (.nl (.nl .nil))))))))))) (Hf ⟨Dv, (Hf ⟨Dv, (Mk ⟨Dv, (Ku ⟨Dv, ⟨Dv, ⟨Dv, trivial⟩⟩⟩)⟩)⟩)⟩)) ?_)))
 have e10 : Oh 6 i = (⟨0, false, 0, false, 0, ⟨#[]⟩, ⟨#[]⟩, ⟨#[]⟩, 0, false, 0, false, ⟨#[]⟩, ⟨#[]⟩, 0, false, false, ⟨#[]⟩, false, ⟨#[]⟩, 0, false, [], [], []⟩ : A5) := by
  clear s0 s2 s4 s5 s9
  try simp only [bne_iff_ne, beq_iff_eq, beq_eq_false_iff_ne, F7] at h6
  first | assumption | (simp only [Oh, E7, G0, h6, if_true, if_false, zaj]; first | done | rfl)
 ·rw [e10]
  first | done | rfl
theorem Oz (n : Nat) (hn : 1048576 < n) (i : Int) : Ct E0 (n + 4) 41 42 [.sc (.int .i64 6), .sc (.int .i64 i)] = some (.agg (Bp (A4 i))) := Acq n hn i
theorem Ajo (t i : Int) : Pw (Oh t i) = 0 := by
 unfold Oh
 split <;> rfl
end
end Go.Proofs.YtdofipeaomgbbaaGreatDoor.Abs
