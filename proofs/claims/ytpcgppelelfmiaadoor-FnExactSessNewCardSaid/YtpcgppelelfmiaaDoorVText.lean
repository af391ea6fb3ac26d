/- Texts as the reference reads them: sign by sign. -/
import Derived.Test.YtpcgppelelfmiaaDoorVCom
import Derived.Lib.TrimUEq
import Derived.Lib.ValidLaws
import Derived.Lib.MapLaws
set_option linter.unusedVariables false
set_option linter.unusedSimpArgs false
set_option maxRecDepth 100000
namespace Go.Proofs.YtpcgppelelfmiaaDoor.Abs
open Go

theorem and31 : ∀ X : Fin 256, bits .and .i64 ((X.val : Nat) : Int) 31 = ((X.val % 32 : Nat) : Int) := by decide +kernel
theorem and15 : ∀ X : Fin 256, bits .and .i64 ((X.val : Nat) : Int) 15 = ((X.val % 16 : Nat) : Int) := by decide +kernel
theorem and7' : ∀ X : Fin 256, bits .and .i64 ((X.val : Nat) : Int) 7 = ((X.val % 8 : Nat) : Int) := by decide +kernel

/-- What a sign reads as: its value, where the next begins; or nothing. -/
def runeAV (d : Nat × Nat) (i : Nat) : AV := if d.1 = 65533 ∧ d.2 = 1 then .tup [.sc (.int .i64 0), .sc (.int .i64 0), .sc (.bool false)] else .tup [.sc (.int .i64 d.1), .sc (.int .i64 ((i + d.2 : Nat) : Int)), .sc (.bool true)]
def failAV : AV := .tup [.sc (.int .i64 0), .sc (.int .i64 0), .sc (.bool false)]

theorem by_at (s : ByteArray) (i : Nat) (h : i < s.size) (H : Heap) (k : AV → Option AV) : (pIadr 1 (bytesC s) (.sc (.int .i64 i)) fun t => pLoad false 1 t H k) = k (.sc (.int .u8 (s.data.toList.getD i 0).toNat)) := by
  rw [iadr_ro 1 _ _ i _ h (by rw [bytesAV_len]; omega)]
  have hl : i < s.data.toList.length := by simpa using h
  have hd : (bytesAV s).drop (i * 1) = .sc (.int .u8 (s.data.toList.getD i 0).toNat) :: (bytesAV s).drop (i + 1) := by
    rw [Nat.mul_one, List.drop_eq_getElem_cons (by rw [bytesAV_len]; omega)]
    congr 1
    simp [bytesAV, List.getD_eq_getElem?_getD, h]
  rw [hd, ld1_rp]

section loop
variable (n : Nat) (k : AV → Heap → Option AV) (H : Heap) (s : ByteArray)

theorem rune_step (m at' N v i : Nat) (least : Int) (hi : i ≤ N) (hb : at' + i < s.size) (hN : N ≤ 3) (hv : v < 100000000) (hs : s.size ≤ 1048576) :
    f109_l0 (PR n AV) n k (m + 1) (bytesC s) (.sc (.int .i64 at')) (.sc (.int .i64 N)) (.sc (.int .i64 least)) (.sc (.int .i64 v)) (.sc (.int .i64 i)) H =
      if (s.data.toList.getD (at' + i) 0).toNat / 64 = 2 then f109_l0 (PR n AV) n k m (bytesC s) (.sc (.int .i64 at')) (.sc (.int .i64 N)) (.sc (.int .i64 least)) (.sc (.int .i64 ((v * 64 + (s.data.toList.getD (at' + i) 0).toNat % 64 : Nat) : Int))) (.sc (.int .i64 ((i + 1 : Nat) : Int))) H else k failAV H := by
  obtain ⟨y, hy⟩ : ∃ y, (s.data.toList.getD (at' + i) 0).toNat = y := ⟨_, rfl⟩
  have hylt : y < 256 := by rw [← hy]; exact (s.data.toList.getD (at' + i) 0).toNat_lt
  have hba := by_at s (at' + i) hb H
  rw [hy] at hba ⊢
  rw [f109_l0]
  simp only [PR_bin, PR_cond, PR_iadr, PR_load, PR_cvI, PR_guard, PR_pick]
  rw [leq64, cond_b, if_pos (by simp; omega), add64, ← Int.natCast_add, wrap64 _ (by omega) (by omega), hba]
  simp only [pCvI, asI, Option.bind_some]
  rw [wrap64 _ (by omega) (by omega), lss64]
  by_cases h1 : y < 128
  · refine w_hF (by simp; omega) ?_
    refine w_hF (by simp; omega) ?_
    refine w_pT (by simp; omega) ?_
    rw [if_neg (by omega)]
    rfl
  · refine w_hT (by simp; omega) ?_
    refine w_hT (by simp; omega) ?_
    rw [gtr64]
    refine w_pF (by simp; omega) ?_
    by_cases h2 : y ≤ 191
    · rw [cond_b, if_neg (by simp; omega), if_pos (by omega), mul64, show (v : Int) * 64 = ((v * 64 : Nat) : Int) by omega, wrap64 _ (by omega) (by omega), add64, ← Int.natCast_add, wrap64 _ (by omega) (by omega), sub64 _ _ _ (by omega) (by omega), inc_nat _ _ (by omega)]
      congr 3
      omega
    · rw [cond_b, if_pos (by simp; omega), if_neg (by omega)]
      rfl

theorem rune_end (n' : Nat) (hnn : n = n' + 1) (m at' N v least : Nat) (hN : N ≤ 3) (hv : v < 100000000) (ha : at' ≤ 1048576) :
    f109_l0 (PR n AV) n k (m + 1) (bytesC s) (.sc (.int .i64 at')) (.sc (.int .i64 N)) (.sc (.int .i64 least)) (.sc (.int .i64 v)) (.sc (.int .i64 ((N + 1 : Nat) : Int))) H =
      if v ≥ least ∧ (v < 55296 ∨ (57344 ≤ v ∧ v ≤ 1114111)) then k (.tup [.sc (.int .i64 v), .sc (.int .i64 ((at' + (N + 1) : Nat) : Int)), .sc (.bool true)]) H else k failAV H := by
  subst hnn
  rw [f109_l0]
  simp only [PR_bin, PR_cond, PR_iadr, PR_load, PR_cvI, PR_guard, PR_pick]
  rw [leq64, cond_b, if_neg (by simp; omega), lss64]
  by_cases h1 : v < least
  · have e : decide ((v : Int) < (least : Int)) = true := by simp; omega
    refine w_hF e ?_
    refine w_hF e ?_
    refine w_pT e ?_
    refine w_hF rfl ?_
    refine w_hF rfl ?_
    refine w_pT rfl ?_
    refine w_cT rfl ?_
    rw [if_neg (by omega)]
    rfl
  · have e : decide ((v : Int) < (least : Int)) = false := by simp; omega
    refine w_hT e ?_
    refine w_hT e ?_
    refine w_bin (v := .sc (.bool (decide ((v : Int) > 1114111)))) (fun k => rfl) ?_
    refine w_pF e ?_
    by_cases h2 : v > 1114111
    · have e2 : decide ((v : Int) > 1114111) = true := by simp; omega
      refine w_hF e2 ?_
      refine w_hF e2 ?_
      refine w_pT e2 ?_
      refine w_cT rfl ?_
      rw [if_neg (by omega)]
      rfl
    · have e2 : decide ((v : Int) > 1114111) = false := by simp; omega
      refine w_hT e2 ?_
      refine w_hT e2 ?_
      refine lw_sc rfl (vcons (Vw_sc _ _) (vcons (Vw_sc _ _) (vcons (Vw_sc _ _) vnil))) (l1InF n' _ v 55296 57343) ?_
      refine w_pF e2 ?_
      by_cases h3 : 55296 ≤ v ∧ v ≤ 57343
      · refine w_cT (by simp [vIn]; omega) ?_
        rw [if_neg (by omega)]
        rfl
      · refine w_cF (by simp [vIn]; omega) ?_
        have e5 : ((at' : Int) + 1 + (N : Int)) = ((at' + (N + 1) : Nat) : Int) := by omega
        rw [if_pos (by omega), add64, wrap64 _ (by omega) (by omega), add64, wrap64 _ (by omega) (by omega), e5]
        rfl
end loop

theorem own_tup3 (H : Heap) (a b c : Value) : ownTree ti0 E0.tp 121 H (.tup [.sc a, .sc b, .sc c]) = some (.tup [.sc a, .sc b, .sc c]) := rfl

set_option maxHeartbeats 1600000 in
theorem runeAtF (n : Nat) (hn : 1048576 < n) (s : ByteArray) (i : Nat) (hs : s.size ≤ 1048576) (hi : i < s.size) : tree E0 (n + 2) 121 109 [bytesC s, .sc (.int .i64 i)] = some (runeAV (Lib.decodeL (s.data.toList.drop i)) i) := by
  have hg : ∀ j, (s.data.toList.drop i).getD j 0 = s.data.toList.getD (i + j) 0 := fun j => by simp [List.getD_eq_getElem?_getD, List.getElem?_drop]
  have hL : (s.data.toList.drop i).length = s.size - i := by simp
  have hg0 : (s.data.toList.drop i).getD 0 0 = s.data.toList.getD i 0 := hg 0
  rw [Lib.decodeL_N, hL, hg0, hg 1, hg 2, hg 3]
  obtain ⟨x, hx⟩ : ∃ x, (s.data.toList.getD i 0).toNat = x := ⟨_, rfl⟩
  have hxl : x < 256 := by rw [← hx]; exact (s.data.toList.getD i 0).toNat_lt
  obtain ⟨y1, hy1⟩ : ∃ x, (s.data.toList.getD (i + 1) 0).toNat = x := ⟨_, rfl⟩
  obtain ⟨y2, hy2⟩ : ∃ x, (s.data.toList.getD (i + 2) 0).toNat = x := ⟨_, rfl⟩
  obtain ⟨y3, hy3⟩ : ∃ x, (s.data.toList.getD (i + 3) 0).toNat = x := ⟨_, rfl⟩
  have b1 : y1 < 256 := by rw [← hy1]; exact (s.data.toList.getD (i + 1) 0).toNat_lt
  have b2 : y2 < 256 := by rw [← hy2]; exact (s.data.toList.getD (i + 2) 0).toNat_lt
  have b3 : y3 < 256 := by rw [← hy3]; exact (s.data.toList.getD (i + 3) 0).toNat_lt
  have hba := by_at s i hi []
  rw [hx] at hba
  rw [hx, hy1, hy2, hy3]
  have fails : Lib.decodeN (s.size - i) x y1 y2 y3 = (65533, 1) → some failAV = some (runeAV (Lib.decodeN (s.size - i) x y1 y2 y3) i) := fun h => by rw [h]; rfl
  have goes : ∀ v w, Lib.decodeN (s.size - i) x y1 y2 y3 = (v, w) → (w = 1 → v < 128) → some (.tup [.sc (.int .i64 v), .sc (.int .i64 ((i + w : Nat) : Int)), .sc (.bool true)]) = some (runeAV (Lib.decodeN (s.size - i) x y1 y2 y3) i) := fun v w h hw => by
    rw [h, runeAV, if_neg (by intro h; simp only at h; omega)]
  rw [tree_def, f109_eq, f109]
  simp only [PR_bin, PR_cond, PR_iadr, PR_load, PR_cvI, PR_guard, PR_pick, PR_len]
  have e0 : decide ((i : Int) < 0) = false := by simp
  rw [lss64]
  refine w_hT e0 ?_
  refine w_hT e0 ?_
  refine w_hT e0 ?_
  refine w_len ?_
  refine w_hT e0 ?_
  refine w_bin (v := .sc (.bool (decide ((i : Int) ≥ (s.size : Int))))) (fun k => rfl) ?_
  refine w_pF e0 ?_
  refine w_cF (by simp; omega) ?_
  rw [hba]
  simp only [pCvI, asI, Option.bind_some]
  rw [wrap64 _ (by omega) (by omega), lss64]
  by_cases c1 : x < 128
  · refine w_cT (by simp; omega) ?_
    rw [inc_nat _ _ (by omega)]
    exact (own_tup3 _ _ _ _).trans (goes x 1 (by rw [Lib.decodeN, if_pos c1]) (fun _ => c1))
  · refine w_cF (by simp; omega) ?_
    obtain ⟨q, rfl⟩ : ∃ q, n = q + 4 := ⟨n - 4, by omega⟩
    apply w_merge (decide ((x : Int) ≥ 192) && decide ((x : Int) < 224))
    · intro b hb
      refine w_bin (v := .sc (.bool (decide ((x : Int) ≥ 192)))) (fun k => rfl) ?_
      refine w_split (decide ((x : Int) ≥ 192)) (fun h => ?_) (fun h => ?_)
      · refine w_gT h ?_
        refine w_gT h ?_
        refine w_bin (v := .sc (.bool (decide ((x : Int) < 224)))) (fun k => rfl) ?_
        refine w_pTb h (mAT hb h) ?_
        exact rfl
      · refine w_gF h ?_
        refine w_gF h ?_
        refine w_pFb h (mAF hb h) ?_
        exact rfl
    intro b0 hb0
    by_cases d0 : 192 ≤ x ∧ x < 224
    · refine w_cT (by rw [hb0]; simp; omega) ?_
      refine w_bin (v := .sc (.int .i64 ((x % 32 : Nat) : Int))) (fun k => by show k (.sc (.int .i64 (bits .and .i64 (x : Int) 31))) = _; rw [and31 ⟨x, hxl⟩]) ?_
      refine w_len ?_
      refine w_bin (v := .sc (.int .i64 ((s.size : Int) - 1))) (fun k => sub64 _ _ _ (by omega) (by omega)) ?_
      refine w_bin (v := .sc (.int .i64 ((s.size : Int) - 1 - 1))) (fun k => sub64 _ _ _ (by omega) (by omega)) ?_
      refine w_bin (v := .sc (.bool (decide ((i : Int) > (s.size : Int) - 1 - 1)))) (fun k => rfl) ?_
      by_cases c3 : i + 1 < s.size
      · refine w_cF (by simp; omega) ?_
        have r1 := rune_step (q + 4 + 1) (fun x H => ownTree ti0 E0.tp 121 H x) [] s (q + 4) i 1 (x % 32) 1 128 (by omega) (by omega) (by omega) (by omega) hs
        rw [hy1] at r1
        refine r1.trans ?_
        by_cases k1 : y1 / 64 = 2
        rotate_left
        · rw [if_neg k1]
          exact (own_tup3 _ _ _ _).trans (fails (by unfold Lib.decodeN; rw [if_neg c1, if_neg (by omega), if_neg (by omega), if_neg (by omega)]))
        rw [if_pos k1]
        refine (rune_end (q + 4 + 1) (fun x H => ownTree ti0 E0.tp 121 H x) [] s (q + 4) rfl (q + 3) i 1 ((x % 32) * 64 + y1 % 64) 128 (by omega) (by omega) (by omega)).trans ?_
        have hv : (x % 32) * 64 + y1 % 64 = x % 32 * 64 + y1 % 64 := by omega
        rw [hv]
        split
        · exact (own_tup3 _ _ _ _).trans (goes _ 2 (by unfold Lib.decodeN; rw [if_neg c1, if_pos (by omega), if_pos (by omega)]) (by omega))
        · exact (own_tup3 _ _ _ _).trans (fails (by unfold Lib.decodeN; rw [if_neg c1, if_pos (by omega), if_neg (by omega)]))
      · refine w_cT (by simp; omega) ?_
        exact (own_tup3 _ _ _ _).trans (fails (by unfold Lib.decodeN; rw [if_neg c1, if_neg (by omega), if_neg (by omega), if_neg (by omega)]))
    · refine w_cF (by rw [hb0]; simp; omega) ?_
      apply w_merge (decide ((x : Int) ≥ 224) && decide ((x : Int) < 240))
      · intro b hb
        refine w_bin (v := .sc (.bool (decide ((x : Int) ≥ 224)))) (fun k => rfl) ?_
        refine w_split (decide ((x : Int) ≥ 224)) (fun h => ?_) (fun h => ?_)
        · refine w_gT h ?_
          refine w_gT h ?_
          refine w_bin (v := .sc (.bool (decide ((x : Int) < 240)))) (fun k => rfl) ?_
          refine w_pTb h (mAT hb h) ?_
          exact rfl
        · refine w_gF h ?_
          refine w_gF h ?_
          refine w_pFb h (mAF hb h) ?_
          exact rfl
      intro b1 hb1
      by_cases d1 : 224 ≤ x ∧ x < 240
      · refine w_cT (by rw [hb1]; simp; omega) ?_
        refine w_bin (v := .sc (.int .i64 ((x % 16 : Nat) : Int))) (fun k => by show k (.sc (.int .i64 (bits .and .i64 (x : Int) 15))) = _; rw [and15 ⟨x, hxl⟩]) ?_
        refine w_len ?_
        refine w_bin (v := .sc (.int .i64 ((s.size : Int) - 1))) (fun k => sub64 _ _ _ (by omega) (by omega)) ?_
        refine w_bin (v := .sc (.int .i64 ((s.size : Int) - 1 - 2))) (fun k => sub64 _ _ _ (by omega) (by omega)) ?_
        refine w_bin (v := .sc (.bool (decide ((i : Int) > (s.size : Int) - 1 - 2)))) (fun k => rfl) ?_
        by_cases c3 : i + 2 < s.size
        · refine w_cF (by simp; omega) ?_
          have r1 := rune_step (q + 4 + 1) (fun x H => ownTree ti0 E0.tp 121 H x) [] s (q + 4) i 2 (x % 16) 1 2048 (by omega) (by omega) (by omega) (by omega) hs
          rw [hy1] at r1
          refine r1.trans ?_
          by_cases k1 : y1 / 64 = 2
          rotate_left
          · rw [if_neg k1]
            exact (own_tup3 _ _ _ _).trans (fails (by unfold Lib.decodeN; rw [if_neg c1, if_neg (by omega), if_neg (by omega), if_neg (by omega)]))
          rw [if_pos k1]
          have r2 := rune_step (q + 4 + 1) (fun x H => ownTree ti0 E0.tp 121 H x) [] s (q + 3) i 2 ((x % 16) * 64 + y1 % 64) 2 2048 (by omega) (by omega) (by omega) (by omega) hs
          rw [hy2] at r2
          refine r2.trans ?_
          by_cases k2 : y2 / 64 = 2
          rotate_left
          · rw [if_neg k2]
            exact (own_tup3 _ _ _ _).trans (fails (by unfold Lib.decodeN; rw [if_neg c1, if_neg (by omega), if_neg (by omega), if_neg (by omega)]))
          rw [if_pos k2]
          refine (rune_end (q + 4 + 1) (fun x H => ownTree ti0 E0.tp 121 H x) [] s (q + 4) rfl (q + 2) i 2 (((x % 16) * 64 + y1 % 64) * 64 + y2 % 64) 2048 (by omega) (by omega) (by omega)).trans ?_
          have hv : ((x % 16) * 64 + y1 % 64) * 64 + y2 % 64 = x % 16 * 4096 + y1 % 64 * 64 + y2 % 64 := by omega
          rw [hv]
          split
          · exact (own_tup3 _ _ _ _).trans (goes _ 3 (by unfold Lib.decodeN; rw [if_neg c1, if_neg (by omega), if_pos (by omega), if_pos (by omega)]) (by omega))
          · exact (own_tup3 _ _ _ _).trans (fails (by unfold Lib.decodeN; rw [if_neg c1, if_neg (by omega), if_pos (by omega), if_neg (by omega)]))
        · refine w_cT (by simp; omega) ?_
          exact (own_tup3 _ _ _ _).trans (fails (by unfold Lib.decodeN; rw [if_neg c1, if_neg (by omega), if_neg (by omega), if_neg (by omega)]))
      · refine w_cF (by rw [hb1]; simp; omega) ?_
        apply w_merge (decide ((x : Int) ≥ 240) && decide ((x : Int) < 248))
        · intro b hb
          refine w_bin (v := .sc (.bool (decide ((x : Int) ≥ 240)))) (fun k => rfl) ?_
          refine w_split (decide ((x : Int) ≥ 240)) (fun h => ?_) (fun h => ?_)
          · refine w_gT h ?_
            refine w_gT h ?_
            refine w_bin (v := .sc (.bool (decide ((x : Int) < 248)))) (fun k => rfl) ?_
            refine w_pTb h (mAT hb h) ?_
            exact rfl
          · refine w_gF h ?_
            refine w_gF h ?_
            refine w_pFb h (mAF hb h) ?_
            exact rfl
        intro b2 hb2
        by_cases d2 : 240 ≤ x ∧ x < 248
        · refine w_cT (by rw [hb2]; simp; omega) ?_
          refine w_bin (v := .sc (.int .i64 ((x % 8 : Nat) : Int))) (fun k => by show k (.sc (.int .i64 (bits .and .i64 (x : Int) 7))) = _; rw [and7' ⟨x, hxl⟩]) ?_
          refine w_len ?_
          refine w_bin (v := .sc (.int .i64 ((s.size : Int) - 1))) (fun k => sub64 _ _ _ (by omega) (by omega)) ?_
          refine w_bin (v := .sc (.int .i64 ((s.size : Int) - 1 - 3))) (fun k => sub64 _ _ _ (by omega) (by omega)) ?_
          refine w_bin (v := .sc (.bool (decide ((i : Int) > (s.size : Int) - 1 - 3)))) (fun k => rfl) ?_
          by_cases c3 : i + 3 < s.size
          · refine w_cF (by simp; omega) ?_
            have r1 := rune_step (q + 4 + 1) (fun x H => ownTree ti0 E0.tp 121 H x) [] s (q + 4) i 3 (x % 8) 1 65536 (by omega) (by omega) (by omega) (by omega) hs
            rw [hy1] at r1
            refine r1.trans ?_
            by_cases k1 : y1 / 64 = 2
            rotate_left
            · rw [if_neg k1]
              exact (own_tup3 _ _ _ _).trans (fails (by unfold Lib.decodeN; rw [if_neg c1, if_neg (by omega), if_neg (by omega), if_neg (by omega)]))
            rw [if_pos k1]
            have r2 := rune_step (q + 4 + 1) (fun x H => ownTree ti0 E0.tp 121 H x) [] s (q + 3) i 3 ((x % 8) * 64 + y1 % 64) 2 65536 (by omega) (by omega) (by omega) (by omega) hs
            rw [hy2] at r2
            refine r2.trans ?_
            by_cases k2 : y2 / 64 = 2
            rotate_left
            · rw [if_neg k2]
              exact (own_tup3 _ _ _ _).trans (fails (by unfold Lib.decodeN; rw [if_neg c1, if_neg (by omega), if_neg (by omega), if_neg (by omega)]))
            rw [if_pos k2]
            have r3 := rune_step (q + 4 + 1) (fun x H => ownTree ti0 E0.tp 121 H x) [] s (q + 2) i 3 (((x % 8) * 64 + y1 % 64) * 64 + y2 % 64) 3 65536 (by omega) (by omega) (by omega) (by omega) hs
            rw [hy3] at r3
            refine r3.trans ?_
            by_cases k3 : y3 / 64 = 2
            rotate_left
            · rw [if_neg k3]
              exact (own_tup3 _ _ _ _).trans (fails (by unfold Lib.decodeN; rw [if_neg c1, if_neg (by omega), if_neg (by omega), if_neg (by omega)]))
            rw [if_pos k3]
            refine (rune_end (q + 4 + 1) (fun x H => ownTree ti0 E0.tp 121 H x) [] s (q + 4) rfl (q + 1) i 3 ((((x % 8) * 64 + y1 % 64) * 64 + y2 % 64) * 64 + y3 % 64) 65536 (by omega) (by omega) (by omega)).trans ?_
            have hv : (((x % 8) * 64 + y1 % 64) * 64 + y2 % 64) * 64 + y3 % 64 = x % 8 * 262144 + y1 % 64 * 4096 + y2 % 64 * 64 + y3 % 64 := by omega
            rw [hv]
            split
            · exact (own_tup3 _ _ _ _).trans (goes _ 4 (by unfold Lib.decodeN; rw [if_neg c1, if_neg (by omega), if_neg (by omega), if_pos (by omega), if_pos (by omega)]) (by omega))
            · exact (own_tup3 _ _ _ _).trans (fails (by unfold Lib.decodeN; rw [if_neg c1, if_neg (by omega), if_neg (by omega), if_pos (by omega), if_neg (by omega)]))
          · refine w_cT (by simp; omega) ?_
            exact (own_tup3 _ _ _ _).trans (fails (by unfold Lib.decodeN; rw [if_neg c1, if_neg (by omega), if_neg (by omega), if_neg (by omega)]))
        · refine w_cF (by rw [hb2]; simp; omega) ?_
          exact (own_tup3 _ _ _ _).trans (fails (by unfold Lib.decodeN; rw [if_neg c1, if_neg (by omega), if_neg (by omega), if_neg (by omega)]))

theorem inst_tup3 (N ty : Nat) (a b c : Value) : instT ti0 E0.tp N ty (.tup [.sc a, .sc b, .sc c]) = (.tup [.sc a, .sc b, .sc c], []) := rfl
theorem Vw_bytes (s : ByteArray) : Vw [⟨bytesAV s, true, false⟩] (.sl 0 0 s.size 1) (bytesC s) := fun X => by
  have e2 : rdCells ([⟨bytesAV s, true, false⟩] ++ X) 0 0 (s.size * 1) = some (bytesAV s) := by
    have hl := bytesAV_len s
    show (if (0 + s.size * 1 ≤ (bytesAV s).length) then some (((bytesAV s).drop 0).take (s.size * 1)) else none) = _
    rw [if_pos (by omega), List.drop_zero, Nat.mul_one, ← hl, List.take_length]
  rw [viewV_sl, e2, Option.bind_some]
  have e3 : (bytesAV s).mapM (viewV ([⟨bytesAV s, true, false⟩] ++ X) 7) = some (bytesAV s) := by
    rw [bytesAV_eq]
    exact mapM_sc _
  rw [e3]
  rfl
theorem w_extr {vs : List AV} {i : Nat} {x : AV} {K : AV → Option AV} {r : Option AV} (hx : vs[i]? = some x) (h : K x = r) : pExtr (.tup vs) i (fun t => K t) = r := by
  show (vs[i]?).bind _ = r
  rw [hx]
  exact h

theorem count_loop (n : Nat) (hn : 1048576 < n) (k : AV → Heap → Option AV) (s : ByteArray) (hs : s.size ≤ 60) : ∀ (b m pos c : Nat), s.size ≤ pos + b → pos ≤ s.size → c ≤ pos → b < m →
    ∃ r : Int, f104_l0 (PR (n + 2) AV) (n + 2) k m (.sl 0 0 s.size 1) (.sc (.int .i64 c)) (.sc (.int .i64 pos)) [⟨bytesAV s, true, false⟩] = k (.sc (.int .i64 r)) [⟨bytesAV s, true, false⟩] ∧ (textGo b (s.data.toList.drop pos) = true → 0 ≤ r) ∧ (textGo b (s.data.toList.drop pos) = false → r = -1)
  | b, m + 1, pos, c, hb, hp, hc, hm => by
    rw [f104_l0]
    simp only [PR_len, PR_bin, PR_cond, PR_extr, PR_un, PR_guard, PR_pick]
    have hlen : ∀ k : AV → Option AV, pLen (.sl 0 0 s.size 1) k = k (.sc (.int .i64 s.size)) := fun _ => rfl
    rw [hlen, lss_nat, cond_b]
    by_cases hlt : pos < s.size
    · rw [if_pos (by simpa using hlt)]
      obtain ⟨b, rfl⟩ : ∃ b', b = b' + 1 := ⟨b - 1, by omega⟩
      have hne : s.data.toList.drop pos ≠ [] := by
        intro h
        have := congrArg List.length h
        simp at this
        omega
      have hw := Lib.decodeL_width (s.data.toList.drop pos)
      have hle := Lib.decodeL_le (s.data.toList.drop pos) hne
      have hll : (s.data.toList.drop pos).length = s.size - pos := by simp
      rw [hll] at hle
      rw [textGo, if_neg hne]
      generalize hd : Lib.decodeL (s.data.toList.drop pos) = d at hw hle ⊢
      have ht := runeAtF n hn s pos (by omega) hlt
      rw [hd] at ht
      rw [PR_call (vs := [bytesC s, .sc (.int .i64 pos)]) rfl (vcons (Vw_bytes s) (vcons (Vw_sc _ _) vnil)) ht]
      by_cases hf : d.1 = 65533 ∧ d.2 = 1
      · rw [runeAV, if_pos hf, inst_tup3, List.append_nil, if_pos hf]
        refine ⟨-1, ?_, (fun h => by cases h), (fun _ => rfl)⟩
        refine w_extr rfl ?_
        refine w_extr rfl ?_
        refine w_extr rfl ?_
        refine w_not ?_
        refine w_hF rfl ?_
        refine w_hF rfl ?_
        refine w_pT rfl ?_
        refine w_cT rfl ?_
        rfl
      · rw [runeAV, if_neg hf, inst_tup3, List.append_nil, if_neg hf]
        by_cases hz : d.1 = 0
        · rw [if_pos hz]
          refine ⟨-1, ?_, (fun h => by cases h), (fun _ => rfl)⟩
          refine w_extr rfl ?_
          refine w_extr rfl ?_
          refine w_extr rfl ?_
          refine w_not ?_
          refine w_hT rfl ?_
          refine w_hT rfl ?_
          refine w_bin (v := .sc (.bool ((d.1 : Int) == 0))) (fun k => rfl) ?_
          refine w_pF rfl ?_
          refine w_cT (by simp [hz]) ?_
          rfl
        · rw [if_neg hz, List.drop_drop]
          obtain ⟨r, h1, h2, h3⟩ := count_loop n hn k s hs b m (pos + d.2) (c + 1) (by omega) (by omega) (by omega) (by omega)
          refine ⟨r, ?_, h2, h3⟩
          refine w_extr rfl ?_
          refine w_extr rfl ?_
          refine w_extr rfl ?_
          refine w_not ?_
          refine w_hT rfl ?_
          refine w_hT rfl ?_
          refine w_bin (v := .sc (.bool ((d.1 : Int) == 0))) (fun k => rfl) ?_
          refine w_pF rfl ?_
          refine w_cF (by simp; omega) ?_
          rw [inc_nat _ _ (by omega)]
          exact h1
    · rw [if_neg (by simpa using hlt)]
      have hnil : s.data.toList.drop pos = [] := by
        apply List.drop_of_length_le
        simp
        omega
      refine ⟨c, rfl, fun _ => by omega, fun h => ?_⟩
      rw [hnil] at h
      cases b <;> simp [textGo] at h

theorem countF (n : Nat) (hn : 1048576 < n) (ty : Nat) (s : ByteArray) : ∃ r : Int, tree E0 (n + 3) ty 104 [.sc (.string s)] = some (.sc (.int .i64 r)) ∧ (vTextOk s = true → 0 ≤ r) ∧ (vTextOk s = false → r = -1) := by
  rw [tree_def, f104_eq, f104]
  simp only [PR_lenS, PR_bin, PR_cond, PR_cvSB]
  unfold vTextOk
  by_cases h : s.size ≤ 60
  · obtain ⟨r, h1, h2, h3⟩ := count_loop n hn (fun x H => ownTree ti0 E0.tp ty H x) s h s.size (n + 2) 0 0 (by omega) (by omega) (by omega) (by omega)
    refine ⟨r, ?_, ?_, ?_⟩
    · refine w_lenS ?_
      refine w_bin (v := .sc (.bool (decide ((s.size : Int) > 60)))) (fun k => rfl) ?_
      refine w_cF (by simp; omega) ?_
      simp only [pCvSB, asS, Option.bind_some]
      rw [if_pos (by omega)]
      exact h1
    · intro hv
      refine h2 ?_
      simpa [h] using hv
    · intro hv
      refine h3 ?_
      simpa [h] using hv
  · refine ⟨-1, ?_, (fun hv => by simp [h] at hv), (fun _ => rfl)⟩
    refine w_lenS ?_
    refine w_bin (v := .sc (.bool (decide ((s.size : Int) > 60)))) (fun k => rfl) ?_
    refine w_cT (by simp; omega) ?_
    rfl
theorem specTextF (n : Nat) (hn : 1048576 < n) (ty : Nat) (s : ByteArray) : tree E0 (n + 4) ty 69 [.sc (.string s)] = some (.sc (.bool (vTextOk s))) := by
  rw [tree_def, f69_eq, f69]
  simp only [PR_bin]
  obtain ⟨r, h1, h2, h3⟩ := countF n hn 3 s
  refine lw_sc rfl (vcons (Vw_sc _ _) vnil) h1 ?_
  refine w_bin (v := .sc (.bool (decide (r ≥ 0)))) (fun k => rfl) ?_
  refine w_endB ?_
  cases hv : vTextOk s
  · rw [h3 hv]
    rfl
  · simpa using h2 hv
theorem lw_ext {β : Type} {n : Nat} {H : Heap} {r : Option β} {ty f : Nat} {g : Nat → List AV → Option AV} {args vs : List AV} {v : Value} {K : AV → Heap → Option β} (hg : E0.ext f = some g) (hv : args.mapM (viewV H 8) = some vs) (ht : g ty vs = some (.sc v)) (h : K (.sc v) H = r) : (PR n β).call ty (.fn f [] []) args H (fun x H => K x H) = r := by
  rw [PR_ext hg hv ht, instT_sc, List.append_nil]
  exact h
theorem implTextF (ty : Nat) (s : ByteArray) (hs : okS s) : ext96 ty [.sc (.string s)] = some (.sc (.bool (vTextOk s))) := by
  have hm : maxLen = 9223372036854775807 := by decide
  show (if s.size ≤ maxLen then _ else _) = _
  rw [hm, if_pos (show s.size ≤ 9223372036854775807 from hs)]

end Go.Proofs.YtpcgppelelfmiaaDoor.Abs
